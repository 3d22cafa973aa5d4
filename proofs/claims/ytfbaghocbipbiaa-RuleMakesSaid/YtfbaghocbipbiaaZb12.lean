/- The reference's AttrsFault. -/
import Derived.Test.YtfbaghocbipbiaaZb11
namespace Go.Proofs.Ytfbaghocbipbiaa
open Go Go.Vg
def inv22 (l : List D) : Nat → Option Inv
 | 4 => some ⟨Nat, fun i => [(15, .d (i64 i))], fun _ => [], fun s => (slotN s 15).toNat, fun _ i => i ≤ l.length ∧ afN l i = 0, fun i => l.length - i⟩
 | 18 => some ⟨Nat, fun j => [(83, .d (i64 j))], fun _ => [], fun s => (slotN s 83).toNat, fun s j => j ≤ (slotN s 3).toNat ∧ has (kOf (l.getD (slotN s 3).toNat default)) (l.take j) = false, fun j => l.length - j⟩
 | _ => none
--KEEP Go.Vg.eqB isAt okl fi fx kOf vOf vl has isb hid fitB afI afN afE hL vL cH cV atP atL sameB clV clP belB szR oneV flgB belN objB valB kdP lastK kdL szP sndB msL ouV ouL tkI tkN mkF mkE mkL flg d0V dH upH upV d1H d1V setV d2V mdE mdH mdV okv Go.Vg.ones
set_option maxRecDepth 100000 in
theorem vc22  (l : List D) (F : D)  :
    (owed c0 (inv22 l) Try.f22 [.slc 2 l] F) = (
 True ∧
 True ∧
 True ∧
 True ∧
 match decide ((↑l.length : Int) > (24 : Int)) with
 | true => True ∧ (false = false ∧ True) ∧ D.val (Value.int IntKind.i64 (2 : Int)) = F
 | false =>
  True ∧
  True ∧
  True ∧
  (((AV.d (D.val (Value.int IntKind.i64 (0 : Int))) = AV.d (D.val (Value.int IntKind.i64 (↑(Int.toNat (0 : Int)) : Int))) ∧ True) ∧ True ∧ true = true) ∧ Int.toNat (0 : Int) ≤ l.length ∧ afN l (Int.toNat (0 : Int)) = (0 : Int)) ∧
  ∀ (x : Nat),
  x ≤ l.length ∧ afN l x = (0 : Int) →
  true = true ∧
  True ∧
  match decide ((↑x : Int) < (↑l.length : Int)) with
  | true =>
   True ∧
   ((0 : Int) ≤ (↑x : Int) ∧
   (↑x : Int) < (↑l.length : Int) ∧ (2 : Nat) ≠ (0 : Nat) ∧ (2 : Nat) = (2 : Nat) ∧ D.st [D.val (Value.int IntKind.i64 (numOf (fldOf (l.getD (↑x : Int).toNat (D.val (Value.bool false))) (0 : Nat)))), D.ints IntKind.u8 (intsOf (fldOf (l.getD (↑x : Int).toNat (D.val (Value.bool false))) (1 : Nat)))] = l.getD (↑x : Int).toNat (D.val (Value.bool false))) ∧
   ((2 : Nat) ≠ (0 : Nat) ∧ (2 : Nat) = (2 : Nat) ∧ true = true) ∧
   (True ∧ (2 : Nat) ≠ (0 : Nat)) ∧
   True ∧
   (Sk.st [Sk.one, Sk.one] = Sk.st [Sk.one, Sk.one] ∧ (2 : Nat) ≠ (0 : Nat) ∧ (2 : Nat) = (2 : Nat) ∧ false = false) ∧
   (Sk.st [Sk.one, Sk.one] = Sk.st [Sk.one, Sk.one] ∧ (0 : Nat) < (2 : Nat)) ∧
   ((1 : Nat) ≠ (0 : Nat) ∧ (1 : Nat) = (1 : Nat) ∧ false = false) ∧
   True ∧
   True ∧
   match decide (numOf (fldOf (l.getD (↑x : Int).toNat (D.val (Value.bool false))) (0 : Nat)) < (1 : Int)) with
   | true => True ∧ True ∧ (false = false ∧ True) ∧ D.val (Value.int IntKind.i64 (13 : Int)) = F
   | false =>
    (Sk.st [Sk.one, Sk.one] = Sk.st [Sk.one, Sk.one] ∧ (0 : Nat) < (2 : Nat)) ∧
    ((1 : Nat) ≠ (0 : Nat) ∧ (1 : Nat) = (1 : Nat) ∧ false = false) ∧
    True ∧
    True ∧
    match decide (numOf (fldOf (l.getD (↑x : Int).toNat (D.val (Value.bool false))) (0 : Nat)) > (18 : Int)) with
    | true => True ∧ (false = false ∧ True) ∧ D.val (Value.int IntKind.i64 (13 : Int)) = F
    | false =>
     (Sk.st [Sk.one, Sk.one] = Sk.st [Sk.one, Sk.one] ∧ (1 : Nat) < (2 : Nat)) ∧
     ((1 : Nat) ≠ (0 : Nat) ∧ (1 : Nat) = (1 : Nat) ∧ false = false) ∧
     True ∧
     True ∧
     True ∧
     True ∧
     (Sk.st [Sk.one, Sk.one] = Sk.st [Sk.one, Sk.one] ∧ (0 : Nat) < (2 : Nat)) ∧
     ((1 : Nat) ≠ (0 : Nat) ∧ (1 : Nat) = (1 : Nat) ∧ false = false) ∧
     True ∧
     True ∧
     match numOf (fldOf (l.getD (↑x : Int).toNat (D.val (Value.bool false))) (0 : Nat)) == (2 : Int) with
     | true =>
      True ∧
      True ∧
      True ∧
      True ∧
      True ∧
      True ∧
      True ∧
      True ∧
      True ∧
      True ∧
      True ∧
      match decide ((↑(intsOf (fldOf (l.getD (↑x : Int).toNat (D.val (Value.bool false))) (1 : Nat))).length : Int) > (32 : Int)) with
      | true => True ∧ (false = false ∧ True) ∧ D.val (Value.int IntKind.i64 (4 : Int)) = F
      | false =>
       (Sk.st [Sk.one, Sk.one] = Sk.st [Sk.one, Sk.one] ∧ (0 : Nat) < (2 : Nat)) ∧
       ((1 : Nat) ≠ (0 : Nat) ∧ (1 : Nat) = (1 : Nat) ∧ false = false) ∧
       True ∧
       True ∧
       match numOf (fldOf (l.getD (↑x : Int).toNat (D.val (Value.bool false))) (0 : Nat)) == (1 : Int) with
       | true =>
        (Sk.st [Sk.one, Sk.one] = Sk.st [Sk.one, Sk.one] ∧ (1 : Nat) < (2 : Nat)) ∧
        ((1 : Nat) ≠ (0 : Nat) ∧ (1 : Nat) = (1 : Nat) ∧ false = false) ∧
        ((0 : Int) ≤ (0 : Int) ∧ (0 : Int) < (↑(intsOf (fldOf (l.getD (↑x : Int).toNat (D.val (Value.bool false))) (1 : Nat))).length : Int) ∧ (1 : Nat) = (1 : Nat)) ∧
        ((1 : Nat) ≠ (0 : Nat) ∧ (1 : Nat) = (1 : Nat) ∧ false = false) ∧
        True ∧
        True ∧
        match decide ((intsOf (fldOf (l.getD (↑x : Int).toNat (D.val (Value.bool false))) (1 : Nat))).getD (Int.toNat (0 : Int)) (0 : Int) < (1 : Int)) with
        | true => True ∧ True ∧ True ∧ True ∧ True ∧ (false = false ∧ True) ∧ D.val (Value.int IntKind.i64 (4 : Int)) = F
        | false =>
         (Sk.st [Sk.one, Sk.one] = Sk.st [Sk.one, Sk.one] ∧ (1 : Nat) < (2 : Nat)) ∧
         ((1 : Nat) ≠ (0 : Nat) ∧ (1 : Nat) = (1 : Nat) ∧ false = false) ∧
         ((0 : Int) ≤ (0 : Int) ∧ (0 : Int) < (↑(intsOf (fldOf (l.getD (↑x : Int).toNat (D.val (Value.bool false))) (1 : Nat))).length : Int) ∧ (1 : Nat) = (1 : Nat)) ∧
         ((1 : Nat) ≠ (0 : Nat) ∧ (1 : Nat) = (1 : Nat) ∧ false = false) ∧
         True ∧
         True ∧
         True ∧
         True ∧
         match decide ((intsOf (fldOf (l.getD (↑x : Int).toNat (D.val (Value.bool false))) (1 : Nat))).getD (Int.toNat (0 : Int)) (0 : Int) > (4 : Int)) with
         | true => True ∧ True ∧ (false = false ∧ True) ∧ D.val (Value.int IntKind.i64 (4 : Int)) = F
         | false =>
          (Sk.st [Sk.one, Sk.one] = Sk.st [Sk.one, Sk.one] ∧ (0 : Nat) < (2 : Nat)) ∧
          ((1 : Nat) ≠ (0 : Nat) ∧ (1 : Nat) = (1 : Nat) ∧ false = false) ∧
          True ∧
          True ∧
          match decide (numOf (fldOf (l.getD (↑x : Int).toNat (D.val (Value.bool false))) (0 : Nat)) > (4 : Int)) with
          | true =>
           (Sk.st [Sk.one, Sk.one] = Sk.st [Sk.one, Sk.one] ∧ (1 : Nat) < (2 : Nat)) ∧
           ((1 : Nat) ≠ (0 : Nat) ∧ (1 : Nat) = (1 : Nat) ∧ false = false) ∧
           ((0 : Int) ≤ (0 : Int) ∧ (0 : Int) < (↑(intsOf (fldOf (l.getD (↑x : Int).toNat (D.val (Value.bool false))) (1 : Nat))).length : Int) ∧ (1 : Nat) = (1 : Nat)) ∧
           ((1 : Nat) ≠ (0 : Nat) ∧ (1 : Nat) = (1 : Nat) ∧ false = false) ∧
           True ∧
           True ∧
           True ∧
           match decide ((intsOf (fldOf (l.getD (↑x : Int).toNat (D.val (Value.bool false))) (1 : Nat))).getD (Int.toNat (0 : Int)) (0 : Int) > (1 : Int)) with
           | true => True ∧ (false = false ∧ True) ∧ D.val (Value.int IntKind.i64 (4 : Int)) = F
           | false =>
            True ∧
            True ∧
            ((0 : Int) ≤ (0 : Int) ∧ (0 : Int) ≤ (↑x : Int) ∧ (↑x : Int) ≤ (↑l.length : Int) ∧ (2 : Nat) ≠ (0 : Nat) ∧ (2 : Nat) = (2 : Nat)) ∧
            True ∧
            True ∧
            (((AV.d (D.val (Value.int IntKind.i64 (0 : Int))) = AV.d (D.val (Value.int IntKind.i64 (↑(Int.toNat (0 : Int)) : Int))) ∧ True) ∧
            (sm
            (some
            (Blk.fix
            (D.st
            [D.val (Value.int IntKind.i64 (numOf (fldOf (l.getD (↑x : Int).toNat (D.val (Value.bool false))) (0 : Nat)))),
            D.ints IntKind.u8 (intsOf (fldOf (l.getD (↑x : Int).toNat (D.val (Value.bool false))) (1 : Nat)))]))) ∧
            True) ∧
            true = true) ∧
            Int.toNat (0 : Int) ≤ (↑x : Int).toNat ∧ has (kOf (l.getD (↑x : Int).toNat (D.val (Value.bool false)))) (List.take (Int.toNat (0 : Int)) l) = false) ∧
            ∀ (x_1 : Nat),
            x_1 ≤ (↑x : Int).toNat ∧ has (kOf (l.getD (↑x : Int).toNat (D.val (Value.bool false)))) (List.take x_1 l) = false →
            true = true ∧
            True ∧
            match decide ((↑x_1 : Int) < (↑(List.drop (Int.toNat (0 : Int)) (List.take (↑x : Int).toNat l)).length : Int)) with
            | true =>
             ((0 : Int) ≤ (↑x_1 : Int) ∧
             (↑x_1 : Int) < (↑(List.drop (Int.toNat (0 : Int)) (List.take (↑x : Int).toNat l)).length : Int) ∧
             (2 : Nat) ≠ (0 : Nat) ∧
             (2 : Nat) = (2 : Nat) ∧
             D.st
             [D.val (Value.int IntKind.i64 (numOf (fldOf ((List.drop (Int.toNat (0 : Int)) (List.take (↑x : Int).toNat l)).getD (↑x_1 : Int).toNat (D.val (Value.bool false))) (0 : Nat)))),
             D.ints IntKind.u8 (intsOf (fldOf ((List.drop (Int.toNat (0 : Int)) (List.take (↑x : Int).toNat l)).getD (↑x_1 : Int).toNat (D.val (Value.bool false))) (1 : Nat)))] =
             (List.drop (Int.toNat (0 : Int)) (List.take (↑x : Int).toNat l)).getD (↑x_1 : Int).toNat (D.val (Value.bool false))) ∧
             ((2 : Nat) ≠ (0 : Nat) ∧ (2 : Nat) = (2 : Nat) ∧ true = true) ∧
             (True ∧ (2 : Nat) ≠ (0 : Nat)) ∧
             (Sk.st [Sk.one, Sk.one] = Sk.st [Sk.one, Sk.one] ∧ (2 : Nat) ≠ (0 : Nat) ∧ (2 : Nat) = (2 : Nat) ∧ false = false) ∧
             (Sk.st [Sk.one, Sk.one] = Sk.st [Sk.one, Sk.one] ∧ (0 : Nat) < (2 : Nat)) ∧
             ((1 : Nat) ≠ (0 : Nat) ∧ (1 : Nat) = (1 : Nat) ∧ false = false) ∧
             (Sk.st [Sk.one, Sk.one] = Sk.st [Sk.one, Sk.one] ∧ (0 : Nat) < (2 : Nat)) ∧
             ((1 : Nat) ≠ (0 : Nat) ∧ (1 : Nat) = (1 : Nat) ∧ false = false) ∧
             True ∧
             match
             numOf (fldOf ((List.drop (Int.toNat (0 : Int)) (List.take (↑x : Int).toNat l)).getD (↑x_1 : Int).toNat (D.val (Value.bool false))) (0 : Nat)) ==
             numOf (fldOf (l.getD (↑x : Int).toNat (D.val (Value.bool false))) (0 : Nat)) with
             | true => True ∧ (false = false ∧ True) ∧ D.val (Value.int IntKind.i64 (1 : Int)) = F
             | false =>
              True ∧
              True ∧
              ((AV.d (D.val (Value.int IntKind.i64 (IntKind.i64.wrap ((↑x_1 : Int) + (1 : Int))))) =
              AV.d (D.val (Value.int IntKind.i64 (↑(IntKind.i64.wrap ((↑x_1 : Int) + (1 : Int))).toNat : Int))) ∧
              True) ∧
              (sm
              (some
              (Blk.fix
              (D.st
              [D.val (Value.int IntKind.i64 (numOf (fldOf (l.getD (↑x : Int).toNat (D.val (Value.bool false))) (0 : Nat)))),
              D.ints IntKind.u8 (intsOf (fldOf (l.getD (↑x : Int).toNat (D.val (Value.bool false))) (1 : Nat)))]))) ∧
              True) ∧
              true = true) ∧
              ((IntKind.i64.wrap ((↑x_1 : Int) + (1 : Int))).toNat ≤ (↑x : Int).toNat ∧
              has (kOf (l.getD (↑x : Int).toNat (D.val (Value.bool false)))) (List.take (IntKind.i64.wrap ((↑x_1 : Int) + (1 : Int))).toNat l) = false) ∧
              l.length - (IntKind.i64.wrap ((↑x_1 : Int) + (1 : Int))).toNat < l.length - x_1
            | false =>
             True ∧
             True ∧
             ((AV.d (D.val (Value.int IntKind.i64 (IntKind.i64.wrap ((↑x : Int) + (1 : Int))))) = AV.d (D.val (Value.int IntKind.i64 (↑(IntKind.i64.wrap ((↑x : Int) + (1 : Int))).toNat : Int))) ∧ True) ∧
             True ∧ true = true) ∧
             ((IntKind.i64.wrap ((↑x : Int) + (1 : Int))).toNat ≤ l.length ∧ afN l (IntKind.i64.wrap ((↑x : Int) + (1 : Int))).toNat = (0 : Int)) ∧
             l.length - (IntKind.i64.wrap ((↑x : Int) + (1 : Int))).toNat < l.length - x
          | false =>
           True ∧
           True ∧
           True ∧
           True ∧
           ((0 : Int) ≤ (0 : Int) ∧ (0 : Int) ≤ (↑x : Int) ∧ (↑x : Int) ≤ (↑l.length : Int) ∧ (2 : Nat) ≠ (0 : Nat) ∧ (2 : Nat) = (2 : Nat)) ∧
           True ∧
           True ∧
           (((AV.d (D.val (Value.int IntKind.i64 (0 : Int))) = AV.d (D.val (Value.int IntKind.i64 (↑(Int.toNat (0 : Int)) : Int))) ∧ True) ∧
           (sm
           (some
           (Blk.fix
           (D.st
           [D.val (Value.int IntKind.i64 (numOf (fldOf (l.getD (↑x : Int).toNat (D.val (Value.bool false))) (0 : Nat)))),
           D.ints IntKind.u8 (intsOf (fldOf (l.getD (↑x : Int).toNat (D.val (Value.bool false))) (1 : Nat)))]))) ∧
           True) ∧
           true = true) ∧
           Int.toNat (0 : Int) ≤ (↑x : Int).toNat ∧ has (kOf (l.getD (↑x : Int).toNat (D.val (Value.bool false)))) (List.take (Int.toNat (0 : Int)) l) = false) ∧
           ∀ (x_1 : Nat),
           x_1 ≤ (↑x : Int).toNat ∧ has (kOf (l.getD (↑x : Int).toNat (D.val (Value.bool false)))) (List.take x_1 l) = false →
           true = true ∧
           True ∧
           match decide ((↑x_1 : Int) < (↑(List.drop (Int.toNat (0 : Int)) (List.take (↑x : Int).toNat l)).length : Int)) with
           | true =>
            ((0 : Int) ≤ (↑x_1 : Int) ∧
            (↑x_1 : Int) < (↑(List.drop (Int.toNat (0 : Int)) (List.take (↑x : Int).toNat l)).length : Int) ∧
            (2 : Nat) ≠ (0 : Nat) ∧
            (2 : Nat) = (2 : Nat) ∧
            D.st
            [D.val (Value.int IntKind.i64 (numOf (fldOf ((List.drop (Int.toNat (0 : Int)) (List.take (↑x : Int).toNat l)).getD (↑x_1 : Int).toNat (D.val (Value.bool false))) (0 : Nat)))),
            D.ints IntKind.u8 (intsOf (fldOf ((List.drop (Int.toNat (0 : Int)) (List.take (↑x : Int).toNat l)).getD (↑x_1 : Int).toNat (D.val (Value.bool false))) (1 : Nat)))] =
            (List.drop (Int.toNat (0 : Int)) (List.take (↑x : Int).toNat l)).getD (↑x_1 : Int).toNat (D.val (Value.bool false))) ∧
            ((2 : Nat) ≠ (0 : Nat) ∧ (2 : Nat) = (2 : Nat) ∧ true = true) ∧
            (True ∧ (2 : Nat) ≠ (0 : Nat)) ∧
            (Sk.st [Sk.one, Sk.one] = Sk.st [Sk.one, Sk.one] ∧ (2 : Nat) ≠ (0 : Nat) ∧ (2 : Nat) = (2 : Nat) ∧ false = false) ∧
            (Sk.st [Sk.one, Sk.one] = Sk.st [Sk.one, Sk.one] ∧ (0 : Nat) < (2 : Nat)) ∧
            ((1 : Nat) ≠ (0 : Nat) ∧ (1 : Nat) = (1 : Nat) ∧ false = false) ∧
            (Sk.st [Sk.one, Sk.one] = Sk.st [Sk.one, Sk.one] ∧ (0 : Nat) < (2 : Nat)) ∧
            ((1 : Nat) ≠ (0 : Nat) ∧ (1 : Nat) = (1 : Nat) ∧ false = false) ∧
            True ∧
            match
            numOf (fldOf ((List.drop (Int.toNat (0 : Int)) (List.take (↑x : Int).toNat l)).getD (↑x_1 : Int).toNat (D.val (Value.bool false))) (0 : Nat)) ==
            numOf (fldOf (l.getD (↑x : Int).toNat (D.val (Value.bool false))) (0 : Nat)) with
            | true => True ∧ (false = false ∧ True) ∧ D.val (Value.int IntKind.i64 (1 : Int)) = F
            | false =>
             True ∧
             True ∧
             ((AV.d (D.val (Value.int IntKind.i64 (IntKind.i64.wrap ((↑x_1 : Int) + (1 : Int))))) = AV.d (D.val (Value.int IntKind.i64 (↑(IntKind.i64.wrap ((↑x_1 : Int) + (1 : Int))).toNat : Int))) ∧
             True) ∧
             (sm
             (some
             (Blk.fix
             (D.st
             [D.val (Value.int IntKind.i64 (numOf (fldOf (l.getD (↑x : Int).toNat (D.val (Value.bool false))) (0 : Nat)))),
             D.ints IntKind.u8 (intsOf (fldOf (l.getD (↑x : Int).toNat (D.val (Value.bool false))) (1 : Nat)))]))) ∧
             True) ∧
             true = true) ∧
             ((IntKind.i64.wrap ((↑x_1 : Int) + (1 : Int))).toNat ≤ (↑x : Int).toNat ∧
             has (kOf (l.getD (↑x : Int).toNat (D.val (Value.bool false)))) (List.take (IntKind.i64.wrap ((↑x_1 : Int) + (1 : Int))).toNat l) = false) ∧
             l.length - (IntKind.i64.wrap ((↑x_1 : Int) + (1 : Int))).toNat < l.length - x_1
           | false =>
            True ∧
            True ∧
            ((AV.d (D.val (Value.int IntKind.i64 (IntKind.i64.wrap ((↑x : Int) + (1 : Int))))) = AV.d (D.val (Value.int IntKind.i64 (↑(IntKind.i64.wrap ((↑x : Int) + (1 : Int))).toNat : Int))) ∧ True) ∧
            True ∧ true = true) ∧
            ((IntKind.i64.wrap ((↑x : Int) + (1 : Int))).toNat ≤ l.length ∧ afN l (IntKind.i64.wrap ((↑x : Int) + (1 : Int))).toNat = (0 : Int)) ∧
            l.length - (IntKind.i64.wrap ((↑x : Int) + (1 : Int))).toNat < l.length - x
       | false =>
        True ∧
        True ∧
        (Sk.st [Sk.one, Sk.one] = Sk.st [Sk.one, Sk.one] ∧ (0 : Nat) < (2 : Nat)) ∧
        ((1 : Nat) ≠ (0 : Nat) ∧ (1 : Nat) = (1 : Nat) ∧ false = false) ∧
        True ∧
        True ∧
        match decide (numOf (fldOf (l.getD (↑x : Int).toNat (D.val (Value.bool false))) (0 : Nat)) > (4 : Int)) with
        | true =>
         (Sk.st [Sk.one, Sk.one] = Sk.st [Sk.one, Sk.one] ∧ (1 : Nat) < (2 : Nat)) ∧
         ((1 : Nat) ≠ (0 : Nat) ∧ (1 : Nat) = (1 : Nat) ∧ false = false) ∧
         ((0 : Int) ≤ (0 : Int) ∧ (0 : Int) < (↑(intsOf (fldOf (l.getD (↑x : Int).toNat (D.val (Value.bool false))) (1 : Nat))).length : Int) ∧ (1 : Nat) = (1 : Nat)) ∧
         ((1 : Nat) ≠ (0 : Nat) ∧ (1 : Nat) = (1 : Nat) ∧ false = false) ∧
         True ∧
         True ∧
         True ∧
         match decide ((intsOf (fldOf (l.getD (↑x : Int).toNat (D.val (Value.bool false))) (1 : Nat))).getD (Int.toNat (0 : Int)) (0 : Int) > (1 : Int)) with
         | true => True ∧ (false = false ∧ True) ∧ D.val (Value.int IntKind.i64 (4 : Int)) = F
         | false =>
          True ∧
          True ∧
          ((0 : Int) ≤ (0 : Int) ∧ (0 : Int) ≤ (↑x : Int) ∧ (↑x : Int) ≤ (↑l.length : Int) ∧ (2 : Nat) ≠ (0 : Nat) ∧ (2 : Nat) = (2 : Nat)) ∧
          True ∧
          True ∧
          (((AV.d (D.val (Value.int IntKind.i64 (0 : Int))) = AV.d (D.val (Value.int IntKind.i64 (↑(Int.toNat (0 : Int)) : Int))) ∧ True) ∧
          (sm
          (some
          (Blk.fix
          (D.st [D.val (Value.int IntKind.i64 (numOf (fldOf (l.getD (↑x : Int).toNat (D.val (Value.bool false))) (0 : Nat)))), D.ints IntKind.u8 (intsOf (fldOf (l.getD (↑x : Int).toNat (D.val (Value.bool false))) (1 : Nat)))]))) ∧
          True) ∧
          true = true) ∧
          Int.toNat (0 : Int) ≤ (↑x : Int).toNat ∧ has (kOf (l.getD (↑x : Int).toNat (D.val (Value.bool false)))) (List.take (Int.toNat (0 : Int)) l) = false) ∧
          ∀ (x_1 : Nat),
          x_1 ≤ (↑x : Int).toNat ∧ has (kOf (l.getD (↑x : Int).toNat (D.val (Value.bool false)))) (List.take x_1 l) = false →
          true = true ∧
          True ∧
          match decide ((↑x_1 : Int) < (↑(List.drop (Int.toNat (0 : Int)) (List.take (↑x : Int).toNat l)).length : Int)) with
          | true =>
           ((0 : Int) ≤ (↑x_1 : Int) ∧
           (↑x_1 : Int) < (↑(List.drop (Int.toNat (0 : Int)) (List.take (↑x : Int).toNat l)).length : Int) ∧
           (2 : Nat) ≠ (0 : Nat) ∧
           (2 : Nat) = (2 : Nat) ∧
           D.st
           [D.val (Value.int IntKind.i64 (numOf (fldOf ((List.drop (Int.toNat (0 : Int)) (List.take (↑x : Int).toNat l)).getD (↑x_1 : Int).toNat (D.val (Value.bool false))) (0 : Nat)))),
           D.ints IntKind.u8 (intsOf (fldOf ((List.drop (Int.toNat (0 : Int)) (List.take (↑x : Int).toNat l)).getD (↑x_1 : Int).toNat (D.val (Value.bool false))) (1 : Nat)))] =
           (List.drop (Int.toNat (0 : Int)) (List.take (↑x : Int).toNat l)).getD (↑x_1 : Int).toNat (D.val (Value.bool false))) ∧
           ((2 : Nat) ≠ (0 : Nat) ∧ (2 : Nat) = (2 : Nat) ∧ true = true) ∧
           (True ∧ (2 : Nat) ≠ (0 : Nat)) ∧
           (Sk.st [Sk.one, Sk.one] = Sk.st [Sk.one, Sk.one] ∧ (2 : Nat) ≠ (0 : Nat) ∧ (2 : Nat) = (2 : Nat) ∧ false = false) ∧
           (Sk.st [Sk.one, Sk.one] = Sk.st [Sk.one, Sk.one] ∧ (0 : Nat) < (2 : Nat)) ∧
           ((1 : Nat) ≠ (0 : Nat) ∧ (1 : Nat) = (1 : Nat) ∧ false = false) ∧
           (Sk.st [Sk.one, Sk.one] = Sk.st [Sk.one, Sk.one] ∧ (0 : Nat) < (2 : Nat)) ∧
           ((1 : Nat) ≠ (0 : Nat) ∧ (1 : Nat) = (1 : Nat) ∧ false = false) ∧
           True ∧
           match
           numOf (fldOf ((List.drop (Int.toNat (0 : Int)) (List.take (↑x : Int).toNat l)).getD (↑x_1 : Int).toNat (D.val (Value.bool false))) (0 : Nat)) ==
           numOf (fldOf (l.getD (↑x : Int).toNat (D.val (Value.bool false))) (0 : Nat)) with
           | true => True ∧ (false = false ∧ True) ∧ D.val (Value.int IntKind.i64 (1 : Int)) = F
           | false =>
            True ∧
            True ∧
            ((AV.d (D.val (Value.int IntKind.i64 (IntKind.i64.wrap ((↑x_1 : Int) + (1 : Int))))) = AV.d (D.val (Value.int IntKind.i64 (↑(IntKind.i64.wrap ((↑x_1 : Int) + (1 : Int))).toNat : Int))) ∧ True) ∧
            (sm
            (some
            (Blk.fix
            (D.st
            [D.val (Value.int IntKind.i64 (numOf (fldOf (l.getD (↑x : Int).toNat (D.val (Value.bool false))) (0 : Nat)))),
            D.ints IntKind.u8 (intsOf (fldOf (l.getD (↑x : Int).toNat (D.val (Value.bool false))) (1 : Nat)))]))) ∧
            True) ∧
            true = true) ∧
            ((IntKind.i64.wrap ((↑x_1 : Int) + (1 : Int))).toNat ≤ (↑x : Int).toNat ∧
            has (kOf (l.getD (↑x : Int).toNat (D.val (Value.bool false)))) (List.take (IntKind.i64.wrap ((↑x_1 : Int) + (1 : Int))).toNat l) = false) ∧
            l.length - (IntKind.i64.wrap ((↑x_1 : Int) + (1 : Int))).toNat < l.length - x_1
          | false =>
           True ∧
           True ∧
           ((AV.d (D.val (Value.int IntKind.i64 (IntKind.i64.wrap ((↑x : Int) + (1 : Int))))) = AV.d (D.val (Value.int IntKind.i64 (↑(IntKind.i64.wrap ((↑x : Int) + (1 : Int))).toNat : Int))) ∧ True) ∧ True ∧ true = true) ∧
           ((IntKind.i64.wrap ((↑x : Int) + (1 : Int))).toNat ≤ l.length ∧ afN l (IntKind.i64.wrap ((↑x : Int) + (1 : Int))).toNat = (0 : Int)) ∧ l.length - (IntKind.i64.wrap ((↑x : Int) + (1 : Int))).toNat < l.length - x
        | false =>
         True ∧
         True ∧
         True ∧
         True ∧
         ((0 : Int) ≤ (0 : Int) ∧ (0 : Int) ≤ (↑x : Int) ∧ (↑x : Int) ≤ (↑l.length : Int) ∧ (2 : Nat) ≠ (0 : Nat) ∧ (2 : Nat) = (2 : Nat)) ∧
         True ∧
         True ∧
         (((AV.d (D.val (Value.int IntKind.i64 (0 : Int))) = AV.d (D.val (Value.int IntKind.i64 (↑(Int.toNat (0 : Int)) : Int))) ∧ True) ∧
         (sm (some (Blk.fix (D.st [D.val (Value.int IntKind.i64 (numOf (fldOf (l.getD (↑x : Int).toNat (D.val (Value.bool false))) (0 : Nat)))), D.ints IntKind.u8 (intsOf (fldOf (l.getD (↑x : Int).toNat (D.val (Value.bool false))) (1 : Nat)))]))) ∧ True) ∧
         true = true) ∧
         Int.toNat (0 : Int) ≤ (↑x : Int).toNat ∧ has (kOf (l.getD (↑x : Int).toNat (D.val (Value.bool false)))) (List.take (Int.toNat (0 : Int)) l) = false) ∧
         ∀ (x_1 : Nat),
         x_1 ≤ (↑x : Int).toNat ∧ has (kOf (l.getD (↑x : Int).toNat (D.val (Value.bool false)))) (List.take x_1 l) = false →
         true = true ∧
         True ∧
         match decide ((↑x_1 : Int) < (↑(List.drop (Int.toNat (0 : Int)) (List.take (↑x : Int).toNat l)).length : Int)) with
         | true =>
          ((0 : Int) ≤ (↑x_1 : Int) ∧
          (↑x_1 : Int) < (↑(List.drop (Int.toNat (0 : Int)) (List.take (↑x : Int).toNat l)).length : Int) ∧
          (2 : Nat) ≠ (0 : Nat) ∧
          (2 : Nat) = (2 : Nat) ∧
          D.st
          [D.val (Value.int IntKind.i64 (numOf (fldOf ((List.drop (Int.toNat (0 : Int)) (List.take (↑x : Int).toNat l)).getD (↑x_1 : Int).toNat (D.val (Value.bool false))) (0 : Nat)))),
          D.ints IntKind.u8 (intsOf (fldOf ((List.drop (Int.toNat (0 : Int)) (List.take (↑x : Int).toNat l)).getD (↑x_1 : Int).toNat (D.val (Value.bool false))) (1 : Nat)))] =
          (List.drop (Int.toNat (0 : Int)) (List.take (↑x : Int).toNat l)).getD (↑x_1 : Int).toNat (D.val (Value.bool false))) ∧
          ((2 : Nat) ≠ (0 : Nat) ∧ (2 : Nat) = (2 : Nat) ∧ true = true) ∧
          (True ∧ (2 : Nat) ≠ (0 : Nat)) ∧
          (Sk.st [Sk.one, Sk.one] = Sk.st [Sk.one, Sk.one] ∧ (2 : Nat) ≠ (0 : Nat) ∧ (2 : Nat) = (2 : Nat) ∧ false = false) ∧
          (Sk.st [Sk.one, Sk.one] = Sk.st [Sk.one, Sk.one] ∧ (0 : Nat) < (2 : Nat)) ∧
          ((1 : Nat) ≠ (0 : Nat) ∧ (1 : Nat) = (1 : Nat) ∧ false = false) ∧
          (Sk.st [Sk.one, Sk.one] = Sk.st [Sk.one, Sk.one] ∧ (0 : Nat) < (2 : Nat)) ∧
          ((1 : Nat) ≠ (0 : Nat) ∧ (1 : Nat) = (1 : Nat) ∧ false = false) ∧
          True ∧
          match
          numOf (fldOf ((List.drop (Int.toNat (0 : Int)) (List.take (↑x : Int).toNat l)).getD (↑x_1 : Int).toNat (D.val (Value.bool false))) (0 : Nat)) ==
          numOf (fldOf (l.getD (↑x : Int).toNat (D.val (Value.bool false))) (0 : Nat)) with
          | true => True ∧ (false = false ∧ True) ∧ D.val (Value.int IntKind.i64 (1 : Int)) = F
          | false =>
           True ∧
           True ∧
           ((AV.d (D.val (Value.int IntKind.i64 (IntKind.i64.wrap ((↑x_1 : Int) + (1 : Int))))) = AV.d (D.val (Value.int IntKind.i64 (↑(IntKind.i64.wrap ((↑x_1 : Int) + (1 : Int))).toNat : Int))) ∧ True) ∧
           (sm
           (some
           (Blk.fix
           (D.st
           [D.val (Value.int IntKind.i64 (numOf (fldOf (l.getD (↑x : Int).toNat (D.val (Value.bool false))) (0 : Nat)))),
           D.ints IntKind.u8 (intsOf (fldOf (l.getD (↑x : Int).toNat (D.val (Value.bool false))) (1 : Nat)))]))) ∧
           True) ∧
           true = true) ∧
           ((IntKind.i64.wrap ((↑x_1 : Int) + (1 : Int))).toNat ≤ (↑x : Int).toNat ∧ has (kOf (l.getD (↑x : Int).toNat (D.val (Value.bool false)))) (List.take (IntKind.i64.wrap ((↑x_1 : Int) + (1 : Int))).toNat l) = false) ∧
           l.length - (IntKind.i64.wrap ((↑x_1 : Int) + (1 : Int))).toNat < l.length - x_1
         | false =>
          True ∧
          True ∧
          ((AV.d (D.val (Value.int IntKind.i64 (IntKind.i64.wrap ((↑x : Int) + (1 : Int))))) = AV.d (D.val (Value.int IntKind.i64 (↑(IntKind.i64.wrap ((↑x : Int) + (1 : Int))).toNat : Int))) ∧ True) ∧ True ∧ true = true) ∧
          ((IntKind.i64.wrap ((↑x : Int) + (1 : Int))).toNat ≤ l.length ∧ afN l (IntKind.i64.wrap ((↑x : Int) + (1 : Int))).toNat = (0 : Int)) ∧ l.length - (IntKind.i64.wrap ((↑x : Int) + (1 : Int))).toNat < l.length - x
     | false =>
      (Sk.st [Sk.one, Sk.one] = Sk.st [Sk.one, Sk.one] ∧ (0 : Nat) < (2 : Nat)) ∧
      ((1 : Nat) ≠ (0 : Nat) ∧ (1 : Nat) = (1 : Nat) ∧ false = false) ∧
      True ∧
      True ∧
      match numOf (fldOf (l.getD (↑x : Int).toNat (D.val (Value.bool false))) (0 : Nat)) == (3 : Int) with
      | true =>
       True ∧
       True ∧
       True ∧
       True ∧
       True ∧
       True ∧
       True ∧
       True ∧
       True ∧
       True ∧
       match decide ((↑(intsOf (fldOf (l.getD (↑x : Int).toNat (D.val (Value.bool false))) (1 : Nat))).length : Int) > (32 : Int)) with
       | true => True ∧ (false = false ∧ True) ∧ D.val (Value.int IntKind.i64 (4 : Int)) = F
       | false =>
        (Sk.st [Sk.one, Sk.one] = Sk.st [Sk.one, Sk.one] ∧ (0 : Nat) < (2 : Nat)) ∧
        ((1 : Nat) ≠ (0 : Nat) ∧ (1 : Nat) = (1 : Nat) ∧ false = false) ∧
        True ∧
        True ∧
        match numOf (fldOf (l.getD (↑x : Int).toNat (D.val (Value.bool false))) (0 : Nat)) == (1 : Int) with
        | true =>
         (Sk.st [Sk.one, Sk.one] = Sk.st [Sk.one, Sk.one] ∧ (1 : Nat) < (2 : Nat)) ∧
         ((1 : Nat) ≠ (0 : Nat) ∧ (1 : Nat) = (1 : Nat) ∧ false = false) ∧
         ((0 : Int) ≤ (0 : Int) ∧ (0 : Int) < (↑(intsOf (fldOf (l.getD (↑x : Int).toNat (D.val (Value.bool false))) (1 : Nat))).length : Int) ∧ (1 : Nat) = (1 : Nat)) ∧
         ((1 : Nat) ≠ (0 : Nat) ∧ (1 : Nat) = (1 : Nat) ∧ false = false) ∧
         True ∧
         True ∧
         match decide ((intsOf (fldOf (l.getD (↑x : Int).toNat (D.val (Value.bool false))) (1 : Nat))).getD (Int.toNat (0 : Int)) (0 : Int) < (1 : Int)) with
         | true => True ∧ True ∧ True ∧ True ∧ True ∧ (false = false ∧ True) ∧ D.val (Value.int IntKind.i64 (4 : Int)) = F
         | false =>
          (Sk.st [Sk.one, Sk.one] = Sk.st [Sk.one, Sk.one] ∧ (1 : Nat) < (2 : Nat)) ∧
          ((1 : Nat) ≠ (0 : Nat) ∧ (1 : Nat) = (1 : Nat) ∧ false = false) ∧
          ((0 : Int) ≤ (0 : Int) ∧ (0 : Int) < (↑(intsOf (fldOf (l.getD (↑x : Int).toNat (D.val (Value.bool false))) (1 : Nat))).length : Int) ∧ (1 : Nat) = (1 : Nat)) ∧
          ((1 : Nat) ≠ (0 : Nat) ∧ (1 : Nat) = (1 : Nat) ∧ false = false) ∧
          True ∧
          True ∧
          True ∧
          True ∧
          match decide ((intsOf (fldOf (l.getD (↑x : Int).toNat (D.val (Value.bool false))) (1 : Nat))).getD (Int.toNat (0 : Int)) (0 : Int) > (4 : Int)) with
          | true => True ∧ True ∧ (false = false ∧ True) ∧ D.val (Value.int IntKind.i64 (4 : Int)) = F
          | false =>
           (Sk.st [Sk.one, Sk.one] = Sk.st [Sk.one, Sk.one] ∧ (0 : Nat) < (2 : Nat)) ∧
           ((1 : Nat) ≠ (0 : Nat) ∧ (1 : Nat) = (1 : Nat) ∧ false = false) ∧
           True ∧
           True ∧
           match decide (numOf (fldOf (l.getD (↑x : Int).toNat (D.val (Value.bool false))) (0 : Nat)) > (4 : Int)) with
           | true =>
            (Sk.st [Sk.one, Sk.one] = Sk.st [Sk.one, Sk.one] ∧ (1 : Nat) < (2 : Nat)) ∧
            ((1 : Nat) ≠ (0 : Nat) ∧ (1 : Nat) = (1 : Nat) ∧ false = false) ∧
            ((0 : Int) ≤ (0 : Int) ∧ (0 : Int) < (↑(intsOf (fldOf (l.getD (↑x : Int).toNat (D.val (Value.bool false))) (1 : Nat))).length : Int) ∧ (1 : Nat) = (1 : Nat)) ∧
            ((1 : Nat) ≠ (0 : Nat) ∧ (1 : Nat) = (1 : Nat) ∧ false = false) ∧
            True ∧
            True ∧
            True ∧
            match decide ((intsOf (fldOf (l.getD (↑x : Int).toNat (D.val (Value.bool false))) (1 : Nat))).getD (Int.toNat (0 : Int)) (0 : Int) > (1 : Int)) with
            | true => True ∧ (false = false ∧ True) ∧ D.val (Value.int IntKind.i64 (4 : Int)) = F
            | false =>
             True ∧
             True ∧
             ((0 : Int) ≤ (0 : Int) ∧ (0 : Int) ≤ (↑x : Int) ∧ (↑x : Int) ≤ (↑l.length : Int) ∧ (2 : Nat) ≠ (0 : Nat) ∧ (2 : Nat) = (2 : Nat)) ∧
             True ∧
             True ∧
             (((AV.d (D.val (Value.int IntKind.i64 (0 : Int))) = AV.d (D.val (Value.int IntKind.i64 (↑(Int.toNat (0 : Int)) : Int))) ∧ True) ∧
             (sm
             (some
             (Blk.fix
             (D.st
             [D.val (Value.int IntKind.i64 (numOf (fldOf (l.getD (↑x : Int).toNat (D.val (Value.bool false))) (0 : Nat)))),
             D.ints IntKind.u8 (intsOf (fldOf (l.getD (↑x : Int).toNat (D.val (Value.bool false))) (1 : Nat)))]))) ∧
             True) ∧
             true = true) ∧
             Int.toNat (0 : Int) ≤ (↑x : Int).toNat ∧ has (kOf (l.getD (↑x : Int).toNat (D.val (Value.bool false)))) (List.take (Int.toNat (0 : Int)) l) = false) ∧
             ∀ (x_1 : Nat),
             x_1 ≤ (↑x : Int).toNat ∧ has (kOf (l.getD (↑x : Int).toNat (D.val (Value.bool false)))) (List.take x_1 l) = false →
             true = true ∧
             True ∧
             match decide ((↑x_1 : Int) < (↑(List.drop (Int.toNat (0 : Int)) (List.take (↑x : Int).toNat l)).length : Int)) with
             | true =>
              ((0 : Int) ≤ (↑x_1 : Int) ∧
              (↑x_1 : Int) < (↑(List.drop (Int.toNat (0 : Int)) (List.take (↑x : Int).toNat l)).length : Int) ∧
              (2 : Nat) ≠ (0 : Nat) ∧
              (2 : Nat) = (2 : Nat) ∧
              D.st
              [D.val (Value.int IntKind.i64 (numOf (fldOf ((List.drop (Int.toNat (0 : Int)) (List.take (↑x : Int).toNat l)).getD (↑x_1 : Int).toNat (D.val (Value.bool false))) (0 : Nat)))),
              D.ints IntKind.u8 (intsOf (fldOf ((List.drop (Int.toNat (0 : Int)) (List.take (↑x : Int).toNat l)).getD (↑x_1 : Int).toNat (D.val (Value.bool false))) (1 : Nat)))] =
              (List.drop (Int.toNat (0 : Int)) (List.take (↑x : Int).toNat l)).getD (↑x_1 : Int).toNat (D.val (Value.bool false))) ∧
              ((2 : Nat) ≠ (0 : Nat) ∧ (2 : Nat) = (2 : Nat) ∧ true = true) ∧
              (True ∧ (2 : Nat) ≠ (0 : Nat)) ∧
              (Sk.st [Sk.one, Sk.one] = Sk.st [Sk.one, Sk.one] ∧ (2 : Nat) ≠ (0 : Nat) ∧ (2 : Nat) = (2 : Nat) ∧ false = false) ∧
              (Sk.st [Sk.one, Sk.one] = Sk.st [Sk.one, Sk.one] ∧ (0 : Nat) < (2 : Nat)) ∧
              ((1 : Nat) ≠ (0 : Nat) ∧ (1 : Nat) = (1 : Nat) ∧ false = false) ∧
              (Sk.st [Sk.one, Sk.one] = Sk.st [Sk.one, Sk.one] ∧ (0 : Nat) < (2 : Nat)) ∧
              ((1 : Nat) ≠ (0 : Nat) ∧ (1 : Nat) = (1 : Nat) ∧ false = false) ∧
              True ∧
              match
              numOf (fldOf ((List.drop (Int.toNat (0 : Int)) (List.take (↑x : Int).toNat l)).getD (↑x_1 : Int).toNat (D.val (Value.bool false))) (0 : Nat)) ==
              numOf (fldOf (l.getD (↑x : Int).toNat (D.val (Value.bool false))) (0 : Nat)) with
              | true => True ∧ (false = false ∧ True) ∧ D.val (Value.int IntKind.i64 (1 : Int)) = F
              | false =>
               True ∧
               True ∧
               ((AV.d (D.val (Value.int IntKind.i64 (IntKind.i64.wrap ((↑x_1 : Int) + (1 : Int))))) =
               AV.d (D.val (Value.int IntKind.i64 (↑(IntKind.i64.wrap ((↑x_1 : Int) + (1 : Int))).toNat : Int))) ∧
               True) ∧
               (sm
               (some
               (Blk.fix
               (D.st
               [D.val (Value.int IntKind.i64 (numOf (fldOf (l.getD (↑x : Int).toNat (D.val (Value.bool false))) (0 : Nat)))),
               D.ints IntKind.u8 (intsOf (fldOf (l.getD (↑x : Int).toNat (D.val (Value.bool false))) (1 : Nat)))]))) ∧
               True) ∧
               true = true) ∧
               ((IntKind.i64.wrap ((↑x_1 : Int) + (1 : Int))).toNat ≤ (↑x : Int).toNat ∧
               has (kOf (l.getD (↑x : Int).toNat (D.val (Value.bool false)))) (List.take (IntKind.i64.wrap ((↑x_1 : Int) + (1 : Int))).toNat l) = false) ∧
               l.length - (IntKind.i64.wrap ((↑x_1 : Int) + (1 : Int))).toNat < l.length - x_1
             | false =>
              True ∧
              True ∧
              ((AV.d (D.val (Value.int IntKind.i64 (IntKind.i64.wrap ((↑x : Int) + (1 : Int))))) = AV.d (D.val (Value.int IntKind.i64 (↑(IntKind.i64.wrap ((↑x : Int) + (1 : Int))).toNat : Int))) ∧ True) ∧
              True ∧ true = true) ∧
              ((IntKind.i64.wrap ((↑x : Int) + (1 : Int))).toNat ≤ l.length ∧ afN l (IntKind.i64.wrap ((↑x : Int) + (1 : Int))).toNat = (0 : Int)) ∧
              l.length - (IntKind.i64.wrap ((↑x : Int) + (1 : Int))).toNat < l.length - x
           | false =>
            True ∧
            True ∧
            True ∧
            True ∧
            ((0 : Int) ≤ (0 : Int) ∧ (0 : Int) ≤ (↑x : Int) ∧ (↑x : Int) ≤ (↑l.length : Int) ∧ (2 : Nat) ≠ (0 : Nat) ∧ (2 : Nat) = (2 : Nat)) ∧
            True ∧
            True ∧
            (((AV.d (D.val (Value.int IntKind.i64 (0 : Int))) = AV.d (D.val (Value.int IntKind.i64 (↑(Int.toNat (0 : Int)) : Int))) ∧ True) ∧
            (sm
            (some
            (Blk.fix
            (D.st
            [D.val (Value.int IntKind.i64 (numOf (fldOf (l.getD (↑x : Int).toNat (D.val (Value.bool false))) (0 : Nat)))),
            D.ints IntKind.u8 (intsOf (fldOf (l.getD (↑x : Int).toNat (D.val (Value.bool false))) (1 : Nat)))]))) ∧
            True) ∧
            true = true) ∧
            Int.toNat (0 : Int) ≤ (↑x : Int).toNat ∧ has (kOf (l.getD (↑x : Int).toNat (D.val (Value.bool false)))) (List.take (Int.toNat (0 : Int)) l) = false) ∧
            ∀ (x_1 : Nat),
            x_1 ≤ (↑x : Int).toNat ∧ has (kOf (l.getD (↑x : Int).toNat (D.val (Value.bool false)))) (List.take x_1 l) = false →
            true = true ∧
            True ∧
            match decide ((↑x_1 : Int) < (↑(List.drop (Int.toNat (0 : Int)) (List.take (↑x : Int).toNat l)).length : Int)) with
            | true =>
             ((0 : Int) ≤ (↑x_1 : Int) ∧
             (↑x_1 : Int) < (↑(List.drop (Int.toNat (0 : Int)) (List.take (↑x : Int).toNat l)).length : Int) ∧
             (2 : Nat) ≠ (0 : Nat) ∧
             (2 : Nat) = (2 : Nat) ∧
             D.st
             [D.val (Value.int IntKind.i64 (numOf (fldOf ((List.drop (Int.toNat (0 : Int)) (List.take (↑x : Int).toNat l)).getD (↑x_1 : Int).toNat (D.val (Value.bool false))) (0 : Nat)))),
             D.ints IntKind.u8 (intsOf (fldOf ((List.drop (Int.toNat (0 : Int)) (List.take (↑x : Int).toNat l)).getD (↑x_1 : Int).toNat (D.val (Value.bool false))) (1 : Nat)))] =
             (List.drop (Int.toNat (0 : Int)) (List.take (↑x : Int).toNat l)).getD (↑x_1 : Int).toNat (D.val (Value.bool false))) ∧
             ((2 : Nat) ≠ (0 : Nat) ∧ (2 : Nat) = (2 : Nat) ∧ true = true) ∧
             (True ∧ (2 : Nat) ≠ (0 : Nat)) ∧
             (Sk.st [Sk.one, Sk.one] = Sk.st [Sk.one, Sk.one] ∧ (2 : Nat) ≠ (0 : Nat) ∧ (2 : Nat) = (2 : Nat) ∧ false = false) ∧
             (Sk.st [Sk.one, Sk.one] = Sk.st [Sk.one, Sk.one] ∧ (0 : Nat) < (2 : Nat)) ∧
             ((1 : Nat) ≠ (0 : Nat) ∧ (1 : Nat) = (1 : Nat) ∧ false = false) ∧
             (Sk.st [Sk.one, Sk.one] = Sk.st [Sk.one, Sk.one] ∧ (0 : Nat) < (2 : Nat)) ∧
             ((1 : Nat) ≠ (0 : Nat) ∧ (1 : Nat) = (1 : Nat) ∧ false = false) ∧
             True ∧
             match
             numOf (fldOf ((List.drop (Int.toNat (0 : Int)) (List.take (↑x : Int).toNat l)).getD (↑x_1 : Int).toNat (D.val (Value.bool false))) (0 : Nat)) ==
             numOf (fldOf (l.getD (↑x : Int).toNat (D.val (Value.bool false))) (0 : Nat)) with
             | true => True ∧ (false = false ∧ True) ∧ D.val (Value.int IntKind.i64 (1 : Int)) = F
             | false =>
              True ∧
              True ∧
              ((AV.d (D.val (Value.int IntKind.i64 (IntKind.i64.wrap ((↑x_1 : Int) + (1 : Int))))) =
              AV.d (D.val (Value.int IntKind.i64 (↑(IntKind.i64.wrap ((↑x_1 : Int) + (1 : Int))).toNat : Int))) ∧
              True) ∧
              (sm
              (some
              (Blk.fix
              (D.st
              [D.val (Value.int IntKind.i64 (numOf (fldOf (l.getD (↑x : Int).toNat (D.val (Value.bool false))) (0 : Nat)))),
              D.ints IntKind.u8 (intsOf (fldOf (l.getD (↑x : Int).toNat (D.val (Value.bool false))) (1 : Nat)))]))) ∧
              True) ∧
              true = true) ∧
              ((IntKind.i64.wrap ((↑x_1 : Int) + (1 : Int))).toNat ≤ (↑x : Int).toNat ∧
              has (kOf (l.getD (↑x : Int).toNat (D.val (Value.bool false)))) (List.take (IntKind.i64.wrap ((↑x_1 : Int) + (1 : Int))).toNat l) = false) ∧
              l.length - (IntKind.i64.wrap ((↑x_1 : Int) + (1 : Int))).toNat < l.length - x_1
            | false =>
             True ∧
             True ∧
             ((AV.d (D.val (Value.int IntKind.i64 (IntKind.i64.wrap ((↑x : Int) + (1 : Int))))) = AV.d (D.val (Value.int IntKind.i64 (↑(IntKind.i64.wrap ((↑x : Int) + (1 : Int))).toNat : Int))) ∧ True) ∧
             True ∧ true = true) ∧
             ((IntKind.i64.wrap ((↑x : Int) + (1 : Int))).toNat ≤ l.length ∧ afN l (IntKind.i64.wrap ((↑x : Int) + (1 : Int))).toNat = (0 : Int)) ∧
             l.length - (IntKind.i64.wrap ((↑x : Int) + (1 : Int))).toNat < l.length - x
        | false =>
         True ∧
         True ∧
         (Sk.st [Sk.one, Sk.one] = Sk.st [Sk.one, Sk.one] ∧ (0 : Nat) < (2 : Nat)) ∧
         ((1 : Nat) ≠ (0 : Nat) ∧ (1 : Nat) = (1 : Nat) ∧ false = false) ∧
         True ∧
         True ∧
         match decide (numOf (fldOf (l.getD (↑x : Int).toNat (D.val (Value.bool false))) (0 : Nat)) > (4 : Int)) with
         | true =>
          (Sk.st [Sk.one, Sk.one] = Sk.st [Sk.one, Sk.one] ∧ (1 : Nat) < (2 : Nat)) ∧
          ((1 : Nat) ≠ (0 : Nat) ∧ (1 : Nat) = (1 : Nat) ∧ false = false) ∧
          ((0 : Int) ≤ (0 : Int) ∧ (0 : Int) < (↑(intsOf (fldOf (l.getD (↑x : Int).toNat (D.val (Value.bool false))) (1 : Nat))).length : Int) ∧ (1 : Nat) = (1 : Nat)) ∧
          ((1 : Nat) ≠ (0 : Nat) ∧ (1 : Nat) = (1 : Nat) ∧ false = false) ∧
          True ∧
          True ∧
          True ∧
          match decide ((intsOf (fldOf (l.getD (↑x : Int).toNat (D.val (Value.bool false))) (1 : Nat))).getD (Int.toNat (0 : Int)) (0 : Int) > (1 : Int)) with
          | true => True ∧ (false = false ∧ True) ∧ D.val (Value.int IntKind.i64 (4 : Int)) = F
          | false =>
           True ∧
           True ∧
           ((0 : Int) ≤ (0 : Int) ∧ (0 : Int) ≤ (↑x : Int) ∧ (↑x : Int) ≤ (↑l.length : Int) ∧ (2 : Nat) ≠ (0 : Nat) ∧ (2 : Nat) = (2 : Nat)) ∧
           True ∧
           True ∧
           (((AV.d (D.val (Value.int IntKind.i64 (0 : Int))) = AV.d (D.val (Value.int IntKind.i64 (↑(Int.toNat (0 : Int)) : Int))) ∧ True) ∧
           (sm
           (some
           (Blk.fix
           (D.st
           [D.val (Value.int IntKind.i64 (numOf (fldOf (l.getD (↑x : Int).toNat (D.val (Value.bool false))) (0 : Nat)))), D.ints IntKind.u8 (intsOf (fldOf (l.getD (↑x : Int).toNat (D.val (Value.bool false))) (1 : Nat)))]))) ∧
           True) ∧
           true = true) ∧
           Int.toNat (0 : Int) ≤ (↑x : Int).toNat ∧ has (kOf (l.getD (↑x : Int).toNat (D.val (Value.bool false)))) (List.take (Int.toNat (0 : Int)) l) = false) ∧
           ∀ (x_1 : Nat),
           x_1 ≤ (↑x : Int).toNat ∧ has (kOf (l.getD (↑x : Int).toNat (D.val (Value.bool false)))) (List.take x_1 l) = false →
           true = true ∧
           True ∧
           match decide ((↑x_1 : Int) < (↑(List.drop (Int.toNat (0 : Int)) (List.take (↑x : Int).toNat l)).length : Int)) with
           | true =>
            ((0 : Int) ≤ (↑x_1 : Int) ∧
            (↑x_1 : Int) < (↑(List.drop (Int.toNat (0 : Int)) (List.take (↑x : Int).toNat l)).length : Int) ∧
            (2 : Nat) ≠ (0 : Nat) ∧
            (2 : Nat) = (2 : Nat) ∧
            D.st
            [D.val (Value.int IntKind.i64 (numOf (fldOf ((List.drop (Int.toNat (0 : Int)) (List.take (↑x : Int).toNat l)).getD (↑x_1 : Int).toNat (D.val (Value.bool false))) (0 : Nat)))),
            D.ints IntKind.u8 (intsOf (fldOf ((List.drop (Int.toNat (0 : Int)) (List.take (↑x : Int).toNat l)).getD (↑x_1 : Int).toNat (D.val (Value.bool false))) (1 : Nat)))] =
            (List.drop (Int.toNat (0 : Int)) (List.take (↑x : Int).toNat l)).getD (↑x_1 : Int).toNat (D.val (Value.bool false))) ∧
            ((2 : Nat) ≠ (0 : Nat) ∧ (2 : Nat) = (2 : Nat) ∧ true = true) ∧
            (True ∧ (2 : Nat) ≠ (0 : Nat)) ∧
            (Sk.st [Sk.one, Sk.one] = Sk.st [Sk.one, Sk.one] ∧ (2 : Nat) ≠ (0 : Nat) ∧ (2 : Nat) = (2 : Nat) ∧ false = false) ∧
            (Sk.st [Sk.one, Sk.one] = Sk.st [Sk.one, Sk.one] ∧ (0 : Nat) < (2 : Nat)) ∧
            ((1 : Nat) ≠ (0 : Nat) ∧ (1 : Nat) = (1 : Nat) ∧ false = false) ∧
            (Sk.st [Sk.one, Sk.one] = Sk.st [Sk.one, Sk.one] ∧ (0 : Nat) < (2 : Nat)) ∧
            ((1 : Nat) ≠ (0 : Nat) ∧ (1 : Nat) = (1 : Nat) ∧ false = false) ∧
            True ∧
            match
            numOf (fldOf ((List.drop (Int.toNat (0 : Int)) (List.take (↑x : Int).toNat l)).getD (↑x_1 : Int).toNat (D.val (Value.bool false))) (0 : Nat)) ==
            numOf (fldOf (l.getD (↑x : Int).toNat (D.val (Value.bool false))) (0 : Nat)) with
            | true => True ∧ (false = false ∧ True) ∧ D.val (Value.int IntKind.i64 (1 : Int)) = F
            | false =>
             True ∧
             True ∧
             ((AV.d (D.val (Value.int IntKind.i64 (IntKind.i64.wrap ((↑x_1 : Int) + (1 : Int))))) = AV.d (D.val (Value.int IntKind.i64 (↑(IntKind.i64.wrap ((↑x_1 : Int) + (1 : Int))).toNat : Int))) ∧ True) ∧
             (sm
             (some
             (Blk.fix
             (D.st
             [D.val (Value.int IntKind.i64 (numOf (fldOf (l.getD (↑x : Int).toNat (D.val (Value.bool false))) (0 : Nat)))),
             D.ints IntKind.u8 (intsOf (fldOf (l.getD (↑x : Int).toNat (D.val (Value.bool false))) (1 : Nat)))]))) ∧
             True) ∧
             true = true) ∧
             ((IntKind.i64.wrap ((↑x_1 : Int) + (1 : Int))).toNat ≤ (↑x : Int).toNat ∧
             has (kOf (l.getD (↑x : Int).toNat (D.val (Value.bool false)))) (List.take (IntKind.i64.wrap ((↑x_1 : Int) + (1 : Int))).toNat l) = false) ∧
             l.length - (IntKind.i64.wrap ((↑x_1 : Int) + (1 : Int))).toNat < l.length - x_1
           | false =>
            True ∧
            True ∧
            ((AV.d (D.val (Value.int IntKind.i64 (IntKind.i64.wrap ((↑x : Int) + (1 : Int))))) = AV.d (D.val (Value.int IntKind.i64 (↑(IntKind.i64.wrap ((↑x : Int) + (1 : Int))).toNat : Int))) ∧ True) ∧ True ∧ true = true) ∧
            ((IntKind.i64.wrap ((↑x : Int) + (1 : Int))).toNat ≤ l.length ∧ afN l (IntKind.i64.wrap ((↑x : Int) + (1 : Int))).toNat = (0 : Int)) ∧ l.length - (IntKind.i64.wrap ((↑x : Int) + (1 : Int))).toNat < l.length - x
         | false =>
          True ∧
          True ∧
          True ∧
          True ∧
          ((0 : Int) ≤ (0 : Int) ∧ (0 : Int) ≤ (↑x : Int) ∧ (↑x : Int) ≤ (↑l.length : Int) ∧ (2 : Nat) ≠ (0 : Nat) ∧ (2 : Nat) = (2 : Nat)) ∧
          True ∧
          True ∧
          (((AV.d (D.val (Value.int IntKind.i64 (0 : Int))) = AV.d (D.val (Value.int IntKind.i64 (↑(Int.toNat (0 : Int)) : Int))) ∧ True) ∧
          (sm (some (Blk.fix (D.st [D.val (Value.int IntKind.i64 (numOf (fldOf (l.getD (↑x : Int).toNat (D.val (Value.bool false))) (0 : Nat)))), D.ints IntKind.u8 (intsOf (fldOf (l.getD (↑x : Int).toNat (D.val (Value.bool false))) (1 : Nat)))]))) ∧
          True) ∧
          true = true) ∧
          Int.toNat (0 : Int) ≤ (↑x : Int).toNat ∧ has (kOf (l.getD (↑x : Int).toNat (D.val (Value.bool false)))) (List.take (Int.toNat (0 : Int)) l) = false) ∧
          ∀ (x_1 : Nat),
          x_1 ≤ (↑x : Int).toNat ∧ has (kOf (l.getD (↑x : Int).toNat (D.val (Value.bool false)))) (List.take x_1 l) = false →
          true = true ∧
          True ∧
          match decide ((↑x_1 : Int) < (↑(List.drop (Int.toNat (0 : Int)) (List.take (↑x : Int).toNat l)).length : Int)) with
          | true =>
           ((0 : Int) ≤ (↑x_1 : Int) ∧
           (↑x_1 : Int) < (↑(List.drop (Int.toNat (0 : Int)) (List.take (↑x : Int).toNat l)).length : Int) ∧
           (2 : Nat) ≠ (0 : Nat) ∧
           (2 : Nat) = (2 : Nat) ∧
           D.st
           [D.val (Value.int IntKind.i64 (numOf (fldOf ((List.drop (Int.toNat (0 : Int)) (List.take (↑x : Int).toNat l)).getD (↑x_1 : Int).toNat (D.val (Value.bool false))) (0 : Nat)))),
           D.ints IntKind.u8 (intsOf (fldOf ((List.drop (Int.toNat (0 : Int)) (List.take (↑x : Int).toNat l)).getD (↑x_1 : Int).toNat (D.val (Value.bool false))) (1 : Nat)))] =
           (List.drop (Int.toNat (0 : Int)) (List.take (↑x : Int).toNat l)).getD (↑x_1 : Int).toNat (D.val (Value.bool false))) ∧
           ((2 : Nat) ≠ (0 : Nat) ∧ (2 : Nat) = (2 : Nat) ∧ true = true) ∧
           (True ∧ (2 : Nat) ≠ (0 : Nat)) ∧
           (Sk.st [Sk.one, Sk.one] = Sk.st [Sk.one, Sk.one] ∧ (2 : Nat) ≠ (0 : Nat) ∧ (2 : Nat) = (2 : Nat) ∧ false = false) ∧
           (Sk.st [Sk.one, Sk.one] = Sk.st [Sk.one, Sk.one] ∧ (0 : Nat) < (2 : Nat)) ∧
           ((1 : Nat) ≠ (0 : Nat) ∧ (1 : Nat) = (1 : Nat) ∧ false = false) ∧
           (Sk.st [Sk.one, Sk.one] = Sk.st [Sk.one, Sk.one] ∧ (0 : Nat) < (2 : Nat)) ∧
           ((1 : Nat) ≠ (0 : Nat) ∧ (1 : Nat) = (1 : Nat) ∧ false = false) ∧
           True ∧
           match
           numOf (fldOf ((List.drop (Int.toNat (0 : Int)) (List.take (↑x : Int).toNat l)).getD (↑x_1 : Int).toNat (D.val (Value.bool false))) (0 : Nat)) ==
           numOf (fldOf (l.getD (↑x : Int).toNat (D.val (Value.bool false))) (0 : Nat)) with
           | true => True ∧ (false = false ∧ True) ∧ D.val (Value.int IntKind.i64 (1 : Int)) = F
           | false =>
            True ∧
            True ∧
            ((AV.d (D.val (Value.int IntKind.i64 (IntKind.i64.wrap ((↑x_1 : Int) + (1 : Int))))) = AV.d (D.val (Value.int IntKind.i64 (↑(IntKind.i64.wrap ((↑x_1 : Int) + (1 : Int))).toNat : Int))) ∧ True) ∧
            (sm
            (some
            (Blk.fix
            (D.st
            [D.val (Value.int IntKind.i64 (numOf (fldOf (l.getD (↑x : Int).toNat (D.val (Value.bool false))) (0 : Nat)))),
            D.ints IntKind.u8 (intsOf (fldOf (l.getD (↑x : Int).toNat (D.val (Value.bool false))) (1 : Nat)))]))) ∧
            True) ∧
            true = true) ∧
            ((IntKind.i64.wrap ((↑x_1 : Int) + (1 : Int))).toNat ≤ (↑x : Int).toNat ∧
            has (kOf (l.getD (↑x : Int).toNat (D.val (Value.bool false)))) (List.take (IntKind.i64.wrap ((↑x_1 : Int) + (1 : Int))).toNat l) = false) ∧
            l.length - (IntKind.i64.wrap ((↑x_1 : Int) + (1 : Int))).toNat < l.length - x_1
          | false =>
           True ∧
           True ∧
           ((AV.d (D.val (Value.int IntKind.i64 (IntKind.i64.wrap ((↑x : Int) + (1 : Int))))) = AV.d (D.val (Value.int IntKind.i64 (↑(IntKind.i64.wrap ((↑x : Int) + (1 : Int))).toNat : Int))) ∧ True) ∧ True ∧ true = true) ∧
           ((IntKind.i64.wrap ((↑x : Int) + (1 : Int))).toNat ≤ l.length ∧ afN l (IntKind.i64.wrap ((↑x : Int) + (1 : Int))).toNat = (0 : Int)) ∧ l.length - (IntKind.i64.wrap ((↑x : Int) + (1 : Int))).toNat < l.length - x
      | false =>
       (Sk.st [Sk.one, Sk.one] = Sk.st [Sk.one, Sk.one] ∧ (0 : Nat) < (2 : Nat)) ∧
       ((1 : Nat) ≠ (0 : Nat) ∧ (1 : Nat) = (1 : Nat) ∧ false = false) ∧
       True ∧
       match numOf (fldOf (l.getD (↑x : Int).toNat (D.val (Value.bool false))) (0 : Nat)) == (4 : Int) with
       | true =>
        True ∧
        True ∧
        True ∧
        True ∧
        True ∧
        True ∧
        True ∧
        True ∧
        True ∧
        True ∧
        match decide ((↑(intsOf (fldOf (l.getD (↑x : Int).toNat (D.val (Value.bool false))) (1 : Nat))).length : Int) > (64 : Int)) with
        | true => True ∧ (false = false ∧ True) ∧ D.val (Value.int IntKind.i64 (4 : Int)) = F
        | false =>
         (Sk.st [Sk.one, Sk.one] = Sk.st [Sk.one, Sk.one] ∧ (0 : Nat) < (2 : Nat)) ∧
         ((1 : Nat) ≠ (0 : Nat) ∧ (1 : Nat) = (1 : Nat) ∧ false = false) ∧
         True ∧
         True ∧
         match numOf (fldOf (l.getD (↑x : Int).toNat (D.val (Value.bool false))) (0 : Nat)) == (1 : Int) with
         | true =>
          (Sk.st [Sk.one, Sk.one] = Sk.st [Sk.one, Sk.one] ∧ (1 : Nat) < (2 : Nat)) ∧
          ((1 : Nat) ≠ (0 : Nat) ∧ (1 : Nat) = (1 : Nat) ∧ false = false) ∧
          ((0 : Int) ≤ (0 : Int) ∧ (0 : Int) < (↑(intsOf (fldOf (l.getD (↑x : Int).toNat (D.val (Value.bool false))) (1 : Nat))).length : Int) ∧ (1 : Nat) = (1 : Nat)) ∧
          ((1 : Nat) ≠ (0 : Nat) ∧ (1 : Nat) = (1 : Nat) ∧ false = false) ∧
          True ∧
          True ∧
          match decide ((intsOf (fldOf (l.getD (↑x : Int).toNat (D.val (Value.bool false))) (1 : Nat))).getD (Int.toNat (0 : Int)) (0 : Int) < (1 : Int)) with
          | true => True ∧ True ∧ True ∧ True ∧ True ∧ (false = false ∧ True) ∧ D.val (Value.int IntKind.i64 (4 : Int)) = F
          | false =>
           (Sk.st [Sk.one, Sk.one] = Sk.st [Sk.one, Sk.one] ∧ (1 : Nat) < (2 : Nat)) ∧
           ((1 : Nat) ≠ (0 : Nat) ∧ (1 : Nat) = (1 : Nat) ∧ false = false) ∧
           ((0 : Int) ≤ (0 : Int) ∧ (0 : Int) < (↑(intsOf (fldOf (l.getD (↑x : Int).toNat (D.val (Value.bool false))) (1 : Nat))).length : Int) ∧ (1 : Nat) = (1 : Nat)) ∧
           ((1 : Nat) ≠ (0 : Nat) ∧ (1 : Nat) = (1 : Nat) ∧ false = false) ∧
           True ∧
           True ∧
           True ∧
           True ∧
           match decide ((intsOf (fldOf (l.getD (↑x : Int).toNat (D.val (Value.bool false))) (1 : Nat))).getD (Int.toNat (0 : Int)) (0 : Int) > (4 : Int)) with
           | true => True ∧ True ∧ (false = false ∧ True) ∧ D.val (Value.int IntKind.i64 (4 : Int)) = F
           | false =>
            (Sk.st [Sk.one, Sk.one] = Sk.st [Sk.one, Sk.one] ∧ (0 : Nat) < (2 : Nat)) ∧
            ((1 : Nat) ≠ (0 : Nat) ∧ (1 : Nat) = (1 : Nat) ∧ false = false) ∧
            True ∧
            True ∧
            match decide (numOf (fldOf (l.getD (↑x : Int).toNat (D.val (Value.bool false))) (0 : Nat)) > (4 : Int)) with
            | true =>
             (Sk.st [Sk.one, Sk.one] = Sk.st [Sk.one, Sk.one] ∧ (1 : Nat) < (2 : Nat)) ∧
             ((1 : Nat) ≠ (0 : Nat) ∧ (1 : Nat) = (1 : Nat) ∧ false = false) ∧
             ((0 : Int) ≤ (0 : Int) ∧ (0 : Int) < (↑(intsOf (fldOf (l.getD (↑x : Int).toNat (D.val (Value.bool false))) (1 : Nat))).length : Int) ∧ (1 : Nat) = (1 : Nat)) ∧
             ((1 : Nat) ≠ (0 : Nat) ∧ (1 : Nat) = (1 : Nat) ∧ false = false) ∧
             True ∧
             True ∧
             True ∧
             match decide ((intsOf (fldOf (l.getD (↑x : Int).toNat (D.val (Value.bool false))) (1 : Nat))).getD (Int.toNat (0 : Int)) (0 : Int) > (1 : Int)) with
             | true => True ∧ (false = false ∧ True) ∧ D.val (Value.int IntKind.i64 (4 : Int)) = F
             | false =>
              True ∧
              True ∧
              ((0 : Int) ≤ (0 : Int) ∧ (0 : Int) ≤ (↑x : Int) ∧ (↑x : Int) ≤ (↑l.length : Int) ∧ (2 : Nat) ≠ (0 : Nat) ∧ (2 : Nat) = (2 : Nat)) ∧
              True ∧
              True ∧
              (((AV.d (D.val (Value.int IntKind.i64 (0 : Int))) = AV.d (D.val (Value.int IntKind.i64 (↑(Int.toNat (0 : Int)) : Int))) ∧ True) ∧
              (sm
              (some
              (Blk.fix
              (D.st
              [D.val (Value.int IntKind.i64 (numOf (fldOf (l.getD (↑x : Int).toNat (D.val (Value.bool false))) (0 : Nat)))),
              D.ints IntKind.u8 (intsOf (fldOf (l.getD (↑x : Int).toNat (D.val (Value.bool false))) (1 : Nat)))]))) ∧
              True) ∧
              true = true) ∧
              Int.toNat (0 : Int) ≤ (↑x : Int).toNat ∧ has (kOf (l.getD (↑x : Int).toNat (D.val (Value.bool false)))) (List.take (Int.toNat (0 : Int)) l) = false) ∧
              ∀ (x_1 : Nat),
              x_1 ≤ (↑x : Int).toNat ∧ has (kOf (l.getD (↑x : Int).toNat (D.val (Value.bool false)))) (List.take x_1 l) = false →
              true = true ∧
              True ∧
              match decide ((↑x_1 : Int) < (↑(List.drop (Int.toNat (0 : Int)) (List.take (↑x : Int).toNat l)).length : Int)) with
              | true =>
               ((0 : Int) ≤ (↑x_1 : Int) ∧
               (↑x_1 : Int) < (↑(List.drop (Int.toNat (0 : Int)) (List.take (↑x : Int).toNat l)).length : Int) ∧
               (2 : Nat) ≠ (0 : Nat) ∧
               (2 : Nat) = (2 : Nat) ∧
               D.st
               [D.val
               (Value.int IntKind.i64 (numOf (fldOf ((List.drop (Int.toNat (0 : Int)) (List.take (↑x : Int).toNat l)).getD (↑x_1 : Int).toNat (D.val (Value.bool false))) (0 : Nat)))),
               D.ints IntKind.u8 (intsOf (fldOf ((List.drop (Int.toNat (0 : Int)) (List.take (↑x : Int).toNat l)).getD (↑x_1 : Int).toNat (D.val (Value.bool false))) (1 : Nat)))] =
               (List.drop (Int.toNat (0 : Int)) (List.take (↑x : Int).toNat l)).getD (↑x_1 : Int).toNat (D.val (Value.bool false))) ∧
               ((2 : Nat) ≠ (0 : Nat) ∧ (2 : Nat) = (2 : Nat) ∧ true = true) ∧
               (True ∧ (2 : Nat) ≠ (0 : Nat)) ∧
               (Sk.st [Sk.one, Sk.one] = Sk.st [Sk.one, Sk.one] ∧ (2 : Nat) ≠ (0 : Nat) ∧ (2 : Nat) = (2 : Nat) ∧ false = false) ∧
               (Sk.st [Sk.one, Sk.one] = Sk.st [Sk.one, Sk.one] ∧ (0 : Nat) < (2 : Nat)) ∧
               ((1 : Nat) ≠ (0 : Nat) ∧ (1 : Nat) = (1 : Nat) ∧ false = false) ∧
               (Sk.st [Sk.one, Sk.one] = Sk.st [Sk.one, Sk.one] ∧ (0 : Nat) < (2 : Nat)) ∧
               ((1 : Nat) ≠ (0 : Nat) ∧ (1 : Nat) = (1 : Nat) ∧ false = false) ∧
               True ∧
               match
               numOf (fldOf ((List.drop (Int.toNat (0 : Int)) (List.take (↑x : Int).toNat l)).getD (↑x_1 : Int).toNat (D.val (Value.bool false))) (0 : Nat)) ==
               numOf (fldOf (l.getD (↑x : Int).toNat (D.val (Value.bool false))) (0 : Nat)) with
               | true => True ∧ (false = false ∧ True) ∧ D.val (Value.int IntKind.i64 (1 : Int)) = F
               | false =>
                True ∧
                True ∧
                ((AV.d (D.val (Value.int IntKind.i64 (IntKind.i64.wrap ((↑x_1 : Int) + (1 : Int))))) =
                AV.d (D.val (Value.int IntKind.i64 (↑(IntKind.i64.wrap ((↑x_1 : Int) + (1 : Int))).toNat : Int))) ∧
                True) ∧
                (sm
                (some
                (Blk.fix
                (D.st
                [D.val (Value.int IntKind.i64 (numOf (fldOf (l.getD (↑x : Int).toNat (D.val (Value.bool false))) (0 : Nat)))),
                D.ints IntKind.u8 (intsOf (fldOf (l.getD (↑x : Int).toNat (D.val (Value.bool false))) (1 : Nat)))]))) ∧
                True) ∧
                true = true) ∧
                ((IntKind.i64.wrap ((↑x_1 : Int) + (1 : Int))).toNat ≤ (↑x : Int).toNat ∧
                has (kOf (l.getD (↑x : Int).toNat (D.val (Value.bool false)))) (List.take (IntKind.i64.wrap ((↑x_1 : Int) + (1 : Int))).toNat l) = false) ∧
                l.length - (IntKind.i64.wrap ((↑x_1 : Int) + (1 : Int))).toNat < l.length - x_1
              | false =>
               True ∧
               True ∧
               ((AV.d (D.val (Value.int IntKind.i64 (IntKind.i64.wrap ((↑x : Int) + (1 : Int))))) = AV.d (D.val (Value.int IntKind.i64 (↑(IntKind.i64.wrap ((↑x : Int) + (1 : Int))).toNat : Int))) ∧
               True) ∧
               True ∧ true = true) ∧
               ((IntKind.i64.wrap ((↑x : Int) + (1 : Int))).toNat ≤ l.length ∧ afN l (IntKind.i64.wrap ((↑x : Int) + (1 : Int))).toNat = (0 : Int)) ∧
               l.length - (IntKind.i64.wrap ((↑x : Int) + (1 : Int))).toNat < l.length - x
            | false =>
             True ∧
             True ∧
             True ∧
             True ∧
             ((0 : Int) ≤ (0 : Int) ∧ (0 : Int) ≤ (↑x : Int) ∧ (↑x : Int) ≤ (↑l.length : Int) ∧ (2 : Nat) ≠ (0 : Nat) ∧ (2 : Nat) = (2 : Nat)) ∧
             True ∧
             True ∧
             (((AV.d (D.val (Value.int IntKind.i64 (0 : Int))) = AV.d (D.val (Value.int IntKind.i64 (↑(Int.toNat (0 : Int)) : Int))) ∧ True) ∧
             (sm
             (some
             (Blk.fix
             (D.st
             [D.val (Value.int IntKind.i64 (numOf (fldOf (l.getD (↑x : Int).toNat (D.val (Value.bool false))) (0 : Nat)))),
             D.ints IntKind.u8 (intsOf (fldOf (l.getD (↑x : Int).toNat (D.val (Value.bool false))) (1 : Nat)))]))) ∧
             True) ∧
             true = true) ∧
             Int.toNat (0 : Int) ≤ (↑x : Int).toNat ∧ has (kOf (l.getD (↑x : Int).toNat (D.val (Value.bool false)))) (List.take (Int.toNat (0 : Int)) l) = false) ∧
             ∀ (x_1 : Nat),
             x_1 ≤ (↑x : Int).toNat ∧ has (kOf (l.getD (↑x : Int).toNat (D.val (Value.bool false)))) (List.take x_1 l) = false →
             true = true ∧
             True ∧
             match decide ((↑x_1 : Int) < (↑(List.drop (Int.toNat (0 : Int)) (List.take (↑x : Int).toNat l)).length : Int)) with
             | true =>
              ((0 : Int) ≤ (↑x_1 : Int) ∧
              (↑x_1 : Int) < (↑(List.drop (Int.toNat (0 : Int)) (List.take (↑x : Int).toNat l)).length : Int) ∧
              (2 : Nat) ≠ (0 : Nat) ∧
              (2 : Nat) = (2 : Nat) ∧
              D.st
              [D.val (Value.int IntKind.i64 (numOf (fldOf ((List.drop (Int.toNat (0 : Int)) (List.take (↑x : Int).toNat l)).getD (↑x_1 : Int).toNat (D.val (Value.bool false))) (0 : Nat)))),
              D.ints IntKind.u8 (intsOf (fldOf ((List.drop (Int.toNat (0 : Int)) (List.take (↑x : Int).toNat l)).getD (↑x_1 : Int).toNat (D.val (Value.bool false))) (1 : Nat)))] =
              (List.drop (Int.toNat (0 : Int)) (List.take (↑x : Int).toNat l)).getD (↑x_1 : Int).toNat (D.val (Value.bool false))) ∧
              ((2 : Nat) ≠ (0 : Nat) ∧ (2 : Nat) = (2 : Nat) ∧ true = true) ∧
              (True ∧ (2 : Nat) ≠ (0 : Nat)) ∧
              (Sk.st [Sk.one, Sk.one] = Sk.st [Sk.one, Sk.one] ∧ (2 : Nat) ≠ (0 : Nat) ∧ (2 : Nat) = (2 : Nat) ∧ false = false) ∧
              (Sk.st [Sk.one, Sk.one] = Sk.st [Sk.one, Sk.one] ∧ (0 : Nat) < (2 : Nat)) ∧
              ((1 : Nat) ≠ (0 : Nat) ∧ (1 : Nat) = (1 : Nat) ∧ false = false) ∧
              (Sk.st [Sk.one, Sk.one] = Sk.st [Sk.one, Sk.one] ∧ (0 : Nat) < (2 : Nat)) ∧
              ((1 : Nat) ≠ (0 : Nat) ∧ (1 : Nat) = (1 : Nat) ∧ false = false) ∧
              True ∧
              match
              numOf (fldOf ((List.drop (Int.toNat (0 : Int)) (List.take (↑x : Int).toNat l)).getD (↑x_1 : Int).toNat (D.val (Value.bool false))) (0 : Nat)) ==
              numOf (fldOf (l.getD (↑x : Int).toNat (D.val (Value.bool false))) (0 : Nat)) with
              | true => True ∧ (false = false ∧ True) ∧ D.val (Value.int IntKind.i64 (1 : Int)) = F
              | false =>
               True ∧
               True ∧
               ((AV.d (D.val (Value.int IntKind.i64 (IntKind.i64.wrap ((↑x_1 : Int) + (1 : Int))))) =
               AV.d (D.val (Value.int IntKind.i64 (↑(IntKind.i64.wrap ((↑x_1 : Int) + (1 : Int))).toNat : Int))) ∧
               True) ∧
               (sm
               (some
               (Blk.fix
               (D.st
               [D.val (Value.int IntKind.i64 (numOf (fldOf (l.getD (↑x : Int).toNat (D.val (Value.bool false))) (0 : Nat)))),
               D.ints IntKind.u8 (intsOf (fldOf (l.getD (↑x : Int).toNat (D.val (Value.bool false))) (1 : Nat)))]))) ∧
               True) ∧
               true = true) ∧
               ((IntKind.i64.wrap ((↑x_1 : Int) + (1 : Int))).toNat ≤ (↑x : Int).toNat ∧
               has (kOf (l.getD (↑x : Int).toNat (D.val (Value.bool false)))) (List.take (IntKind.i64.wrap ((↑x_1 : Int) + (1 : Int))).toNat l) = false) ∧
               l.length - (IntKind.i64.wrap ((↑x_1 : Int) + (1 : Int))).toNat < l.length - x_1
             | false =>
              True ∧
              True ∧
              ((AV.d (D.val (Value.int IntKind.i64 (IntKind.i64.wrap ((↑x : Int) + (1 : Int))))) = AV.d (D.val (Value.int IntKind.i64 (↑(IntKind.i64.wrap ((↑x : Int) + (1 : Int))).toNat : Int))) ∧ True) ∧
              True ∧ true = true) ∧
              ((IntKind.i64.wrap ((↑x : Int) + (1 : Int))).toNat ≤ l.length ∧ afN l (IntKind.i64.wrap ((↑x : Int) + (1 : Int))).toNat = (0 : Int)) ∧
              l.length - (IntKind.i64.wrap ((↑x : Int) + (1 : Int))).toNat < l.length - x
         | false =>
          True ∧
          True ∧
          (Sk.st [Sk.one, Sk.one] = Sk.st [Sk.one, Sk.one] ∧ (0 : Nat) < (2 : Nat)) ∧
          ((1 : Nat) ≠ (0 : Nat) ∧ (1 : Nat) = (1 : Nat) ∧ false = false) ∧
          True ∧
          True ∧
          match decide (numOf (fldOf (l.getD (↑x : Int).toNat (D.val (Value.bool false))) (0 : Nat)) > (4 : Int)) with
          | true =>
           (Sk.st [Sk.one, Sk.one] = Sk.st [Sk.one, Sk.one] ∧ (1 : Nat) < (2 : Nat)) ∧
           ((1 : Nat) ≠ (0 : Nat) ∧ (1 : Nat) = (1 : Nat) ∧ false = false) ∧
           ((0 : Int) ≤ (0 : Int) ∧ (0 : Int) < (↑(intsOf (fldOf (l.getD (↑x : Int).toNat (D.val (Value.bool false))) (1 : Nat))).length : Int) ∧ (1 : Nat) = (1 : Nat)) ∧
           ((1 : Nat) ≠ (0 : Nat) ∧ (1 : Nat) = (1 : Nat) ∧ false = false) ∧
           True ∧
           True ∧
           True ∧
           match decide ((intsOf (fldOf (l.getD (↑x : Int).toNat (D.val (Value.bool false))) (1 : Nat))).getD (Int.toNat (0 : Int)) (0 : Int) > (1 : Int)) with
           | true => True ∧ (false = false ∧ True) ∧ D.val (Value.int IntKind.i64 (4 : Int)) = F
           | false =>
            True ∧
            True ∧
            ((0 : Int) ≤ (0 : Int) ∧ (0 : Int) ≤ (↑x : Int) ∧ (↑x : Int) ≤ (↑l.length : Int) ∧ (2 : Nat) ≠ (0 : Nat) ∧ (2 : Nat) = (2 : Nat)) ∧
            True ∧
            True ∧
            (((AV.d (D.val (Value.int IntKind.i64 (0 : Int))) = AV.d (D.val (Value.int IntKind.i64 (↑(Int.toNat (0 : Int)) : Int))) ∧ True) ∧
            (sm
            (some
            (Blk.fix
            (D.st
            [D.val (Value.int IntKind.i64 (numOf (fldOf (l.getD (↑x : Int).toNat (D.val (Value.bool false))) (0 : Nat)))),
            D.ints IntKind.u8 (intsOf (fldOf (l.getD (↑x : Int).toNat (D.val (Value.bool false))) (1 : Nat)))]))) ∧
            True) ∧
            true = true) ∧
            Int.toNat (0 : Int) ≤ (↑x : Int).toNat ∧ has (kOf (l.getD (↑x : Int).toNat (D.val (Value.bool false)))) (List.take (Int.toNat (0 : Int)) l) = false) ∧
            ∀ (x_1 : Nat),
            x_1 ≤ (↑x : Int).toNat ∧ has (kOf (l.getD (↑x : Int).toNat (D.val (Value.bool false)))) (List.take x_1 l) = false →
            true = true ∧
            True ∧
            match decide ((↑x_1 : Int) < (↑(List.drop (Int.toNat (0 : Int)) (List.take (↑x : Int).toNat l)).length : Int)) with
            | true =>
             ((0 : Int) ≤ (↑x_1 : Int) ∧
             (↑x_1 : Int) < (↑(List.drop (Int.toNat (0 : Int)) (List.take (↑x : Int).toNat l)).length : Int) ∧
             (2 : Nat) ≠ (0 : Nat) ∧
             (2 : Nat) = (2 : Nat) ∧
             D.st
             [D.val (Value.int IntKind.i64 (numOf (fldOf ((List.drop (Int.toNat (0 : Int)) (List.take (↑x : Int).toNat l)).getD (↑x_1 : Int).toNat (D.val (Value.bool false))) (0 : Nat)))),
             D.ints IntKind.u8 (intsOf (fldOf ((List.drop (Int.toNat (0 : Int)) (List.take (↑x : Int).toNat l)).getD (↑x_1 : Int).toNat (D.val (Value.bool false))) (1 : Nat)))] =
             (List.drop (Int.toNat (0 : Int)) (List.take (↑x : Int).toNat l)).getD (↑x_1 : Int).toNat (D.val (Value.bool false))) ∧
             ((2 : Nat) ≠ (0 : Nat) ∧ (2 : Nat) = (2 : Nat) ∧ true = true) ∧
             (True ∧ (2 : Nat) ≠ (0 : Nat)) ∧
             (Sk.st [Sk.one, Sk.one] = Sk.st [Sk.one, Sk.one] ∧ (2 : Nat) ≠ (0 : Nat) ∧ (2 : Nat) = (2 : Nat) ∧ false = false) ∧
             (Sk.st [Sk.one, Sk.one] = Sk.st [Sk.one, Sk.one] ∧ (0 : Nat) < (2 : Nat)) ∧
             ((1 : Nat) ≠ (0 : Nat) ∧ (1 : Nat) = (1 : Nat) ∧ false = false) ∧
             (Sk.st [Sk.one, Sk.one] = Sk.st [Sk.one, Sk.one] ∧ (0 : Nat) < (2 : Nat)) ∧
             ((1 : Nat) ≠ (0 : Nat) ∧ (1 : Nat) = (1 : Nat) ∧ false = false) ∧
             True ∧
             match
             numOf (fldOf ((List.drop (Int.toNat (0 : Int)) (List.take (↑x : Int).toNat l)).getD (↑x_1 : Int).toNat (D.val (Value.bool false))) (0 : Nat)) ==
             numOf (fldOf (l.getD (↑x : Int).toNat (D.val (Value.bool false))) (0 : Nat)) with
             | true => True ∧ (false = false ∧ True) ∧ D.val (Value.int IntKind.i64 (1 : Int)) = F
             | false =>
              True ∧
              True ∧
              ((AV.d (D.val (Value.int IntKind.i64 (IntKind.i64.wrap ((↑x_1 : Int) + (1 : Int))))) = AV.d (D.val (Value.int IntKind.i64 (↑(IntKind.i64.wrap ((↑x_1 : Int) + (1 : Int))).toNat : Int))) ∧
              True) ∧
              (sm
              (some
              (Blk.fix
              (D.st
              [D.val (Value.int IntKind.i64 (numOf (fldOf (l.getD (↑x : Int).toNat (D.val (Value.bool false))) (0 : Nat)))),
              D.ints IntKind.u8 (intsOf (fldOf (l.getD (↑x : Int).toNat (D.val (Value.bool false))) (1 : Nat)))]))) ∧
              True) ∧
              true = true) ∧
              ((IntKind.i64.wrap ((↑x_1 : Int) + (1 : Int))).toNat ≤ (↑x : Int).toNat ∧
              has (kOf (l.getD (↑x : Int).toNat (D.val (Value.bool false)))) (List.take (IntKind.i64.wrap ((↑x_1 : Int) + (1 : Int))).toNat l) = false) ∧
              l.length - (IntKind.i64.wrap ((↑x_1 : Int) + (1 : Int))).toNat < l.length - x_1
            | false =>
             True ∧
             True ∧
             ((AV.d (D.val (Value.int IntKind.i64 (IntKind.i64.wrap ((↑x : Int) + (1 : Int))))) = AV.d (D.val (Value.int IntKind.i64 (↑(IntKind.i64.wrap ((↑x : Int) + (1 : Int))).toNat : Int))) ∧ True) ∧
             True ∧ true = true) ∧
             ((IntKind.i64.wrap ((↑x : Int) + (1 : Int))).toNat ≤ l.length ∧ afN l (IntKind.i64.wrap ((↑x : Int) + (1 : Int))).toNat = (0 : Int)) ∧
             l.length - (IntKind.i64.wrap ((↑x : Int) + (1 : Int))).toNat < l.length - x
          | false =>
           True ∧
           True ∧
           True ∧
           True ∧
           ((0 : Int) ≤ (0 : Int) ∧ (0 : Int) ≤ (↑x : Int) ∧ (↑x : Int) ≤ (↑l.length : Int) ∧ (2 : Nat) ≠ (0 : Nat) ∧ (2 : Nat) = (2 : Nat)) ∧
           True ∧
           True ∧
           (((AV.d (D.val (Value.int IntKind.i64 (0 : Int))) = AV.d (D.val (Value.int IntKind.i64 (↑(Int.toNat (0 : Int)) : Int))) ∧ True) ∧
           (sm
           (some
           (Blk.fix
           (D.st [D.val (Value.int IntKind.i64 (numOf (fldOf (l.getD (↑x : Int).toNat (D.val (Value.bool false))) (0 : Nat)))), D.ints IntKind.u8 (intsOf (fldOf (l.getD (↑x : Int).toNat (D.val (Value.bool false))) (1 : Nat)))]))) ∧
           True) ∧
           true = true) ∧
           Int.toNat (0 : Int) ≤ (↑x : Int).toNat ∧ has (kOf (l.getD (↑x : Int).toNat (D.val (Value.bool false)))) (List.take (Int.toNat (0 : Int)) l) = false) ∧
           ∀ (x_1 : Nat),
           x_1 ≤ (↑x : Int).toNat ∧ has (kOf (l.getD (↑x : Int).toNat (D.val (Value.bool false)))) (List.take x_1 l) = false →
           true = true ∧
           True ∧
           match decide ((↑x_1 : Int) < (↑(List.drop (Int.toNat (0 : Int)) (List.take (↑x : Int).toNat l)).length : Int)) with
           | true =>
            ((0 : Int) ≤ (↑x_1 : Int) ∧
            (↑x_1 : Int) < (↑(List.drop (Int.toNat (0 : Int)) (List.take (↑x : Int).toNat l)).length : Int) ∧
            (2 : Nat) ≠ (0 : Nat) ∧
            (2 : Nat) = (2 : Nat) ∧
            D.st
            [D.val (Value.int IntKind.i64 (numOf (fldOf ((List.drop (Int.toNat (0 : Int)) (List.take (↑x : Int).toNat l)).getD (↑x_1 : Int).toNat (D.val (Value.bool false))) (0 : Nat)))),
            D.ints IntKind.u8 (intsOf (fldOf ((List.drop (Int.toNat (0 : Int)) (List.take (↑x : Int).toNat l)).getD (↑x_1 : Int).toNat (D.val (Value.bool false))) (1 : Nat)))] =
            (List.drop (Int.toNat (0 : Int)) (List.take (↑x : Int).toNat l)).getD (↑x_1 : Int).toNat (D.val (Value.bool false))) ∧
            ((2 : Nat) ≠ (0 : Nat) ∧ (2 : Nat) = (2 : Nat) ∧ true = true) ∧
            (True ∧ (2 : Nat) ≠ (0 : Nat)) ∧
            (Sk.st [Sk.one, Sk.one] = Sk.st [Sk.one, Sk.one] ∧ (2 : Nat) ≠ (0 : Nat) ∧ (2 : Nat) = (2 : Nat) ∧ false = false) ∧
            (Sk.st [Sk.one, Sk.one] = Sk.st [Sk.one, Sk.one] ∧ (0 : Nat) < (2 : Nat)) ∧
            ((1 : Nat) ≠ (0 : Nat) ∧ (1 : Nat) = (1 : Nat) ∧ false = false) ∧
            (Sk.st [Sk.one, Sk.one] = Sk.st [Sk.one, Sk.one] ∧ (0 : Nat) < (2 : Nat)) ∧
            ((1 : Nat) ≠ (0 : Nat) ∧ (1 : Nat) = (1 : Nat) ∧ false = false) ∧
            True ∧
            match
            numOf (fldOf ((List.drop (Int.toNat (0 : Int)) (List.take (↑x : Int).toNat l)).getD (↑x_1 : Int).toNat (D.val (Value.bool false))) (0 : Nat)) ==
            numOf (fldOf (l.getD (↑x : Int).toNat (D.val (Value.bool false))) (0 : Nat)) with
            | true => True ∧ (false = false ∧ True) ∧ D.val (Value.int IntKind.i64 (1 : Int)) = F
            | false =>
             True ∧
             True ∧
             ((AV.d (D.val (Value.int IntKind.i64 (IntKind.i64.wrap ((↑x_1 : Int) + (1 : Int))))) = AV.d (D.val (Value.int IntKind.i64 (↑(IntKind.i64.wrap ((↑x_1 : Int) + (1 : Int))).toNat : Int))) ∧ True) ∧
             (sm
             (some
             (Blk.fix
             (D.st
             [D.val (Value.int IntKind.i64 (numOf (fldOf (l.getD (↑x : Int).toNat (D.val (Value.bool false))) (0 : Nat)))),
             D.ints IntKind.u8 (intsOf (fldOf (l.getD (↑x : Int).toNat (D.val (Value.bool false))) (1 : Nat)))]))) ∧
             True) ∧
             true = true) ∧
             ((IntKind.i64.wrap ((↑x_1 : Int) + (1 : Int))).toNat ≤ (↑x : Int).toNat ∧
             has (kOf (l.getD (↑x : Int).toNat (D.val (Value.bool false)))) (List.take (IntKind.i64.wrap ((↑x_1 : Int) + (1 : Int))).toNat l) = false) ∧
             l.length - (IntKind.i64.wrap ((↑x_1 : Int) + (1 : Int))).toNat < l.length - x_1
           | false =>
            True ∧
            True ∧
            ((AV.d (D.val (Value.int IntKind.i64 (IntKind.i64.wrap ((↑x : Int) + (1 : Int))))) = AV.d (D.val (Value.int IntKind.i64 (↑(IntKind.i64.wrap ((↑x : Int) + (1 : Int))).toNat : Int))) ∧ True) ∧ True ∧ true = true) ∧
            ((IntKind.i64.wrap ((↑x : Int) + (1 : Int))).toNat ≤ l.length ∧ afN l (IntKind.i64.wrap ((↑x : Int) + (1 : Int))).toNat = (0 : Int)) ∧ l.length - (IntKind.i64.wrap ((↑x : Int) + (1 : Int))).toNat < l.length - x
       | false =>
        True ∧
        True ∧
        True ∧
        True ∧
        match decide ((↑(intsOf (fldOf (l.getD (↑x : Int).toNat (D.val (Value.bool false))) (1 : Nat))).length : Int) < (1 : Int)) with
        | true => True ∧ True ∧ (false = false ∧ True) ∧ D.val (Value.int IntKind.i64 (4 : Int)) = F
        | false =>
         True ∧
         True ∧
         True ∧
         True ∧
         match decide ((↑(intsOf (fldOf (l.getD (↑x : Int).toNat (D.val (Value.bool false))) (1 : Nat))).length : Int) > (1 : Int)) with
         | true => True ∧ (false = false ∧ True) ∧ D.val (Value.int IntKind.i64 (4 : Int)) = F
         | false =>
          (Sk.st [Sk.one, Sk.one] = Sk.st [Sk.one, Sk.one] ∧ (0 : Nat) < (2 : Nat)) ∧
          ((1 : Nat) ≠ (0 : Nat) ∧ (1 : Nat) = (1 : Nat) ∧ false = false) ∧
          True ∧
          True ∧
          match numOf (fldOf (l.getD (↑x : Int).toNat (D.val (Value.bool false))) (0 : Nat)) == (1 : Int) with
          | true =>
           (Sk.st [Sk.one, Sk.one] = Sk.st [Sk.one, Sk.one] ∧ (1 : Nat) < (2 : Nat)) ∧
           ((1 : Nat) ≠ (0 : Nat) ∧ (1 : Nat) = (1 : Nat) ∧ false = false) ∧
           ((0 : Int) ≤ (0 : Int) ∧ (0 : Int) < (↑(intsOf (fldOf (l.getD (↑x : Int).toNat (D.val (Value.bool false))) (1 : Nat))).length : Int) ∧ (1 : Nat) = (1 : Nat)) ∧
           ((1 : Nat) ≠ (0 : Nat) ∧ (1 : Nat) = (1 : Nat) ∧ false = false) ∧
           True ∧
           True ∧
           match decide ((intsOf (fldOf (l.getD (↑x : Int).toNat (D.val (Value.bool false))) (1 : Nat))).getD (Int.toNat (0 : Int)) (0 : Int) < (1 : Int)) with
           | true => True ∧ True ∧ True ∧ True ∧ True ∧ (false = false ∧ True) ∧ D.val (Value.int IntKind.i64 (4 : Int)) = F
           | false =>
            (Sk.st [Sk.one, Sk.one] = Sk.st [Sk.one, Sk.one] ∧ (1 : Nat) < (2 : Nat)) ∧
            ((1 : Nat) ≠ (0 : Nat) ∧ (1 : Nat) = (1 : Nat) ∧ false = false) ∧
            ((0 : Int) ≤ (0 : Int) ∧ (0 : Int) < (↑(intsOf (fldOf (l.getD (↑x : Int).toNat (D.val (Value.bool false))) (1 : Nat))).length : Int) ∧ (1 : Nat) = (1 : Nat)) ∧
            ((1 : Nat) ≠ (0 : Nat) ∧ (1 : Nat) = (1 : Nat) ∧ false = false) ∧
            True ∧
            True ∧
            True ∧
            True ∧
            match decide ((intsOf (fldOf (l.getD (↑x : Int).toNat (D.val (Value.bool false))) (1 : Nat))).getD (Int.toNat (0 : Int)) (0 : Int) > (4 : Int)) with
            | true => True ∧ True ∧ (false = false ∧ True) ∧ D.val (Value.int IntKind.i64 (4 : Int)) = F
            | false =>
             (Sk.st [Sk.one, Sk.one] = Sk.st [Sk.one, Sk.one] ∧ (0 : Nat) < (2 : Nat)) ∧
             ((1 : Nat) ≠ (0 : Nat) ∧ (1 : Nat) = (1 : Nat) ∧ false = false) ∧
             True ∧
             True ∧
             match decide (numOf (fldOf (l.getD (↑x : Int).toNat (D.val (Value.bool false))) (0 : Nat)) > (4 : Int)) with
             | true =>
              (Sk.st [Sk.one, Sk.one] = Sk.st [Sk.one, Sk.one] ∧ (1 : Nat) < (2 : Nat)) ∧
              ((1 : Nat) ≠ (0 : Nat) ∧ (1 : Nat) = (1 : Nat) ∧ false = false) ∧
              ((0 : Int) ≤ (0 : Int) ∧ (0 : Int) < (↑(intsOf (fldOf (l.getD (↑x : Int).toNat (D.val (Value.bool false))) (1 : Nat))).length : Int) ∧ (1 : Nat) = (1 : Nat)) ∧
              ((1 : Nat) ≠ (0 : Nat) ∧ (1 : Nat) = (1 : Nat) ∧ false = false) ∧
              True ∧
              True ∧
              True ∧
              match decide ((intsOf (fldOf (l.getD (↑x : Int).toNat (D.val (Value.bool false))) (1 : Nat))).getD (Int.toNat (0 : Int)) (0 : Int) > (1 : Int)) with
              | true => True ∧ (false = false ∧ True) ∧ D.val (Value.int IntKind.i64 (4 : Int)) = F
              | false =>
               True ∧
               True ∧
               ((0 : Int) ≤ (0 : Int) ∧ (0 : Int) ≤ (↑x : Int) ∧ (↑x : Int) ≤ (↑l.length : Int) ∧ (2 : Nat) ≠ (0 : Nat) ∧ (2 : Nat) = (2 : Nat)) ∧
               True ∧
               True ∧
               (((AV.d (D.val (Value.int IntKind.i64 (0 : Int))) = AV.d (D.val (Value.int IntKind.i64 (↑(Int.toNat (0 : Int)) : Int))) ∧ True) ∧
               (sm
               (some
               (Blk.fix
               (D.st
               [D.val (Value.int IntKind.i64 (numOf (fldOf (l.getD (↑x : Int).toNat (D.val (Value.bool false))) (0 : Nat)))),
               D.ints IntKind.u8 (intsOf (fldOf (l.getD (↑x : Int).toNat (D.val (Value.bool false))) (1 : Nat)))]))) ∧
               True) ∧
               true = true) ∧
               Int.toNat (0 : Int) ≤ (↑x : Int).toNat ∧ has (kOf (l.getD (↑x : Int).toNat (D.val (Value.bool false)))) (List.take (Int.toNat (0 : Int)) l) = false) ∧
               ∀ (x_1 : Nat),
               x_1 ≤ (↑x : Int).toNat ∧ has (kOf (l.getD (↑x : Int).toNat (D.val (Value.bool false)))) (List.take x_1 l) = false →
               true = true ∧
               True ∧
               match decide ((↑x_1 : Int) < (↑(List.drop (Int.toNat (0 : Int)) (List.take (↑x : Int).toNat l)).length : Int)) with
               | true =>
                ((0 : Int) ≤ (↑x_1 : Int) ∧
                (↑x_1 : Int) < (↑(List.drop (Int.toNat (0 : Int)) (List.take (↑x : Int).toNat l)).length : Int) ∧
                (2 : Nat) ≠ (0 : Nat) ∧
                (2 : Nat) = (2 : Nat) ∧
                D.st
                [D.val
                (Value.int IntKind.i64 (numOf (fldOf ((List.drop (Int.toNat (0 : Int)) (List.take (↑x : Int).toNat l)).getD (↑x_1 : Int).toNat (D.val (Value.bool false))) (0 : Nat)))),
                D.ints IntKind.u8 (intsOf (fldOf ((List.drop (Int.toNat (0 : Int)) (List.take (↑x : Int).toNat l)).getD (↑x_1 : Int).toNat (D.val (Value.bool false))) (1 : Nat)))] =
                (List.drop (Int.toNat (0 : Int)) (List.take (↑x : Int).toNat l)).getD (↑x_1 : Int).toNat (D.val (Value.bool false))) ∧
                ((2 : Nat) ≠ (0 : Nat) ∧ (2 : Nat) = (2 : Nat) ∧ true = true) ∧
                (True ∧ (2 : Nat) ≠ (0 : Nat)) ∧
                (Sk.st [Sk.one, Sk.one] = Sk.st [Sk.one, Sk.one] ∧ (2 : Nat) ≠ (0 : Nat) ∧ (2 : Nat) = (2 : Nat) ∧ false = false) ∧
                (Sk.st [Sk.one, Sk.one] = Sk.st [Sk.one, Sk.one] ∧ (0 : Nat) < (2 : Nat)) ∧
                ((1 : Nat) ≠ (0 : Nat) ∧ (1 : Nat) = (1 : Nat) ∧ false = false) ∧
                (Sk.st [Sk.one, Sk.one] = Sk.st [Sk.one, Sk.one] ∧ (0 : Nat) < (2 : Nat)) ∧
                ((1 : Nat) ≠ (0 : Nat) ∧ (1 : Nat) = (1 : Nat) ∧ false = false) ∧
                True ∧
                match
                numOf (fldOf ((List.drop (Int.toNat (0 : Int)) (List.take (↑x : Int).toNat l)).getD (↑x_1 : Int).toNat (D.val (Value.bool false))) (0 : Nat)) ==
                numOf (fldOf (l.getD (↑x : Int).toNat (D.val (Value.bool false))) (0 : Nat)) with
                | true => True ∧ (false = false ∧ True) ∧ D.val (Value.int IntKind.i64 (1 : Int)) = F
                | false =>
                 True ∧
                 True ∧
                 ((AV.d (D.val (Value.int IntKind.i64 (IntKind.i64.wrap ((↑x_1 : Int) + (1 : Int))))) =
                 AV.d (D.val (Value.int IntKind.i64 (↑(IntKind.i64.wrap ((↑x_1 : Int) + (1 : Int))).toNat : Int))) ∧
                 True) ∧
                 (sm
                 (some
                 (Blk.fix
                 (D.st
                 [D.val (Value.int IntKind.i64 (numOf (fldOf (l.getD (↑x : Int).toNat (D.val (Value.bool false))) (0 : Nat)))),
                 D.ints IntKind.u8 (intsOf (fldOf (l.getD (↑x : Int).toNat (D.val (Value.bool false))) (1 : Nat)))]))) ∧
                 True) ∧
                 true = true) ∧
                 ((IntKind.i64.wrap ((↑x_1 : Int) + (1 : Int))).toNat ≤ (↑x : Int).toNat ∧
                 has (kOf (l.getD (↑x : Int).toNat (D.val (Value.bool false)))) (List.take (IntKind.i64.wrap ((↑x_1 : Int) + (1 : Int))).toNat l) = false) ∧
                 l.length - (IntKind.i64.wrap ((↑x_1 : Int) + (1 : Int))).toNat < l.length - x_1
               | false =>
                True ∧
                True ∧
                ((AV.d (D.val (Value.int IntKind.i64 (IntKind.i64.wrap ((↑x : Int) + (1 : Int))))) = AV.d (D.val (Value.int IntKind.i64 (↑(IntKind.i64.wrap ((↑x : Int) + (1 : Int))).toNat : Int))) ∧
                True) ∧
                True ∧ true = true) ∧
                ((IntKind.i64.wrap ((↑x : Int) + (1 : Int))).toNat ≤ l.length ∧ afN l (IntKind.i64.wrap ((↑x : Int) + (1 : Int))).toNat = (0 : Int)) ∧
                l.length - (IntKind.i64.wrap ((↑x : Int) + (1 : Int))).toNat < l.length - x
             | false =>
              True ∧
              True ∧
              True ∧
              True ∧
              ((0 : Int) ≤ (0 : Int) ∧ (0 : Int) ≤ (↑x : Int) ∧ (↑x : Int) ≤ (↑l.length : Int) ∧ (2 : Nat) ≠ (0 : Nat) ∧ (2 : Nat) = (2 : Nat)) ∧
              True ∧
              True ∧
              (((AV.d (D.val (Value.int IntKind.i64 (0 : Int))) = AV.d (D.val (Value.int IntKind.i64 (↑(Int.toNat (0 : Int)) : Int))) ∧ True) ∧
              (sm
              (some
              (Blk.fix
              (D.st
              [D.val (Value.int IntKind.i64 (numOf (fldOf (l.getD (↑x : Int).toNat (D.val (Value.bool false))) (0 : Nat)))),
              D.ints IntKind.u8 (intsOf (fldOf (l.getD (↑x : Int).toNat (D.val (Value.bool false))) (1 : Nat)))]))) ∧
              True) ∧
              true = true) ∧
              Int.toNat (0 : Int) ≤ (↑x : Int).toNat ∧ has (kOf (l.getD (↑x : Int).toNat (D.val (Value.bool false)))) (List.take (Int.toNat (0 : Int)) l) = false) ∧
              ∀ (x_1 : Nat),
              x_1 ≤ (↑x : Int).toNat ∧ has (kOf (l.getD (↑x : Int).toNat (D.val (Value.bool false)))) (List.take x_1 l) = false →
              true = true ∧
              True ∧
              match decide ((↑x_1 : Int) < (↑(List.drop (Int.toNat (0 : Int)) (List.take (↑x : Int).toNat l)).length : Int)) with
              | true =>
               ((0 : Int) ≤ (↑x_1 : Int) ∧
               (↑x_1 : Int) < (↑(List.drop (Int.toNat (0 : Int)) (List.take (↑x : Int).toNat l)).length : Int) ∧
               (2 : Nat) ≠ (0 : Nat) ∧
               (2 : Nat) = (2 : Nat) ∧
               D.st
               [D.val (Value.int IntKind.i64 (numOf (fldOf ((List.drop (Int.toNat (0 : Int)) (List.take (↑x : Int).toNat l)).getD (↑x_1 : Int).toNat (D.val (Value.bool false))) (0 : Nat)))),
               D.ints IntKind.u8 (intsOf (fldOf ((List.drop (Int.toNat (0 : Int)) (List.take (↑x : Int).toNat l)).getD (↑x_1 : Int).toNat (D.val (Value.bool false))) (1 : Nat)))] =
               (List.drop (Int.toNat (0 : Int)) (List.take (↑x : Int).toNat l)).getD (↑x_1 : Int).toNat (D.val (Value.bool false))) ∧
               ((2 : Nat) ≠ (0 : Nat) ∧ (2 : Nat) = (2 : Nat) ∧ true = true) ∧
               (True ∧ (2 : Nat) ≠ (0 : Nat)) ∧
               (Sk.st [Sk.one, Sk.one] = Sk.st [Sk.one, Sk.one] ∧ (2 : Nat) ≠ (0 : Nat) ∧ (2 : Nat) = (2 : Nat) ∧ false = false) ∧
               (Sk.st [Sk.one, Sk.one] = Sk.st [Sk.one, Sk.one] ∧ (0 : Nat) < (2 : Nat)) ∧
               ((1 : Nat) ≠ (0 : Nat) ∧ (1 : Nat) = (1 : Nat) ∧ false = false) ∧
               (Sk.st [Sk.one, Sk.one] = Sk.st [Sk.one, Sk.one] ∧ (0 : Nat) < (2 : Nat)) ∧
               ((1 : Nat) ≠ (0 : Nat) ∧ (1 : Nat) = (1 : Nat) ∧ false = false) ∧
               True ∧
               match
               numOf (fldOf ((List.drop (Int.toNat (0 : Int)) (List.take (↑x : Int).toNat l)).getD (↑x_1 : Int).toNat (D.val (Value.bool false))) (0 : Nat)) ==
               numOf (fldOf (l.getD (↑x : Int).toNat (D.val (Value.bool false))) (0 : Nat)) with
               | true => True ∧ (false = false ∧ True) ∧ D.val (Value.int IntKind.i64 (1 : Int)) = F
               | false =>
                True ∧
                True ∧
                ((AV.d (D.val (Value.int IntKind.i64 (IntKind.i64.wrap ((↑x_1 : Int) + (1 : Int))))) =
                AV.d (D.val (Value.int IntKind.i64 (↑(IntKind.i64.wrap ((↑x_1 : Int) + (1 : Int))).toNat : Int))) ∧
                True) ∧
                (sm
                (some
                (Blk.fix
                (D.st
                [D.val (Value.int IntKind.i64 (numOf (fldOf (l.getD (↑x : Int).toNat (D.val (Value.bool false))) (0 : Nat)))),
                D.ints IntKind.u8 (intsOf (fldOf (l.getD (↑x : Int).toNat (D.val (Value.bool false))) (1 : Nat)))]))) ∧
                True) ∧
                true = true) ∧
                ((IntKind.i64.wrap ((↑x_1 : Int) + (1 : Int))).toNat ≤ (↑x : Int).toNat ∧
                has (kOf (l.getD (↑x : Int).toNat (D.val (Value.bool false)))) (List.take (IntKind.i64.wrap ((↑x_1 : Int) + (1 : Int))).toNat l) = false) ∧
                l.length - (IntKind.i64.wrap ((↑x_1 : Int) + (1 : Int))).toNat < l.length - x_1
              | false =>
               True ∧
               True ∧
               ((AV.d (D.val (Value.int IntKind.i64 (IntKind.i64.wrap ((↑x : Int) + (1 : Int))))) = AV.d (D.val (Value.int IntKind.i64 (↑(IntKind.i64.wrap ((↑x : Int) + (1 : Int))).toNat : Int))) ∧ True) ∧
               True ∧ true = true) ∧
               ((IntKind.i64.wrap ((↑x : Int) + (1 : Int))).toNat ≤ l.length ∧ afN l (IntKind.i64.wrap ((↑x : Int) + (1 : Int))).toNat = (0 : Int)) ∧
               l.length - (IntKind.i64.wrap ((↑x : Int) + (1 : Int))).toNat < l.length - x
          | false =>
           True ∧
           True ∧
           (Sk.st [Sk.one, Sk.one] = Sk.st [Sk.one, Sk.one] ∧ (0 : Nat) < (2 : Nat)) ∧
           ((1 : Nat) ≠ (0 : Nat) ∧ (1 : Nat) = (1 : Nat) ∧ false = false) ∧
           True ∧
           True ∧
           match decide (numOf (fldOf (l.getD (↑x : Int).toNat (D.val (Value.bool false))) (0 : Nat)) > (4 : Int)) with
           | true =>
            (Sk.st [Sk.one, Sk.one] = Sk.st [Sk.one, Sk.one] ∧ (1 : Nat) < (2 : Nat)) ∧
            ((1 : Nat) ≠ (0 : Nat) ∧ (1 : Nat) = (1 : Nat) ∧ false = false) ∧
            ((0 : Int) ≤ (0 : Int) ∧ (0 : Int) < (↑(intsOf (fldOf (l.getD (↑x : Int).toNat (D.val (Value.bool false))) (1 : Nat))).length : Int) ∧ (1 : Nat) = (1 : Nat)) ∧
            ((1 : Nat) ≠ (0 : Nat) ∧ (1 : Nat) = (1 : Nat) ∧ false = false) ∧
            True ∧
            True ∧
            True ∧
            match decide ((intsOf (fldOf (l.getD (↑x : Int).toNat (D.val (Value.bool false))) (1 : Nat))).getD (Int.toNat (0 : Int)) (0 : Int) > (1 : Int)) with
            | true => True ∧ (false = false ∧ True) ∧ D.val (Value.int IntKind.i64 (4 : Int)) = F
            | false =>
             True ∧
             True ∧
             ((0 : Int) ≤ (0 : Int) ∧ (0 : Int) ≤ (↑x : Int) ∧ (↑x : Int) ≤ (↑l.length : Int) ∧ (2 : Nat) ≠ (0 : Nat) ∧ (2 : Nat) = (2 : Nat)) ∧
             True ∧
             True ∧
             (((AV.d (D.val (Value.int IntKind.i64 (0 : Int))) = AV.d (D.val (Value.int IntKind.i64 (↑(Int.toNat (0 : Int)) : Int))) ∧ True) ∧
             (sm
             (some
             (Blk.fix
             (D.st
             [D.val (Value.int IntKind.i64 (numOf (fldOf (l.getD (↑x : Int).toNat (D.val (Value.bool false))) (0 : Nat)))),
             D.ints IntKind.u8 (intsOf (fldOf (l.getD (↑x : Int).toNat (D.val (Value.bool false))) (1 : Nat)))]))) ∧
             True) ∧
             true = true) ∧
             Int.toNat (0 : Int) ≤ (↑x : Int).toNat ∧ has (kOf (l.getD (↑x : Int).toNat (D.val (Value.bool false)))) (List.take (Int.toNat (0 : Int)) l) = false) ∧
             ∀ (x_1 : Nat),
             x_1 ≤ (↑x : Int).toNat ∧ has (kOf (l.getD (↑x : Int).toNat (D.val (Value.bool false)))) (List.take x_1 l) = false →
             true = true ∧
             True ∧
             match decide ((↑x_1 : Int) < (↑(List.drop (Int.toNat (0 : Int)) (List.take (↑x : Int).toNat l)).length : Int)) with
             | true =>
              ((0 : Int) ≤ (↑x_1 : Int) ∧
              (↑x_1 : Int) < (↑(List.drop (Int.toNat (0 : Int)) (List.take (↑x : Int).toNat l)).length : Int) ∧
              (2 : Nat) ≠ (0 : Nat) ∧
              (2 : Nat) = (2 : Nat) ∧
              D.st
              [D.val (Value.int IntKind.i64 (numOf (fldOf ((List.drop (Int.toNat (0 : Int)) (List.take (↑x : Int).toNat l)).getD (↑x_1 : Int).toNat (D.val (Value.bool false))) (0 : Nat)))),
              D.ints IntKind.u8 (intsOf (fldOf ((List.drop (Int.toNat (0 : Int)) (List.take (↑x : Int).toNat l)).getD (↑x_1 : Int).toNat (D.val (Value.bool false))) (1 : Nat)))] =
              (List.drop (Int.toNat (0 : Int)) (List.take (↑x : Int).toNat l)).getD (↑x_1 : Int).toNat (D.val (Value.bool false))) ∧
              ((2 : Nat) ≠ (0 : Nat) ∧ (2 : Nat) = (2 : Nat) ∧ true = true) ∧
              (True ∧ (2 : Nat) ≠ (0 : Nat)) ∧
              (Sk.st [Sk.one, Sk.one] = Sk.st [Sk.one, Sk.one] ∧ (2 : Nat) ≠ (0 : Nat) ∧ (2 : Nat) = (2 : Nat) ∧ false = false) ∧
              (Sk.st [Sk.one, Sk.one] = Sk.st [Sk.one, Sk.one] ∧ (0 : Nat) < (2 : Nat)) ∧
              ((1 : Nat) ≠ (0 : Nat) ∧ (1 : Nat) = (1 : Nat) ∧ false = false) ∧
              (Sk.st [Sk.one, Sk.one] = Sk.st [Sk.one, Sk.one] ∧ (0 : Nat) < (2 : Nat)) ∧
              ((1 : Nat) ≠ (0 : Nat) ∧ (1 : Nat) = (1 : Nat) ∧ false = false) ∧
              True ∧
              match
              numOf (fldOf ((List.drop (Int.toNat (0 : Int)) (List.take (↑x : Int).toNat l)).getD (↑x_1 : Int).toNat (D.val (Value.bool false))) (0 : Nat)) ==
              numOf (fldOf (l.getD (↑x : Int).toNat (D.val (Value.bool false))) (0 : Nat)) with
              | true => True ∧ (false = false ∧ True) ∧ D.val (Value.int IntKind.i64 (1 : Int)) = F
              | false =>
               True ∧
               True ∧
               ((AV.d (D.val (Value.int IntKind.i64 (IntKind.i64.wrap ((↑x_1 : Int) + (1 : Int))))) = AV.d (D.val (Value.int IntKind.i64 (↑(IntKind.i64.wrap ((↑x_1 : Int) + (1 : Int))).toNat : Int))) ∧
               True) ∧
               (sm
               (some
               (Blk.fix
               (D.st
               [D.val (Value.int IntKind.i64 (numOf (fldOf (l.getD (↑x : Int).toNat (D.val (Value.bool false))) (0 : Nat)))),
               D.ints IntKind.u8 (intsOf (fldOf (l.getD (↑x : Int).toNat (D.val (Value.bool false))) (1 : Nat)))]))) ∧
               True) ∧
               true = true) ∧
               ((IntKind.i64.wrap ((↑x_1 : Int) + (1 : Int))).toNat ≤ (↑x : Int).toNat ∧
               has (kOf (l.getD (↑x : Int).toNat (D.val (Value.bool false)))) (List.take (IntKind.i64.wrap ((↑x_1 : Int) + (1 : Int))).toNat l) = false) ∧
               l.length - (IntKind.i64.wrap ((↑x_1 : Int) + (1 : Int))).toNat < l.length - x_1
             | false =>
              True ∧
              True ∧
              ((AV.d (D.val (Value.int IntKind.i64 (IntKind.i64.wrap ((↑x : Int) + (1 : Int))))) = AV.d (D.val (Value.int IntKind.i64 (↑(IntKind.i64.wrap ((↑x : Int) + (1 : Int))).toNat : Int))) ∧ True) ∧ True ∧ true = true) ∧
              ((IntKind.i64.wrap ((↑x : Int) + (1 : Int))).toNat ≤ l.length ∧ afN l (IntKind.i64.wrap ((↑x : Int) + (1 : Int))).toNat = (0 : Int)) ∧ l.length - (IntKind.i64.wrap ((↑x : Int) + (1 : Int))).toNat < l.length - x
           | false =>
            True ∧
            True ∧
            True ∧
            True ∧
            ((0 : Int) ≤ (0 : Int) ∧ (0 : Int) ≤ (↑x : Int) ∧ (↑x : Int) ≤ (↑l.length : Int) ∧ (2 : Nat) ≠ (0 : Nat) ∧ (2 : Nat) = (2 : Nat)) ∧
            True ∧
            True ∧
            (((AV.d (D.val (Value.int IntKind.i64 (0 : Int))) = AV.d (D.val (Value.int IntKind.i64 (↑(Int.toNat (0 : Int)) : Int))) ∧ True) ∧
            (sm
            (some
            (Blk.fix
            (D.st [D.val (Value.int IntKind.i64 (numOf (fldOf (l.getD (↑x : Int).toNat (D.val (Value.bool false))) (0 : Nat)))), D.ints IntKind.u8 (intsOf (fldOf (l.getD (↑x : Int).toNat (D.val (Value.bool false))) (1 : Nat)))]))) ∧
            True) ∧
            true = true) ∧
            Int.toNat (0 : Int) ≤ (↑x : Int).toNat ∧ has (kOf (l.getD (↑x : Int).toNat (D.val (Value.bool false)))) (List.take (Int.toNat (0 : Int)) l) = false) ∧
            ∀ (x_1 : Nat),
            x_1 ≤ (↑x : Int).toNat ∧ has (kOf (l.getD (↑x : Int).toNat (D.val (Value.bool false)))) (List.take x_1 l) = false →
            true = true ∧
            True ∧
            match decide ((↑x_1 : Int) < (↑(List.drop (Int.toNat (0 : Int)) (List.take (↑x : Int).toNat l)).length : Int)) with
            | true =>
             ((0 : Int) ≤ (↑x_1 : Int) ∧
             (↑x_1 : Int) < (↑(List.drop (Int.toNat (0 : Int)) (List.take (↑x : Int).toNat l)).length : Int) ∧
             (2 : Nat) ≠ (0 : Nat) ∧
             (2 : Nat) = (2 : Nat) ∧
             D.st
             [D.val (Value.int IntKind.i64 (numOf (fldOf ((List.drop (Int.toNat (0 : Int)) (List.take (↑x : Int).toNat l)).getD (↑x_1 : Int).toNat (D.val (Value.bool false))) (0 : Nat)))),
             D.ints IntKind.u8 (intsOf (fldOf ((List.drop (Int.toNat (0 : Int)) (List.take (↑x : Int).toNat l)).getD (↑x_1 : Int).toNat (D.val (Value.bool false))) (1 : Nat)))] =
             (List.drop (Int.toNat (0 : Int)) (List.take (↑x : Int).toNat l)).getD (↑x_1 : Int).toNat (D.val (Value.bool false))) ∧
             ((2 : Nat) ≠ (0 : Nat) ∧ (2 : Nat) = (2 : Nat) ∧ true = true) ∧
             (True ∧ (2 : Nat) ≠ (0 : Nat)) ∧
             (Sk.st [Sk.one, Sk.one] = Sk.st [Sk.one, Sk.one] ∧ (2 : Nat) ≠ (0 : Nat) ∧ (2 : Nat) = (2 : Nat) ∧ false = false) ∧
             (Sk.st [Sk.one, Sk.one] = Sk.st [Sk.one, Sk.one] ∧ (0 : Nat) < (2 : Nat)) ∧
             ((1 : Nat) ≠ (0 : Nat) ∧ (1 : Nat) = (1 : Nat) ∧ false = false) ∧
             (Sk.st [Sk.one, Sk.one] = Sk.st [Sk.one, Sk.one] ∧ (0 : Nat) < (2 : Nat)) ∧
             ((1 : Nat) ≠ (0 : Nat) ∧ (1 : Nat) = (1 : Nat) ∧ false = false) ∧
             True ∧
             match
             numOf (fldOf ((List.drop (Int.toNat (0 : Int)) (List.take (↑x : Int).toNat l)).getD (↑x_1 : Int).toNat (D.val (Value.bool false))) (0 : Nat)) ==
             numOf (fldOf (l.getD (↑x : Int).toNat (D.val (Value.bool false))) (0 : Nat)) with
             | true => True ∧ (false = false ∧ True) ∧ D.val (Value.int IntKind.i64 (1 : Int)) = F
             | false =>
              True ∧
              True ∧
              ((AV.d (D.val (Value.int IntKind.i64 (IntKind.i64.wrap ((↑x_1 : Int) + (1 : Int))))) = AV.d (D.val (Value.int IntKind.i64 (↑(IntKind.i64.wrap ((↑x_1 : Int) + (1 : Int))).toNat : Int))) ∧ True) ∧
              (sm
              (some
              (Blk.fix
              (D.st
              [D.val (Value.int IntKind.i64 (numOf (fldOf (l.getD (↑x : Int).toNat (D.val (Value.bool false))) (0 : Nat)))),
              D.ints IntKind.u8 (intsOf (fldOf (l.getD (↑x : Int).toNat (D.val (Value.bool false))) (1 : Nat)))]))) ∧
              True) ∧
              true = true) ∧
              ((IntKind.i64.wrap ((↑x_1 : Int) + (1 : Int))).toNat ≤ (↑x : Int).toNat ∧
              has (kOf (l.getD (↑x : Int).toNat (D.val (Value.bool false)))) (List.take (IntKind.i64.wrap ((↑x_1 : Int) + (1 : Int))).toNat l) = false) ∧
              l.length - (IntKind.i64.wrap ((↑x_1 : Int) + (1 : Int))).toNat < l.length - x_1
            | false =>
             True ∧
             True ∧
             ((AV.d (D.val (Value.int IntKind.i64 (IntKind.i64.wrap ((↑x : Int) + (1 : Int))))) = AV.d (D.val (Value.int IntKind.i64 (↑(IntKind.i64.wrap ((↑x : Int) + (1 : Int))).toNat : Int))) ∧ True) ∧ True ∧ true = true) ∧
             ((IntKind.i64.wrap ((↑x : Int) + (1 : Int))).toNat ≤ l.length ∧ afN l (IntKind.i64.wrap ((↑x : Int) + (1 : Int))).toNat = (0 : Int)) ∧ l.length - (IntKind.i64.wrap ((↑x : Int) + (1 : Int))).toNat < l.length - x
  | false => True ∧ (false = false ∧ True) ∧ D.val (Value.int IntKind.i64 (0 : Int)) = F) := by kernel_rfl
set_option maxRecDepth 100000 in
theorem m22 : Meets Try.prog 22 sp22 := by
  refine meets_of_owed (C := c0) ⟨tab_ok, fun f s h => by cases h⟩ (by kernel_rfl) (by kernel_rfl : Try.prog.funcs[22]? = some Try.f22) (by kernel_rfl) (by kernel_rfl) (by kernel_rfl) _ ?_
  rintro _ ⟨l, rfl, hl⟩
  refine ⟨fun _ => rfl, inv22 l, ?_⟩
  show owed c0 (inv22 l) Try.f22 [.slc 2 l] (i64 (afE l))
  have hl2 := hl.2
  rw [vc22]
  simp (decide := true) only [eq_self, true_and, and_true, ne_eq, not_false_eq_true]
  split
  · rename_i h
    have h := of_decide_eq_true h
    unfold afE
    rw [if_pos (by omega)]
  · rename_i h24
    have h24 : ¬ 24 < l.length := by have := of_decide_eq_false h24; omega
    refine ⟨?_, ?_⟩
    · and_intros <;> first | rfl | exact Nat.zero_le _
    rintro x ⟨hx, h0⟩
    split
    · rename_i h
      have h : x < l.length := by have := of_decide_eq_true h; omega
      obtain ⟨k, v, e, h1, h2⟩ := el hl h
      have e' : l.getD x default = at_ k v := e
      have ek : kOf (l.getD x default) = k := by rw [e']; rfl
      have ev : vOf (l.getD x default) = v := by rw [e']; rfl
      simp only [Int.toNat_natCast, e, f0_at, f1_at, kO_at, vO_at, wS h hl2]
      have hx2 : (x : Int) < l.length := by omega
      refine ⟨⟨by omega, hx2, trivial⟩, ?_⟩
      have bad : ∀ {z : Int}, afI l x = z → z ≠ 0 → i64 z = i64 (afE l) := fun hz z0 => by rw [afE_at h h24 h0 hz z0]
      by_cases c1 : k < 1
      · simp only [decide_eq_true c1]
        exact bad (by unfold afI; rw [ek, if_pos (.inl c1)]) (by decide)
      have d1 : decide (k < 1) = false := decide_eq_false c1
      by_cases c2 : k > 18
      · simp only [d1, decide_eq_true c2]
        exact bad (by unfold afI; rw [ek, if_pos (.inr c2)]) (by decide)
      have d2 : decide (k > 18) = false := decide_eq_false c2
      simp only [d1, d2]
      have kin : ¬(k < 1 ∨ 18 < k) := by omega
      have bad4 : fitB k v = false → i64 4 = i64 (afE l) := fun hf => bad (by unfold afI; rw [ek, ev, if_neg kin, hf, if_pos rfl]) (by decide)
      have tail : fitB k v = true → (
             ((0 : Int) ≤ (0 : Int) ∧ (0 : Int) ≤ (↑x : Int) ∧ (↑x : Int) ≤ (↑l.length : Int) ∧ (2 : Nat) ≠ (0 : Nat) ∧ (2 : Nat) = (2 : Nat)) ∧
               True ∧
               True ∧
               (((AV.d (D.val (Value.int IntKind.i64 (0 : Int))) = AV.d (D.val (Value.int IntKind.i64 (↑(Int.toNat (0 : Int)) : Int))) ∧ True) ∧
               (sm
               (some
               (Blk.fix
               (D.st [D.val (Value.int IntKind.i64 (numOf (fldOf (l.getD (↑x : Int).toNat (D.val (Value.bool false))) (0 : Nat)))), D.ints IntKind.u8 (intsOf (fldOf (l.getD (↑x : Int).toNat (D.val (Value.bool false))) (1 : Nat)))]))) ∧
               True) ∧
               true = true) ∧
               Int.toNat (0 : Int) ≤ (↑x : Int).toNat ∧ has (kOf (l.getD (↑x : Int).toNat (D.val (Value.bool false)))) (List.take (Int.toNat (0 : Int)) l) = false) ∧
               ∀ (x_1 : Nat),
               x_1 ≤ (↑x : Int).toNat ∧ has (kOf (l.getD (↑x : Int).toNat (D.val (Value.bool false)))) (List.take x_1 l) = false →
               true = true ∧
               True ∧
               match (generalizing := false) decide ((↑x_1 : Int) < (↑(List.drop (Int.toNat (0 : Int)) (List.take (↑x : Int).toNat l)).length : Int)) with
               | true =>
                ((0 : Int) ≤ (↑x_1 : Int) ∧
                (↑x_1 : Int) < (↑(List.drop (Int.toNat (0 : Int)) (List.take (↑x : Int).toNat l)).length : Int) ∧
                (2 : Nat) ≠ (0 : Nat) ∧
                (2 : Nat) = (2 : Nat) ∧
                D.st
                [D.val (Value.int IntKind.i64 (numOf (fldOf ((List.drop (Int.toNat (0 : Int)) (List.take (↑x : Int).toNat l)).getD (↑x_1 : Int).toNat (D.val (Value.bool false))) (0 : Nat)))),
                D.ints IntKind.u8 (intsOf (fldOf ((List.drop (Int.toNat (0 : Int)) (List.take (↑x : Int).toNat l)).getD (↑x_1 : Int).toNat (D.val (Value.bool false))) (1 : Nat)))] =
                (List.drop (Int.toNat (0 : Int)) (List.take (↑x : Int).toNat l)).getD (↑x_1 : Int).toNat (D.val (Value.bool false))) ∧
                ((2 : Nat) ≠ (0 : Nat) ∧ (2 : Nat) = (2 : Nat) ∧ true = true) ∧
                (True ∧ (2 : Nat) ≠ (0 : Nat)) ∧
                (Sk.st [Sk.one, Sk.one] = Sk.st [Sk.one, Sk.one] ∧ (2 : Nat) ≠ (0 : Nat) ∧ (2 : Nat) = (2 : Nat) ∧ false = false) ∧
                (Sk.st [Sk.one, Sk.one] = Sk.st [Sk.one, Sk.one] ∧ (0 : Nat) < (2 : Nat)) ∧
                ((1 : Nat) ≠ (0 : Nat) ∧ (1 : Nat) = (1 : Nat) ∧ false = false) ∧
                (Sk.st [Sk.one, Sk.one] = Sk.st [Sk.one, Sk.one] ∧ (0 : Nat) < (2 : Nat)) ∧
                ((1 : Nat) ≠ (0 : Nat) ∧ (1 : Nat) = (1 : Nat) ∧ false = false) ∧
                True ∧
                match (generalizing := false)
                numOf (fldOf ((List.drop (Int.toNat (0 : Int)) (List.take (↑x : Int).toNat l)).getD (↑x_1 : Int).toNat (D.val (Value.bool false))) (0 : Nat)) ==
                numOf (fldOf (l.getD (↑x : Int).toNat (D.val (Value.bool false))) (0 : Nat)) with
                | true => True ∧ (false = false ∧ True) ∧ D.val (Value.int IntKind.i64 (1 : Int)) = i64 (afE l)
                | false =>
                 True ∧
                 True ∧
                 ((AV.d (D.val (Value.int IntKind.i64 (IntKind.i64.wrap ((↑x_1 : Int) + (1 : Int))))) = AV.d (D.val (Value.int IntKind.i64 (↑(IntKind.i64.wrap ((↑x_1 : Int) + (1 : Int))).toNat : Int))) ∧ True) ∧
                 (sm
                 (some
                 (Blk.fix
                 (D.st
                 [D.val (Value.int IntKind.i64 (numOf (fldOf (l.getD (↑x : Int).toNat (D.val (Value.bool false))) (0 : Nat)))),
                 D.ints IntKind.u8 (intsOf (fldOf (l.getD (↑x : Int).toNat (D.val (Value.bool false))) (1 : Nat)))]))) ∧
                 True) ∧
                 true = true) ∧
                 ((IntKind.i64.wrap ((↑x_1 : Int) + (1 : Int))).toNat ≤ (↑x : Int).toNat ∧
                 has (kOf (l.getD (↑x : Int).toNat (D.val (Value.bool false)))) (List.take (IntKind.i64.wrap ((↑x_1 : Int) + (1 : Int))).toNat l) = false) ∧
                 l.length - (IntKind.i64.wrap ((↑x_1 : Int) + (1 : Int))).toNat < l.length - x_1
               | false =>
                True ∧
                True ∧
                ((AV.d (D.val (Value.int IntKind.i64 (IntKind.i64.wrap ((↑x : Int) + (1 : Int))))) = AV.d (D.val (Value.int IntKind.i64 (↑(IntKind.i64.wrap ((↑x : Int) + (1 : Int))).toNat : Int))) ∧ True) ∧ True ∧ true = true) ∧
                ((IntKind.i64.wrap ((↑x : Int) + (1 : Int))).toNat ≤ l.length ∧ afN l (IntKind.i64.wrap ((↑x : Int) + (1 : Int))).toNat = (0 : Int)) ∧ l.length - (IntKind.i64.wrap ((↑x : Int) + (1 : Int))).toNat < l.length - x) := by
        intro hf
        simp (decide := true) only [eq_self, true_and, and_true, ne_eq, not_false_eq_true, Int.toNat_natCast, e, f0_at, f1_at, kO_at, vO_at, wS h hl2]
        have hdt : List.drop (Int.toNat 0) (List.take x l) = List.take x l := rfl
        have hlen : (List.take x l).length = x := by rw [List.length_take]; omega
        simp only [hdt, hlen]
        refine ⟨⟨by omega, by omega⟩, ?_, ?_⟩
        · and_intros <;> first | rfl | exact Nat.zero_le _
        rintro y ⟨hy, hny⟩
        split
        · rename_i hyx
          have hyx : y < x := by have := of_decide_eq_true hyx; omega
          have hyl : y < l.length := by omega
          have hg : (List.take x l).getD y (D.val (Value.bool false)) = l.getD y (D.val (Value.bool false)) := by
            rw [List.getD_eq_getElem?_getD, List.getD_eq_getElem?_getD, List.getElem?_take, if_pos hyx]
          obtain ⟨k', v', e2, _, _⟩ := el hl hyl
          have ek2 : kOf (l.getD y default) = k' := by rw [show l.getD y default = at_ k' v' from e2]; rfl
          simp only [hg, e2, f0_at, f1_at, wS hyl hl2, Int.toNat_natCast]
          refine ⟨⟨by omega, by omega, trivial⟩, ?_⟩
          split
          · rename_i hk
            have hk := eq_of_beq hk
            refine bad ?_ (by decide)
            unfold afI
            have hh : has k (l.take x) = true := by
              have := has_take hyx (Nat.le_of_lt h)
              rw [ek2, hk] at this
              exact this
            rw [ek, ev, if_neg kin, hf, if_neg (by decide), hh, if_pos rfl]
          · rename_i hk
            refine ⟨trivial, ⟨by omega, ?_⟩, by omega⟩
            rw [take_snoc hyl, has_app, hny, ek2, Bool.false_or]
            exact decide_eq_false (fun a => by rw [a] at hk; simp at hk)
        · rename_i hyx
          have hyx := of_decide_eq_false hyx
          obtain rfl : y = x := by omega
          refine ⟨⟨h, afN_step h0 ?_⟩, by omega⟩
          unfold afI
          rw [ek, ev, if_neg kin, hf, if_neg (by decide), hny, if_neg (by decide)]
      simp (decide := true) only [eq_self, true_and, and_true, ne_eq, not_false_eq_true] at tail
      simp only [Int.toNat_natCast, e, f0_at, f1_at, kO_at, vO_at, wS h hl2] at tail
      have hl0 : 0 ≤ (v.length : Int) := by omega
      have n2 : k ≠ 2 → (k == 2) = false := beq_eq_false_iff_ne.2
      have n3 : k ≠ 3 → (k == 3) = false := beq_eq_false_iff_ne.2
      have n4 : k ≠ 4 → (k == 4) = false := beq_eq_false_iff_ne.2
      have n1 : k ≠ 1 → (k == 1) = false := beq_eq_false_iff_ne.2
      have p2 : k = 2 → (k == 2) = true := fun a => by rw [a]; rfl
      have p3 : k = 3 → (k == 3) = true := fun a => by rw [a]; rfl
      have p4 : k = 4 → (k == 4) = true := fun a => by rw [a]; rfl
      have p1 : k = 1 → (k == 1) = true := fun a => by rw [a]; rfl
      by_cases k23 : k = 2 ∨ k = 3
      · have g4 : decide (k > 4) = false := decide_eq_false (by omega)
        have q1 := n1 (by omega)
        have hfit : fitB k v = decide (v.length ≤ 32) := by unfold fitB; rw [if_neg (by omega), if_pos k23]
        have fin : match decide ((v.length : Int) > 32) with
          | true => i64 4 = i64 (afE l)
          | false => decide (v.length ≤ 32) = true := by
          split
          · rename_i a
            have a := of_decide_eq_true a
            exact bad4 (by rw [hfit]; exact decide_eq_false (by omega))
          · rename_i a
            have a := of_decide_eq_false a
            exact decide_eq_true (by omega)
        rcases k23 with k2 | k3
        · simp only [p2 k2, q1, g4]
          revert fin
          cases decide ((v.length : Int) > 32)
          · exact fun fin => tail (hfit.trans fin)
          · exact id
        · simp only [n2 (by omega), p3 k3, q1, g4]
          revert fin
          cases decide ((v.length : Int) > 32)
          · exact fun fin => tail (hfit.trans fin)
          · exact id
      have q2 := n2 (by omega)
      have q3 := n3 (by omega)
      by_cases k4 : k = 4
      · have g4 : decide (k > 4) = false := decide_eq_false (by omega)
        have q1 := n1 (by omega)
        have hfit : fitB k v = decide (v.length ≤ 64) := by unfold fitB; rw [if_neg (by omega), if_neg k23, if_pos k4]
        simp only [q2, q3, p4 k4, q1, g4]
        split
        · rename_i a
          have a := of_decide_eq_true a
          exact bad4 (by rw [hfit]; exact decide_eq_false (by omega))
        · rename_i a
          have a := of_decide_eq_false a
          exact tail (by rw [hfit]; exact decide_eq_true (by omega))
      have q4 := n4 k4
      by_cases k1 : k = 1
      · have g4 : decide (k > 4) = false := decide_eq_false (by omega)
        have hfit : fitB k v = decide (v.length = 1 ∧ 1 ≤ v.getD 0 0 ∧ v.getD 0 0 ≤ 4) := by unfold fitB; rw [if_pos k1]
        simp only [q2, q3, q4, p1 k1, g4]
        split
        · rename_i a
          have a := of_decide_eq_true a
          exact bad4 (by rw [hfit]; exact decide_eq_false (by omega))
        rename_i a
        have a := of_decide_eq_false a
        split
        · rename_i a2
          have a2 := of_decide_eq_true a2
          exact bad4 (by rw [hfit]; exact decide_eq_false (by omega))
        rename_i a2
        have a2 := of_decide_eq_false a2
        refine ⟨by omega, ?_⟩
        split
        · rename_i a3
          have a3 : v.getD 0 0 < 1 := of_decide_eq_true a3
          exact bad4 (by rw [hfit]; exact decide_eq_false (by omega))
        rename_i a3
        have a3 : ¬ v.getD 0 0 < 1 := of_decide_eq_false a3
        refine ⟨by omega, ?_⟩
        split
        · rename_i a4
          have a4 : v.getD 0 0 > 4 := of_decide_eq_true a4
          exact bad4 (by rw [hfit]; exact decide_eq_false (by omega))
        rename_i a4
        have a4 : ¬ v.getD 0 0 > 4 := of_decide_eq_false a4
        exact tail (by rw [hfit]; exact decide_eq_true (by omega))
      · have g4 : decide (k > 4) = true := decide_eq_true (by omega)
        have q1 := n1 k1
        have hfit : fitB k v = decide (v.length = 1 ∧ v.getD 0 0 ≤ 1) := by unfold fitB; rw [if_neg k1, if_neg k23, if_neg k4]
        simp only [q2, q3, q4, q1, g4]
        split
        · rename_i a
          have a := of_decide_eq_true a
          exact bad4 (by rw [hfit]; exact decide_eq_false (by omega))
        rename_i a
        have a := of_decide_eq_false a
        split
        · rename_i a2
          have a2 := of_decide_eq_true a2
          exact bad4 (by rw [hfit]; exact decide_eq_false (by omega))
        rename_i a2
        have a2 := of_decide_eq_false a2
        refine ⟨by omega, ?_⟩
        split
        · rename_i a3
          have a3 : v.getD 0 0 > 1 := of_decide_eq_true a3
          exact bad4 (by rw [hfit]; exact decide_eq_false (by omega))
        rename_i a3
        have a3 : ¬ v.getD 0 0 > 1 := of_decide_eq_false a3
        exact tail (by rw [hfit]; exact decide_eq_true (by omega))
    · rename_i h
      have h := of_decide_eq_false h
      obtain rfl : x = l.length := by omega
      unfold afE
      rw [if_neg h24, h0]
end Go.Proofs.Ytfbaghocbipbiaa
namespace Go.Proofs.Ytfbaghocbipbiaa
open Go Go.Vg
set_option maxRecDepth 100000 in
theorem m65 : Meets Try.prog 65 sp65 := by
 refine meets_of_owed (C := c65) ⟨tab_ok, lkS_ok ⟨m61, m11, m62, m64, trivial⟩⟩ (by kernel_rfl) (by kernel_rfl : Try.prog.funcs[65]? = some Try.f65) (by kernel_rfl) (by kernel_rfl) (by kernel_rfl) _ ?_
 rintro _ ⟨h, v, rfl, hv⟩
 refine ⟨fun _ => rfl, inv65 h v, ?_⟩
 show owed c65 (inv65 h v) Try.f65 [cdL h v] (bl (objX (hL h) (vL v)))
 rw [vc65, objX_eq]
 have ex1 : (∃ (h_1 : Nat → Bool), ∃ (v_1 : Nat → List Int), [D.st [D.st (hL h), D.st (vL v)]] = [D.st [D.st (hL h_1), D.st (vL v_1)]] ∧ okc v_1) = True := eq_true ⟨h, v, rfl, hv⟩
 have ex2 : ∀ K : Int, 0 ≤ K ∧ K < 19 → (∃ (h_1 : Nat → Bool), ∃ (v_1 : Nat → List Int), ∃ (k : Int), [D.st [D.st (hL h), D.st (vL v)], D.val (Value.int IntKind.i64 K)] = [D.st [D.st (hL h_1), D.st (vL v_1)], D.val (Value.int IntKind.i64 k)] ∧ 0 ≤ k ∧ k < 19) = True := fun K hK => eq_true ⟨h, v, K, rfl, hK⟩
 have ex3 : ∀ (C : Int) (N : Nat), (∃ (c : Int), ∃ (n : Nat), [D.val (Value.int IntKind.i64 C), D.val (Value.int IntKind.i64 (N : Int))] = [D.val (Value.int IntKind.i64 c), D.val (Value.int IntKind.i64 (n : Int))]) = True := fun C N => eq_true ⟨C, N, rfl⟩
 have ex4 : ∀ (C K : Int), (∃ (c : Int), ∃ (k : Int), [D.val (Value.int IntKind.i64 C), D.val (Value.int IntKind.i64 K)] = [D.val (Value.int IntKind.i64 c), D.val (Value.int IntKind.i64 k)]) = True := fun C K => eq_true ⟨C, K, rfl⟩
 have g1 : (hL h).getD 1 (D.val (Value.bool false)) = bl (h 1) := hL_get h (by decide) _
 have g4 : (vL v).getD 4 (D.val (Value.bool false)) = .str (v 4) := vL_get v (by decide) _
 have o : ∀ K : Nat, K < 19 → oneX (vL v) (K : Int) = oneV v K := fun K hK => oneX_eq v hK
 have o8 : oneX (vL v) 8 = oneV v 8 := o 8 (by decide)
 have o9 : oneX (vL v) 9 = oneV v 9 := o 9 (by decide)
 have o10 : oneX (vL v) 10 = oneV v 10 := o 10 (by decide)
 have o11 : oneX (vL v) 11 = oneV v 11 := o 11 (by decide)
 have o13 : oneX (vL v) 13 = oneV v 13 := o 13 (by decide)
 have o14 : oneX (vL v) 14 = oneV v 14 := o 14 (by decide)
 have o15 : oneX (vL v) 15 = oneV v 15 := o 15 (by decide)
 have o16 : oneX (vL v) 16 = oneV v 16 := o 16 (by decide)
 have o17 : oneX (vL v) 17 = oneV v 17 := o 17 (by decide)
 simp (decide := true) only [ex1, ex2 8 (by decide), ex2 9 (by decide), ex2 10 (by decide), ex2 11 (by decide), ex2 13 (by decide), ex2 14 (by decide), ex2 15 (by decide), ex2 16 (by decide), ex2 17 (by decide), ex3, ex4, g1, g4, o8, o9, o10, o11, o13, o14, o15, o16, o17, clX_eq, hL_len, vL_len, eq_true (hL_ones _), eq_true (vL_ones _), eq_self, true_and, and_true, ne_eq, not_false_eq_true, Int.toNat_natCast]
 refine ⟨?_, ?_⟩
 ·and_intros <;> first | rfl | omega | trivial
 rintro x ⟨hx, hbel⟩
 split
 ·rename_i hl
  have hl : x + 1 < 19 := by have := of_decide_eq_true hl; omega
  have et : ((x : Int) + 1) = ((x + 1 : Nat) : Int) := by omega
  have hstep : belN h (clV (v 1)) (x + 1) = (belN h (clV (v 1)) x && decide (h (x + 1) = belB (clV (v 1)) ((x + 1 : Nat) : Int))) := rfl
  have hw : IntKind.i64.wrap (((x + 1 : Nat) : Int) + 1) = ((x + 2 : Nat) : Int) := by rw [wS hl (by omega)]
  have a1 : (0 : Int) ≤ ((x + 1 : Nat) : Int) ∧ ((x + 1 : Nat) : Int) < ((19 : Nat) : Int) := by omega
  simp only [et, ex4, Int.toNat_natCast, hL_get _ hl, sk_bl, sk1, ag_bl, boolOf_bl, hw, true_and, and_true]
  refine ⟨a1, ?_⟩
  rw [hbel, Bool.true_and] at hstep
  split
  ·rename_i hb
   have hb : h (x + 1) ≠ belB (clV (v 1)) ((x + 1 : Nat) : Int) := by
    intro e; rw [e] at hb
    revert hb
    cases belB (clV (v 1)) ((x + 1 : Nat) : Int) <;> exact fun a => by cases a
   have hn : belN h (clV (v 1)) 18 = false := by
    cases e : belN h (clV (v 1)) 18
    ·rfl
    ·exact absurd (belN_iff.1 e (x + 1) (by omega) (by omega)) hb
   unfold objB
   rw [hn, Bool.false_and]
  ·rename_i hb
   have hb : h (x + 1) = belB (clV (v 1)) ((x + 1 : Nat) : Int) := by
    revert hb
    cases h (x + 1) <;> cases belB (clV (v 1)) ((x + 1 : Nat) : Int) <;> first | exact fun _ => rfl | exact fun a => by cases a
   rw [decide_eq_true hb] at hstep
   have e1 : x + 2 - 1 = x + 1 := rfl
   simp only [e1]
   and_intros <;> first | rfl | omega | exact hstep | trivial
 ·rename_i hl
  have hl := of_decide_eq_false hl
  obtain rfl : x = 18 := by omega
  unfold objB flgB
  rw [hbel, Bool.true_and]
  generalize oneV v 8 = b8
  generalize oneV v 9 = b9
  generalize oneV v 10 = b10
  generalize oneV v 11 = b11
  generalize oneV v 13 = b13
  generalize oneV v 14 = b14
  generalize oneV v 15 = b15
  generalize oneV v 16 = b16
  generalize oneV v 17 = b17
  generalize szR (clV (v 1)) (v 4).length = bs
  generalize h 1 = b1
  cases b1
  ·rfl
  ·cases bs
   ·rfl
   ·cases b16 <;> cases b17 <;> cases b13 <;> cases b14 <;> cases b15 <;> cases b10 <;> cases b8 <;> cases b11 <;> cases b9 <;> rfl
set_option maxRecDepth 100000 in
theorem m17 : Meets Try.prog 17 sp17 := by
 refine meets_of_owed (C := c17) ⟨tab_ok, lkS_ok ⟨m24, m22, m21, m20, m65, trivial⟩⟩ (by kernel_rfl) (by kernel_rfl : Try.prog.funcs[17]? = some Try.f17) (by kernel_rfl) (by kernel_rfl) (by kernel_rfl) _ ?_
 rintro _ ⟨l, rfl, hl⟩
 refine ⟨fun _ => rfl, fun _ => none, ?_⟩
 show owed c17 (fun _ => none) Try.f17 [.slc 2 l] (bl (valB l))
 rw [vc17]
 have hc : okc (cV l) := fun k _ => cV_ok hl k
 have ex1 : (∃ (l_1 : List D), [D.slc 2 l] = [D.slc 2 l_1] ∧ okl l_1) = True := eq_true ⟨l, rfl, hl⟩
 have ex2 : (∃ (h : Nat → Bool), ∃ (v : Nat → List Int), [D.st [D.st (hL (cH l)), D.st (vL (cV l))]] = [D.st [D.st (hL h), D.st (vL v)]] ∧ okc v) = True := eq_true ⟨_, _, rfl, hc⟩
 have ex3 : (∃ (a : List D), ∃ (b : List D), [D.slc 2 l, D.slc 2 (atL (cH l) (cV l))] = [D.slc 2 a, D.slc 2 b] ∧ okl a ∧ okl b) = True := eq_true ⟨_, _, rfl, hl, at_okl hc⟩
 simp (decide := true) only [atX_eq, objX_eq, ex1, ex2, ex3, eq_self, true_and, and_true, ne_eq, not_false_eq_true]
 have e : valB l = (afE l == 0 && (sameB l (atL (cH l) (cV l)) && objB (cH l) (cV l))) := rfl
 rw [e]
 cases afE l == 0
 ·rfl
 ·cases sameB l (atL (cH l) (cV l))
  ·rfl
  ·rfl
end Go.Proofs.Ytfbaghocbipbiaa
namespace Go.Proofs.Ytfbaghocbipbiaa
open Go Go.Vg
abbrev u8i (c : Int) : D := .val (.int .u8 c)
def anB (l : List D) : List Int → Bool
 | [] => false
 | k :: r => isb k l || anB l r
def fiI (l : List D) : List Int → Nat
 | [] => 0
 | k :: r => if isb k l = true then 0 else fiI l r + 1
def fxI (l : List D) (ks : List Int) : Int := if fiI l ks < ks.length then (fiI l ks : Int) else -1
def mmB (k : Int) (ks : List Int) : Bool := decide (k ∈ ks)
def ixN (k : Int) : List Int → Nat
 | [] => 0
 | x :: r => if k = x then 0 else ixN k r + 1
def ixI (k : Int) (ks : List Int) : Int := if ixN k ks < ks.length then (ixN k ks : Int) else -1
def rfl_ (d : D) : List D := match d with | .ref (.slc _ l) => l | _ => []
def eqI (a b : List Int) : Bool := decide (a = b)
def okn (n : Nat) : Prop := n ≤ 140737488351232
def sp94 : Go.Vg.Spec := ⟨fun ds => ∃ b, ds = [bl b], fun ds => .ints .u8 [cond (boolOf (ds.headD default)) 1 0], false, [4]⟩
def sp97 : Go.Vg.Spec := ⟨fun ds => ∃ k l, ds = [i64 k, .ref (.slc 2 l)] ∧ okl l, fun ds => bl (isb (numOf (ds.headD default)) (rfl_ (ds.getD 1 default))), true, [3]⟩
def sp113 : Go.Vg.Spec := ⟨fun ds => ∃ ks l, ds = [.ints .i64 ks, .clo 97 [.ref (.slc 2 l)]] ∧ okl l ∧ okn ks.length, fun ds => i64 (fxI (match ds.getD 1 default with | .clo _ (x :: _) => rfl_ x | _ => []) (intsOf (ds.headD default))), true, [33]⟩
def sp96 : Go.Vg.Spec := ⟨fun ds => ∃ ks l, ds = [.ints .i64 ks, .clo 97 [.ref (.slc 2 l)]] ∧ okl l ∧ okn ks.length, fun ds => bl (anB (match ds.getD 1 default with | .clo _ (x :: _) => rfl_ x | _ => []) (intsOf (ds.headD default))), true, [33]⟩
def sp95 : Go.Vg.Spec := ⟨fun ds => ∃ ks l, ds = [.ints .i64 ks, .ref (.slc 2 l)] ∧ okl l ∧ okn ks.length, fun ds => bl (anB (rfl_ (ds.getD 1 default)) (intsOf (ds.headD default))), true, [33]⟩
def sp66 : Go.Vg.Spec := ⟨fun ds => ∃ l, ds = [.slc 2 l] ∧ okl l, fun ds => bl (sndB (xsOf (ds.headD default))), true, [32]⟩
def sp59 : Go.Vg.Spec := ⟨fun ds => ∃ c : Int, ∃ n : Nat, ds = [u8i c, i64 n], fun ds => bl (szP (numOf (ds.headD default)) (numOf (ds.getD 1 default)).toNat), true, [5, 3]⟩
def sp15 : Go.Vg.Spec := ⟨fun ds => ∃ c : Int, ds = [u8i c], fun ds => .ints .i64 (kdL (numOf (ds.headD default))), false, [5]⟩
def sp57 : Go.Vg.Spec := ⟨fun ds => ∃ l, ds = [.slc 2 l] ∧ okl l, fun ds => u8i (clP (xsOf (ds.headD default))), true, [32]⟩
def sp16 : Go.Vg.Spec := ⟨fun ds => ∃ l, ds = [.slc 2 l] ∧ okl l, fun ds => bl (valB (xsOf (ds.headD default))), true, [32]⟩
def sp93 : Go.Vg.Spec := ⟨fun ds => ∃ ks k, ds = [.ints .i64 ks, i64 k] ∧ okn ks.length, fun ds => i64 (ixI (numOf (ds.getD 1 default)) (intsOf (ds.headD default))), true, [33, 3]⟩
def sp58 : Go.Vg.Spec := ⟨fun ds => ∃ ks k, ds = [.ints .i64 ks, i64 k] ∧ okn ks.length, fun ds => bl (mmB (numOf (ds.getD 1 default)) (intsOf (ds.headD default))), true, [33, 3]⟩
def sp14 : Go.Vg.Spec := ⟨fun ds => ∃ a b, ds = [.ints .i64 a, .ints .i64 b] ∧ okn a.length, fun ds => bl (eqI (intsOf (ds.headD default)) (intsOf (ds.getD 1 default))), true, [33, 33]⟩
def c97 : Ctx := ⟨tab, lkS [(28, sp28)], [], []⟩
def c113 : Ctx := ⟨tab, lkS [(97, sp97)], [], []⟩
def c96 : Ctx := ⟨tab, lkS [(113, sp113)], [], []⟩
def c95 : Ctx := ⟨tab, lkS [(96, sp96)], [], [5]⟩
def c66 : Ctx := ⟨tab, lkS [(95, sp95)], [], [4]⟩
def c15 : Ctx := ⟨tab, fun _ => none, [4], []⟩
def c57 : Ctx := ⟨tab, lkS [(25, sp25)], [], []⟩
def c16 : Ctx := ⟨tab, lkS [(57, sp57), (15, sp15), (27, sp27), (25, sp25), (59, sp59), (66, sp66)], [], []⟩
def c58 : Ctx := ⟨tab, lkS [(93, sp93)], [], []⟩
def inv113 (l : List D) (ks : List Int) : Nat → Option Inv
 | 2 => some ⟨Nat, fun i => [(8, .d (i64 i))], fun _ => [], fun s => (slotN s 8).toNat, fun _ i => i ≤ fiI l ks, fun i => ks.length - i⟩
 | _ => none
def inv93 (k : Int) (ks : List Int) : Nat → Option Inv
 | 2 => some ⟨Nat, fun i => [(8, .d (i64 i))], fun _ => [], fun s => (slotN s 8).toNat, fun _ i => i ≤ ixN k ks, fun i => ks.length - i⟩
 | _ => none
def inv14 (a b : List Int) : Nat → Option Inv
 | 4 => some ⟨Nat, fun i => [(13, .d (i64 i))], fun _ => [], fun s => (slotN s 13).toNat, fun _ i => i ≤ a.length ∧ eqI (a.drop i) (b.drop i) = eqI a b, fun i => a.length - i⟩
 | _ => none
def inv15 : Nat → Option Inv
 | 12 => some ⟨Nat, fun i => [(5, .d (i64 (i + 1 : Nat))), (4, .row 4)], fun i => [(4, .row 3 (.ints .i64 (kdP i)))], fun s => (slotN s 5).toNat - 1, fun s i => i ≤ (slotN s 3).toNat, fun i => 18 - i⟩
 | _ => none
def inv16 (l : List D) : Nat → Option Inv
 | 6 => some ⟨Nat, fun i => [(30, .d (i64 i))], fun _ => [], fun s => (slotN s 30).toNat, fun _ i => i ≤ l.length ∧ (l.take i).map kOf = (kdL (clP l)).take i, fun i => l.length - i⟩
 | _ => none
--KEEP Go.Vg.eqB isAt okl fi fx kOf vOf vl has isb hid fitB afI afN afE hL vL cH cV atP atL sameB clV clP belB szR oneV flgB belN objB valB kdP lastK kdL szP sndB msL ouV ouL tkI tkN mkF mkE mkL flg d0V dH upH upV d1H d1V setV d2V mdE mdH mdV okv Go.Vg.ones okc atX oneX clX objX uHX uVX upHi upVi anB fiI fxI mmB ixN ixI okn eqI
set_option maxRecDepth 100000 in
theorem vc94  (b : Bool) (F : D)  :
    (owed c0 (fun _ => none) Try.f94 [bl b] F) = (
 True ∧
 True ∧
 match b with
 | true => ((1 : Nat) = (1 : Nat) ∧ (1 : Nat) ≤ (4096 : Nat)) ∧ True ∧ (false = false ∧ True) ∧ D.ints IntKind.u8 [(1 : Int)] = F
 | false => ((1 : Nat) = (1 : Nat) ∧ (1 : Nat) ≤ (4096 : Nat)) ∧ True ∧ (false = false ∧ True) ∧ D.ints IntKind.u8 [(0 : Int)] = F) := by kernel_rfl
set_option maxRecDepth 100000 in
theorem vc97  (k : Int) (l : List D) (F : D)  :
    (owed c97 (fun _ => none) Try.f97 [i64 k, .ref (.slc 2 l)] F) = (
 True ∧ ((1 : Nat) ≠ (0 : Nat) ∧ (1 : Nat) = (1 : Nat) ∧ false = false) ∧ True ∧ (∃ (l_1 : List D), ∃ (j : Int), [D.slc (2 : Nat) l, D.val (Value.int IntKind.i64 k)] = [D.slc (2 : Nat) l_1, D.val (Value.int IntKind.i64 j)] ∧ okl l_1) ∧ True ∧ (false = false ∧ True) ∧ D.val (Value.bool (isb k l)) = F) := by kernel_rfl
set_option maxRecDepth 100000 in
theorem vc113  (ks : List Int) (l : List D) (F : D)  :
    (owed c113 (inv113 l ks) Try.f113 [.ints .i64 ks, .clo 97 [.ref (.slc 2 l)]] F) = (
 True ∧
 True ∧
 True ∧
 True ∧
 (((AV.d (D.val (Value.int IntKind.i64 (0 : Int))) = AV.d (D.val (Value.int IntKind.i64 (↑(Int.toNat (0 : Int)) : Int))) ∧ True) ∧ True ∧ true = true) ∧ Int.toNat (0 : Int) ≤ fiI l ks) ∧
 ∀ (x : Nat),
 x ≤ fiI l ks →
 true = true ∧
 True ∧
 match decide ((↑x : Int) < (↑ks.length : Int)) with
 | true =>
  True ∧
  True ∧
  True ∧
  True ∧
  True ∧
  ((0 : Int) ≤ (↑x : Int) ∧ (↑x : Int) < (↑ks.length : Int) ∧ (1 : Nat) = (1 : Nat)) ∧
  ((1 : Nat) ≠ (0 : Nat) ∧ (1 : Nat) = (1 : Nat) ∧ false = false) ∧
  (∃ (k : Int), ∃ (l_1 : List D), [D.val (Value.int IntKind.i64 (ks.getD (↑x : Int).toNat (0 : Int))), (D.slc (2 : Nat) l).ref] = [D.val (Value.int IntKind.i64 k), (D.slc (2 : Nat) l_1).ref] ∧ okl l_1) ∧
  match isb (ks.getD (↑x : Int).toNat (0 : Int)) l with
  | true => True ∧ True ∧ (false = false ∧ True) ∧ D.val (Value.int IntKind.i64 (↑x : Int)) = F
  | false =>
   True ∧
   True ∧
   ((AV.d (D.val (Value.int IntKind.i64 (IntKind.i64.wrap ((↑x : Int) + (1 : Int))))) = AV.d (D.val (Value.int IntKind.i64 (↑(IntKind.i64.wrap ((↑x : Int) + (1 : Int))).toNat : Int))) ∧ True) ∧ True ∧ true = true) ∧ (IntKind.i64.wrap ((↑x : Int) + (1 : Int))).toNat ≤ fiI l ks ∧ ks.length - (IntKind.i64.wrap ((↑x : Int) + (1 : Int))).toNat < ks.length - x
 | false => True ∧ (false = false ∧ True) ∧ D.val (Value.int IntKind.i64 (-1 : Int)) = F) := by kernel_rfl
set_option maxRecDepth 100000 in
theorem vc96  (ks : List Int) (l : List D) (F : D)  :
    (owed c96 (fun _ => none) Try.f96 [.ints .i64 ks, .clo 97 [.ref (.slc 2 l)]] F) = (
 True ∧ True ∧ True ∧ (∃ (ks_1 : List Int), ∃ (l_1 : List D), [D.ints IntKind.i64 ks, D.clo (97 : Nat) [(D.slc (2 : Nat) l).ref]] = [D.ints IntKind.i64 ks_1, D.clo (97 : Nat) [(D.slc (2 : Nat) l_1).ref]] ∧ okl l_1 ∧ okn ks_1.length) ∧ True ∧ True ∧ (false = false ∧ True) ∧ D.val (Value.bool (decide (fxI l ks ≥ (0 : Int)))) = F) := by kernel_rfl
set_option maxRecDepth 100000 in
theorem vc95  (ks : List Int) (l : List D) (F : D)  :
    (owed c95 (fun _ => none) Try.f95 [.ints .i64 ks, .ref (.slc 2 l)] F) = (
 True ∧ True ∧ True ∧ (∃ (ks_1 : List Int), ∃ (l_1 : List D), [D.ints IntKind.i64 ks, D.clo (97 : Nat) [(D.slc (2 : Nat) l).ref]] = [D.ints IntKind.i64 ks_1, D.clo (97 : Nat) [(D.slc (2 : Nat) l_1).ref]] ∧ okl l_1 ∧ okn ks_1.length) ∧ True ∧ (false = false ∧ True) ∧ D.val (Value.bool (anB l ks)) = F) := by kernel_rfl
set_option maxRecDepth 100000 in
theorem vc66  (l : List D) (F : D)  :
    (owed c66 (fun _ => none) Try.f66 [.slc 2 l] F) = (
 (True ∧ false = false) ∧
 True ∧
 True ∧
 True ∧
 True ∧
 ((1 : Nat) = (1 : Nat) ∧ (1 : Nat) ≤ (4096 : Nat)) ∧
 (∃ (ks : List Int), ∃ (l_1 : List D), [D.ints IntKind.i64 [(10 : Int)], (D.slc (2 : Nat) l).ref] = [D.ints IntKind.i64 ks, (D.slc (2 : Nat) l_1).ref] ∧ okl l_1 ∧ okn ks.length) ∧
 True ∧
 match anB l [(10 : Int)] with
 | true =>
  True ∧
  ((1 : Nat) = (1 : Nat) ∧ (1 : Nat) ≤ (4096 : Nat)) ∧
  (∃ (ks : List Int), ∃ (l_1 : List D), [D.ints IntKind.i64 [(8 : Int)], (D.slc (2 : Nat) l).ref] = [D.ints IntKind.i64 ks, (D.slc (2 : Nat) l_1).ref] ∧ okl l_1 ∧ okn ks.length) ∧
  True ∧
  True ∧
  True ∧
  match !anB l [(8 : Int)] with
  | true =>
   match !anB l [(8 : Int)] with
   | true => True ∧ (false = false ∧ True) ∧ D.val (Value.bool false) = F
   | false =>
    True ∧
    ((1 : Nat) = (1 : Nat) ∧ (2 : Nat) ≤ (4096 : Nat)) ∧
    (∃ (ks : List Int), ∃ (l_1 : List D), [D.ints IntKind.i64 [(16 : Int), (17 : Int)], (D.slc (2 : Nat) l).ref] = [D.ints IntKind.i64 ks, (D.slc (2 : Nat) l_1).ref] ∧ okl l_1 ∧ okn ks.length) ∧
    True ∧
    True ∧
    match !anB l [(16 : Int), (17 : Int)] with
    | true => True ∧ True ∧ (false = false ∧ True) ∧ D.val (Value.bool true) = F
    | false =>
     True ∧
     ((1 : Nat) = (1 : Nat) ∧ (3 : Nat) ≤ (4096 : Nat)) ∧
     (∃ (ks : List Int), ∃ (l_1 : List D), [D.ints IntKind.i64 [(13 : Int), (14 : Int), (15 : Int)], (D.slc (2 : Nat) l).ref] = [D.ints IntKind.i64 ks, (D.slc (2 : Nat) l_1).ref] ∧ okl l_1 ∧ okn ks.length) ∧ True ∧ True ∧ True ∧ (false = false ∧ True) ∧ D.val (Value.bool !anB l [(13 : Int), (14 : Int), (15 : Int)]) = F
  | false =>
   True ∧
   ((1 : Nat) = (1 : Nat) ∧ (1 : Nat) ≤ (4096 : Nat)) ∧
   (∃ (ks : List Int), ∃ (l_1 : List D), [D.ints IntKind.i64 [(11 : Int)], (D.slc (2 : Nat) l).ref] = [D.ints IntKind.i64 ks, (D.slc (2 : Nat) l_1).ref] ∧ okl l_1 ∧ okn ks.length) ∧
   True ∧
   match anB l [(11 : Int)] with
   | true =>
    True ∧
    ((1 : Nat) = (1 : Nat) ∧ (1 : Nat) ≤ (4096 : Nat)) ∧
    (∃ (ks : List Int), ∃ (l_1 : List D), [D.ints IntKind.i64 [(9 : Int)], (D.slc (2 : Nat) l).ref] = [D.ints IntKind.i64 ks, (D.slc (2 : Nat) l_1).ref] ∧ okl l_1 ∧ okn ks.length) ∧
    True ∧
    True ∧
    match anB l [(9 : Int)] with
    | true => True ∧ (false = false ∧ True) ∧ D.val (Value.bool false) = F
    | false =>
     True ∧
     ((1 : Nat) = (1 : Nat) ∧ (2 : Nat) ≤ (4096 : Nat)) ∧
     (∃ (ks : List Int), ∃ (l_1 : List D), [D.ints IntKind.i64 [(16 : Int), (17 : Int)], (D.slc (2 : Nat) l).ref] = [D.ints IntKind.i64 ks, (D.slc (2 : Nat) l_1).ref] ∧ okl l_1 ∧ okn ks.length) ∧
     True ∧
     True ∧
     match !anB l [(16 : Int), (17 : Int)] with
     | true => True ∧ True ∧ (false = false ∧ True) ∧ D.val (Value.bool true) = F
     | false =>
      True ∧
      ((1 : Nat) = (1 : Nat) ∧ (3 : Nat) ≤ (4096 : Nat)) ∧
      (∃ (ks : List Int), ∃ (l_1 : List D), [D.ints IntKind.i64 [(13 : Int), (14 : Int), (15 : Int)], (D.slc (2 : Nat) l).ref] = [D.ints IntKind.i64 ks, (D.slc (2 : Nat) l_1).ref] ∧ okl l_1 ∧ okn ks.length) ∧ True ∧ True ∧ True ∧ (false = false ∧ True) ∧ D.val (Value.bool !anB l [(13 : Int), (14 : Int), (15 : Int)]) = F
   | false =>
    True ∧
    True ∧
    True ∧
    ((1 : Nat) = (1 : Nat) ∧ (2 : Nat) ≤ (4096 : Nat)) ∧
    (∃ (ks : List Int), ∃ (l_1 : List D), [D.ints IntKind.i64 [(16 : Int), (17 : Int)], (D.slc (2 : Nat) l).ref] = [D.ints IntKind.i64 ks, (D.slc (2 : Nat) l_1).ref] ∧ okl l_1 ∧ okn ks.length) ∧
    True ∧
    True ∧
    match !anB l [(16 : Int), (17 : Int)] with
    | true => True ∧ True ∧ (false = false ∧ True) ∧ D.val (Value.bool true) = F
    | false =>
     True ∧
     ((1 : Nat) = (1 : Nat) ∧ (3 : Nat) ≤ (4096 : Nat)) ∧
     (∃ (ks : List Int), ∃ (l_1 : List D), [D.ints IntKind.i64 [(13 : Int), (14 : Int), (15 : Int)], (D.slc (2 : Nat) l).ref] = [D.ints IntKind.i64 ks, (D.slc (2 : Nat) l_1).ref] ∧ okl l_1 ∧ okn ks.length) ∧ True ∧ True ∧ True ∧ (false = false ∧ True) ∧ D.val (Value.bool !anB l [(13 : Int), (14 : Int), (15 : Int)]) = F
 | false =>
  True ∧
  True ∧
  True ∧
  ((1 : Nat) = (1 : Nat) ∧ (1 : Nat) ≤ (4096 : Nat)) ∧
  (∃ (ks : List Int), ∃ (l_1 : List D), [D.ints IntKind.i64 [(11 : Int)], (D.slc (2 : Nat) l).ref] = [D.ints IntKind.i64 ks, (D.slc (2 : Nat) l_1).ref] ∧ okl l_1 ∧ okn ks.length) ∧
  True ∧
  match anB l [(11 : Int)] with
  | true =>
   True ∧
   ((1 : Nat) = (1 : Nat) ∧ (1 : Nat) ≤ (4096 : Nat)) ∧
   (∃ (ks : List Int), ∃ (l_1 : List D), [D.ints IntKind.i64 [(9 : Int)], (D.slc (2 : Nat) l).ref] = [D.ints IntKind.i64 ks, (D.slc (2 : Nat) l_1).ref] ∧ okl l_1 ∧ okn ks.length) ∧
   True ∧
   True ∧
   match anB l [(9 : Int)] with
   | true => True ∧ (false = false ∧ True) ∧ D.val (Value.bool false) = F
   | false =>
    True ∧
    ((1 : Nat) = (1 : Nat) ∧ (2 : Nat) ≤ (4096 : Nat)) ∧
    (∃ (ks : List Int), ∃ (l_1 : List D), [D.ints IntKind.i64 [(16 : Int), (17 : Int)], (D.slc (2 : Nat) l).ref] = [D.ints IntKind.i64 ks, (D.slc (2 : Nat) l_1).ref] ∧ okl l_1 ∧ okn ks.length) ∧
    True ∧
    True ∧
    match !anB l [(16 : Int), (17 : Int)] with
    | true => True ∧ True ∧ (false = false ∧ True) ∧ D.val (Value.bool true) = F
    | false =>
     True ∧
     ((1 : Nat) = (1 : Nat) ∧ (3 : Nat) ≤ (4096 : Nat)) ∧
     (∃ (ks : List Int), ∃ (l_1 : List D), [D.ints IntKind.i64 [(13 : Int), (14 : Int), (15 : Int)], (D.slc (2 : Nat) l).ref] = [D.ints IntKind.i64 ks, (D.slc (2 : Nat) l_1).ref] ∧ okl l_1 ∧ okn ks.length) ∧ True ∧ True ∧ True ∧ (false = false ∧ True) ∧ D.val (Value.bool !anB l [(13 : Int), (14 : Int), (15 : Int)]) = F
  | false =>
   True ∧
   True ∧
   True ∧
   ((1 : Nat) = (1 : Nat) ∧ (2 : Nat) ≤ (4096 : Nat)) ∧
   (∃ (ks : List Int), ∃ (l_1 : List D), [D.ints IntKind.i64 [(16 : Int), (17 : Int)], (D.slc (2 : Nat) l).ref] = [D.ints IntKind.i64 ks, (D.slc (2 : Nat) l_1).ref] ∧ okl l_1 ∧ okn ks.length) ∧
   True ∧
   True ∧
   match !anB l [(16 : Int), (17 : Int)] with
   | true => True ∧ True ∧ (false = false ∧ True) ∧ D.val (Value.bool true) = F
   | false =>
    True ∧
    ((1 : Nat) = (1 : Nat) ∧ (3 : Nat) ≤ (4096 : Nat)) ∧
    (∃ (ks : List Int), ∃ (l_1 : List D), [D.ints IntKind.i64 [(13 : Int), (14 : Int), (15 : Int)], (D.slc (2 : Nat) l).ref] = [D.ints IntKind.i64 ks, (D.slc (2 : Nat) l_1).ref] ∧ okl l_1 ∧ okn ks.length) ∧ True ∧ True ∧ True ∧ (false = false ∧ True) ∧ D.val (Value.bool !anB l [(13 : Int), (14 : Int), (15 : Int)]) = F) := by kernel_rfl
set_option maxRecDepth 100000 in
theorem vc59  (c : Int) (n : Nat) (F : D)  :
    (owed c0 (fun _ => none) Try.f59 [u8i c, i64 n] F) = (
 True ∧
 True ∧
 True ∧
 True ∧
 match c == (2 : Int) with
 | true =>
  True ∧
  True ∧
  True ∧
  match (↑n : Int) == (16 : Int) with
  | true => True ∧ True ∧ True ∧ True ∧ (false = false ∧ True) ∧ D.val (Value.bool true) = F
  | false =>
   True ∧
   True ∧
   True ∧
   True ∧
   match (↑n : Int) == (24 : Int) with
   | true => True ∧ True ∧ (false = false ∧ True) ∧ D.val (Value.bool true) = F
   | false => True ∧ True ∧ True ∧ True ∧ (false = false ∧ True) ∧ D.val (Value.bool ((↑n : Int) == (32 : Int))) = F
 | false =>
  True ∧
  True ∧
  match c == (3 : Int) with
  | true =>
   match c == (3 : Int) with
   | true => True ∧ True ∧ True ∧ (false = false ∧ True) ∧ D.val (Value.bool ((↑n : Int) == (32 : Int))) = F
   | false => True ∧ (false = false ∧ True) ∧ D.val (Value.bool true) = F
  | false =>
   True ∧
   True ∧
   match c == (4 : Int) with
   | true => True ∧ True ∧ True ∧ (false = false ∧ True) ∧ D.val (Value.bool ((↑n : Int) == (32 : Int))) = F
   | false => True ∧ (false = false ∧ True) ∧ D.val (Value.bool true) = F) := by kernel_rfl
set_option maxRecDepth 100000 in
theorem vc15  (c : Int) (F : D)  :
    (owed c15 inv15 Try.f15 [u8i c] F) = (
 True ∧
 True ∧
 True ∧
 True ∧
 True ∧
 match c == (1 : Int) with
 | true =>
  match c == (1 : Int) with
  | true =>
   True ∧
   (1 : Nat) ≠ (0 : Nat) ∧
   True ∧
   (((AV.d (D.val (Value.int IntKind.i64 (1 : Int))) = AV.d (D.val (Value.int IntKind.i64 (↑(1 : Nat) : Int))) ∧ sm (AV.row (4 : Nat)) ∧ True) ∧ (some (Blk.row (3 : TypeId) (D.ints IntKind.i64 [])) = some (Blk.row (3 : TypeId) (D.ints IntKind.i64 (kdP ((1 : Nat) - (1 : Nat))))) ∧ True) ∧ true = true) ∧ (1 : Nat) - (1 : Nat) ≤ (7 : Nat)) ∧
   ∀ (x : Nat),
   x ≤ (7 : Nat) →
   true = true ∧
   True ∧
   True ∧
   True ∧
   match decide ((↑(x + (1 : Nat)) : Int) ≤ (7 : Int)) with
   | true =>
    True ∧
    True ∧
    ((1 : Nat) = (1 : Nat) ∧ (1 : Nat) ≤ (4096 : Nat)) ∧
    ((3 : TypeId) = (3 : TypeId) ∧ (33 : Nat) = (33 : Nat) ∧ true = true ∧ (kdP x ++ [(↑(x + (1 : Nat)) : Int)]).length ≤ (140737488355328 : Nat) ∧ (kdP x ++ [(↑(x + (1 : Nat)) : Int)]).length * (8 : Nat) ≤ (140737488355328 : Nat) ∧ (1 : Nat) ≠ (0 : Nat) ∧ (1 : Nat) = (1 : Nat)) ∧
    True ∧
    True ∧
    True ∧
    True ∧
    ((AV.d (D.val (Value.int IntKind.i64 (IntKind.i64.wrap ((↑(x + (1 : Nat)) : Int) + (1 : Int))))) = AV.d (D.val (Value.int IntKind.i64 (↑((IntKind.i64.wrap ((↑(x + (1 : Nat)) : Int) + (1 : Int))).toNat - (1 : Nat) + (1 : Nat)) : Int))) ∧ sm (AV.row (4 : Nat)) ∧ True) ∧
    (some (Blk.row (3 : TypeId) (D.ints IntKind.i64 (kdP x ++ [(↑(x + (1 : Nat)) : Int)]))) = some (Blk.row (3 : TypeId) (D.ints IntKind.i64 (kdP ((IntKind.i64.wrap ((↑(x + (1 : Nat)) : Int) + (1 : Int))).toNat - (1 : Nat))))) ∧ True) ∧ true = true) ∧
    (IntKind.i64.wrap ((↑(x + (1 : Nat)) : Int) + (1 : Int))).toNat - (1 : Nat) ≤ (7 : Nat) ∧ (18 : Nat) - ((IntKind.i64.wrap ((↑(x + (1 : Nat)) : Int) + (1 : Int))).toNat - (1 : Nat)) < (18 : Nat) - x
   | false =>
    True ∧
    True ∧
    True ∧
    match c == (3 : Int) with
    | true =>
     True ∧
     ((1 : Nat) = (1 : Nat) ∧ (1 : Nat) ≤ (4096 : Nat)) ∧
     ((3 : TypeId) = (3 : TypeId) ∧ (33 : Nat) = (33 : Nat) ∧ true = true ∧ (kdP x ++ [(14 : Int)]).length ≤ (140737488355328 : Nat) ∧ (kdP x ++ [(14 : Int)]).length * (8 : Nat) ≤ (140737488355328 : Nat) ∧ (1 : Nat) ≠ (0 : Nat) ∧ (1 : Nat) = (1 : Nat)) ∧ True ∧ True ∧ True ∧ (false = false ∧ True) ∧ D.ints IntKind.i64 (kdP x ++ [(14 : Int)]) = F
    | false =>
     True ∧
     True ∧
     match c == (4 : Int) with
     | true =>
      True ∧
      ((1 : Nat) = (1 : Nat) ∧ (1 : Nat) ≤ (4096 : Nat)) ∧
      ((3 : TypeId) = (3 : TypeId) ∧ (33 : Nat) = (33 : Nat) ∧ true = true ∧ (kdP x ++ [(18 : Int)]).length ≤ (140737488355328 : Nat) ∧ (kdP x ++ [(18 : Int)]).length * (8 : Nat) ≤ (140737488355328 : Nat) ∧ (1 : Nat) ≠ (0 : Nat) ∧ (1 : Nat) = (1 : Nat)) ∧ True ∧ True ∧ True ∧ (false = false ∧ True) ∧ D.ints IntKind.i64 (kdP x ++ [(18 : Int)]) = F
     | false => True ∧ True ∧ (false = false ∧ True) ∧ D.ints IntKind.i64 (kdP x) = F
  | false =>
   True ∧
   True ∧
   match c == (2 : Int) with
   | true =>
    True ∧
    (1 : Nat) ≠ (0 : Nat) ∧
    True ∧
    (((AV.d (D.val (Value.int IntKind.i64 (1 : Int))) = AV.d (D.val (Value.int IntKind.i64 (↑(1 : Nat) : Int))) ∧ sm (AV.row (4 : Nat)) ∧ True) ∧ (some (Blk.row (3 : TypeId) (D.ints IntKind.i64 [])) = some (Blk.row (3 : TypeId) (D.ints IntKind.i64 (kdP ((1 : Nat) - (1 : Nat))))) ∧ True) ∧ true = true) ∧ (1 : Nat) - (1 : Nat) ≤ (17 : Nat)) ∧
    ∀ (x : Nat),
    x ≤ (17 : Nat) →
    true = true ∧
    True ∧
    True ∧
    True ∧
    match decide ((↑(x + (1 : Nat)) : Int) ≤ (17 : Int)) with
    | true =>
     True ∧
     True ∧
     ((1 : Nat) = (1 : Nat) ∧ (1 : Nat) ≤ (4096 : Nat)) ∧
     ((3 : TypeId) = (3 : TypeId) ∧ (33 : Nat) = (33 : Nat) ∧ true = true ∧ (kdP x ++ [(↑(x + (1 : Nat)) : Int)]).length ≤ (140737488355328 : Nat) ∧ (kdP x ++ [(↑(x + (1 : Nat)) : Int)]).length * (8 : Nat) ≤ (140737488355328 : Nat) ∧ (1 : Nat) ≠ (0 : Nat) ∧ (1 : Nat) = (1 : Nat)) ∧
     True ∧
     True ∧
     True ∧
     True ∧
     ((AV.d (D.val (Value.int IntKind.i64 (IntKind.i64.wrap ((↑(x + (1 : Nat)) : Int) + (1 : Int))))) = AV.d (D.val (Value.int IntKind.i64 (↑((IntKind.i64.wrap ((↑(x + (1 : Nat)) : Int) + (1 : Int))).toNat - (1 : Nat) + (1 : Nat)) : Int))) ∧ sm (AV.row (4 : Nat)) ∧ True) ∧
     (some (Blk.row (3 : TypeId) (D.ints IntKind.i64 (kdP x ++ [(↑(x + (1 : Nat)) : Int)]))) = some (Blk.row (3 : TypeId) (D.ints IntKind.i64 (kdP ((IntKind.i64.wrap ((↑(x + (1 : Nat)) : Int) + (1 : Int))).toNat - (1 : Nat))))) ∧ True) ∧ true = true) ∧
     (IntKind.i64.wrap ((↑(x + (1 : Nat)) : Int) + (1 : Int))).toNat - (1 : Nat) ≤ (17 : Nat) ∧ (18 : Nat) - ((IntKind.i64.wrap ((↑(x + (1 : Nat)) : Int) + (1 : Int))).toNat - (1 : Nat)) < (18 : Nat) - x
    | false =>
     True ∧
     True ∧
     True ∧
     match c == (3 : Int) with
     | true =>
      True ∧
      ((1 : Nat) = (1 : Nat) ∧ (1 : Nat) ≤ (4096 : Nat)) ∧
      ((3 : TypeId) = (3 : TypeId) ∧ (33 : Nat) = (33 : Nat) ∧ true = true ∧ (kdP x ++ [(14 : Int)]).length ≤ (140737488355328 : Nat) ∧ (kdP x ++ [(14 : Int)]).length * (8 : Nat) ≤ (140737488355328 : Nat) ∧ (1 : Nat) ≠ (0 : Nat) ∧ (1 : Nat) = (1 : Nat)) ∧ True ∧ True ∧ True ∧ (false = false ∧ True) ∧ D.ints IntKind.i64 (kdP x ++ [(14 : Int)]) = F
     | false =>
      True ∧
      True ∧
      match c == (4 : Int) with
      | true =>
       True ∧
       ((1 : Nat) = (1 : Nat) ∧ (1 : Nat) ≤ (4096 : Nat)) ∧
       ((3 : TypeId) = (3 : TypeId) ∧ (33 : Nat) = (33 : Nat) ∧ true = true ∧ (kdP x ++ [(18 : Int)]).length ≤ (140737488355328 : Nat) ∧ (kdP x ++ [(18 : Int)]).length * (8 : Nat) ≤ (140737488355328 : Nat) ∧ (1 : Nat) ≠ (0 : Nat) ∧ (1 : Nat) = (1 : Nat)) ∧
       True ∧ True ∧ True ∧ (false = false ∧ True) ∧ D.ints IntKind.i64 (kdP x ++ [(18 : Int)]) = F
      | false => True ∧ True ∧ (false = false ∧ True) ∧ D.ints IntKind.i64 (kdP x) = F
   | false =>
    True ∧
    True ∧
    match c == (4 : Int) with
    | true =>
     True ∧
     (1 : Nat) ≠ (0 : Nat) ∧
     True ∧
     (((AV.d (D.val (Value.int IntKind.i64 (1 : Int))) = AV.d (D.val (Value.int IntKind.i64 (↑(1 : Nat) : Int))) ∧ sm (AV.row (4 : Nat)) ∧ True) ∧ (some (Blk.row (3 : TypeId) (D.ints IntKind.i64 [])) = some (Blk.row (3 : TypeId) (D.ints IntKind.i64 (kdP ((1 : Nat) - (1 : Nat))))) ∧ True) ∧ true = true) ∧ (1 : Nat) - (1 : Nat) ≤ (13 : Nat)) ∧
     ∀ (x : Nat),
     x ≤ (13 : Nat) →
     true = true ∧
     True ∧
     True ∧
     True ∧
     match decide ((↑(x + (1 : Nat)) : Int) ≤ (13 : Int)) with
     | true =>
      True ∧
      True ∧
      ((1 : Nat) = (1 : Nat) ∧ (1 : Nat) ≤ (4096 : Nat)) ∧
      ((3 : TypeId) = (3 : TypeId) ∧ (33 : Nat) = (33 : Nat) ∧ true = true ∧ (kdP x ++ [(↑(x + (1 : Nat)) : Int)]).length ≤ (140737488355328 : Nat) ∧ (kdP x ++ [(↑(x + (1 : Nat)) : Int)]).length * (8 : Nat) ≤ (140737488355328 : Nat) ∧ (1 : Nat) ≠ (0 : Nat) ∧ (1 : Nat) = (1 : Nat)) ∧
      True ∧
      True ∧
      True ∧
      True ∧
      ((AV.d (D.val (Value.int IntKind.i64 (IntKind.i64.wrap ((↑(x + (1 : Nat)) : Int) + (1 : Int))))) = AV.d (D.val (Value.int IntKind.i64 (↑((IntKind.i64.wrap ((↑(x + (1 : Nat)) : Int) + (1 : Int))).toNat - (1 : Nat) + (1 : Nat)) : Int))) ∧ sm (AV.row (4 : Nat)) ∧ True) ∧
      (some (Blk.row (3 : TypeId) (D.ints IntKind.i64 (kdP x ++ [(↑(x + (1 : Nat)) : Int)]))) = some (Blk.row (3 : TypeId) (D.ints IntKind.i64 (kdP ((IntKind.i64.wrap ((↑(x + (1 : Nat)) : Int) + (1 : Int))).toNat - (1 : Nat))))) ∧ True) ∧ true = true) ∧
      (IntKind.i64.wrap ((↑(x + (1 : Nat)) : Int) + (1 : Int))).toNat - (1 : Nat) ≤ (13 : Nat) ∧ (18 : Nat) - ((IntKind.i64.wrap ((↑(x + (1 : Nat)) : Int) + (1 : Int))).toNat - (1 : Nat)) < (18 : Nat) - x
     | false =>
      True ∧
      True ∧
      True ∧
      match c == (3 : Int) with
      | true =>
       True ∧
       ((1 : Nat) = (1 : Nat) ∧ (1 : Nat) ≤ (4096 : Nat)) ∧
       ((3 : TypeId) = (3 : TypeId) ∧ (33 : Nat) = (33 : Nat) ∧ true = true ∧ (kdP x ++ [(14 : Int)]).length ≤ (140737488355328 : Nat) ∧ (kdP x ++ [(14 : Int)]).length * (8 : Nat) ≤ (140737488355328 : Nat) ∧ (1 : Nat) ≠ (0 : Nat) ∧ (1 : Nat) = (1 : Nat)) ∧
       True ∧ True ∧ True ∧ (false = false ∧ True) ∧ D.ints IntKind.i64 (kdP x ++ [(14 : Int)]) = F
      | false =>
       True ∧
       True ∧
       match c == (4 : Int) with
       | true =>
        True ∧
        ((1 : Nat) = (1 : Nat) ∧ (1 : Nat) ≤ (4096 : Nat)) ∧
        ((3 : TypeId) = (3 : TypeId) ∧ (33 : Nat) = (33 : Nat) ∧ true = true ∧ (kdP x ++ [(18 : Int)]).length ≤ (140737488355328 : Nat) ∧ (kdP x ++ [(18 : Int)]).length * (8 : Nat) ≤ (140737488355328 : Nat) ∧ (1 : Nat) ≠ (0 : Nat) ∧ (1 : Nat) = (1 : Nat)) ∧
        True ∧ True ∧ True ∧ (false = false ∧ True) ∧ D.ints IntKind.i64 (kdP x ++ [(18 : Int)]) = F
       | false => True ∧ True ∧ (false = false ∧ True) ∧ D.ints IntKind.i64 (kdP x) = F
    | false =>
     (1 : Nat) ≠ (0 : Nat) ∧
     True ∧
     (((AV.d (D.val (Value.int IntKind.i64 (1 : Int))) = AV.d (D.val (Value.int IntKind.i64 (↑(1 : Nat) : Int))) ∧ sm (AV.row (4 : Nat)) ∧ True) ∧ (some (Blk.row (3 : TypeId) (D.ints IntKind.i64 [])) = some (Blk.row (3 : TypeId) (D.ints IntKind.i64 (kdP ((1 : Nat) - (1 : Nat))))) ∧ True) ∧ true = true) ∧ (1 : Nat) - (1 : Nat) ≤ (0 : Nat)) ∧
     ∀ (x : Nat),
     x ≤ (0 : Nat) →
     true = true ∧
     True ∧
     True ∧
     True ∧
     True ∧
     True ∧
     True ∧
     match c == (3 : Int) with
     | true =>
      True ∧
      ((1 : Nat) = (1 : Nat) ∧ (1 : Nat) ≤ (4096 : Nat)) ∧
      ((3 : TypeId) = (3 : TypeId) ∧ (33 : Nat) = (33 : Nat) ∧ true = true ∧ (kdP x ++ [(14 : Int)]).length ≤ (140737488355328 : Nat) ∧ (kdP x ++ [(14 : Int)]).length * (8 : Nat) ≤ (140737488355328 : Nat) ∧ (1 : Nat) ≠ (0 : Nat) ∧ (1 : Nat) = (1 : Nat)) ∧ True ∧ True ∧ True ∧ (false = false ∧ True) ∧ D.ints IntKind.i64 (kdP x ++ [(14 : Int)]) = F
     | false =>
      True ∧
      True ∧
      match c == (4 : Int) with
      | true =>
       True ∧
       ((1 : Nat) = (1 : Nat) ∧ (1 : Nat) ≤ (4096 : Nat)) ∧
       ((3 : TypeId) = (3 : TypeId) ∧ (33 : Nat) = (33 : Nat) ∧ true = true ∧ (kdP x ++ [(18 : Int)]).length ≤ (140737488355328 : Nat) ∧ (kdP x ++ [(18 : Int)]).length * (8 : Nat) ≤ (140737488355328 : Nat) ∧ (1 : Nat) ≠ (0 : Nat) ∧ (1 : Nat) = (1 : Nat)) ∧
       True ∧ True ∧ True ∧ (false = false ∧ True) ∧ D.ints IntKind.i64 (kdP x ++ [(18 : Int)]) = F
      | false => True ∧ True ∧ (false = false ∧ True) ∧ D.ints IntKind.i64 (kdP x) = F
 | false =>
  True ∧
  True ∧
  match c == (3 : Int) with
  | true =>
   True ∧
   (1 : Nat) ≠ (0 : Nat) ∧
   True ∧
   (((AV.d (D.val (Value.int IntKind.i64 (1 : Int))) = AV.d (D.val (Value.int IntKind.i64 (↑(1 : Nat) : Int))) ∧ sm (AV.row (4 : Nat)) ∧ True) ∧ (some (Blk.row (3 : TypeId) (D.ints IntKind.i64 [])) = some (Blk.row (3 : TypeId) (D.ints IntKind.i64 (kdP ((1 : Nat) - (1 : Nat))))) ∧ True) ∧ true = true) ∧ (1 : Nat) - (1 : Nat) ≤ (7 : Nat)) ∧
   ∀ (x : Nat),
   x ≤ (7 : Nat) →
   true = true ∧
   True ∧
   True ∧
   True ∧
   match decide ((↑(x + (1 : Nat)) : Int) ≤ (7 : Int)) with
   | true =>
    True ∧
    True ∧
    ((1 : Nat) = (1 : Nat) ∧ (1 : Nat) ≤ (4096 : Nat)) ∧
    ((3 : TypeId) = (3 : TypeId) ∧ (33 : Nat) = (33 : Nat) ∧ true = true ∧ (kdP x ++ [(↑(x + (1 : Nat)) : Int)]).length ≤ (140737488355328 : Nat) ∧ (kdP x ++ [(↑(x + (1 : Nat)) : Int)]).length * (8 : Nat) ≤ (140737488355328 : Nat) ∧ (1 : Nat) ≠ (0 : Nat) ∧ (1 : Nat) = (1 : Nat)) ∧
    True ∧
    True ∧
    True ∧
    True ∧
    ((AV.d (D.val (Value.int IntKind.i64 (IntKind.i64.wrap ((↑(x + (1 : Nat)) : Int) + (1 : Int))))) = AV.d (D.val (Value.int IntKind.i64 (↑((IntKind.i64.wrap ((↑(x + (1 : Nat)) : Int) + (1 : Int))).toNat - (1 : Nat) + (1 : Nat)) : Int))) ∧ sm (AV.row (4 : Nat)) ∧ True) ∧
    (some (Blk.row (3 : TypeId) (D.ints IntKind.i64 (kdP x ++ [(↑(x + (1 : Nat)) : Int)]))) = some (Blk.row (3 : TypeId) (D.ints IntKind.i64 (kdP ((IntKind.i64.wrap ((↑(x + (1 : Nat)) : Int) + (1 : Int))).toNat - (1 : Nat))))) ∧ True) ∧ true = true) ∧
    (IntKind.i64.wrap ((↑(x + (1 : Nat)) : Int) + (1 : Int))).toNat - (1 : Nat) ≤ (7 : Nat) ∧ (18 : Nat) - ((IntKind.i64.wrap ((↑(x + (1 : Nat)) : Int) + (1 : Int))).toNat - (1 : Nat)) < (18 : Nat) - x
   | false =>
    True ∧
    True ∧
    True ∧
    match c == (3 : Int) with
    | true =>
     True ∧
     ((1 : Nat) = (1 : Nat) ∧ (1 : Nat) ≤ (4096 : Nat)) ∧
     ((3 : TypeId) = (3 : TypeId) ∧ (33 : Nat) = (33 : Nat) ∧ true = true ∧ (kdP x ++ [(14 : Int)]).length ≤ (140737488355328 : Nat) ∧ (kdP x ++ [(14 : Int)]).length * (8 : Nat) ≤ (140737488355328 : Nat) ∧ (1 : Nat) ≠ (0 : Nat) ∧ (1 : Nat) = (1 : Nat)) ∧ True ∧ True ∧ True ∧ (false = false ∧ True) ∧ D.ints IntKind.i64 (kdP x ++ [(14 : Int)]) = F
    | false =>
     True ∧
     True ∧
     match c == (4 : Int) with
     | true =>
      True ∧
      ((1 : Nat) = (1 : Nat) ∧ (1 : Nat) ≤ (4096 : Nat)) ∧
      ((3 : TypeId) = (3 : TypeId) ∧ (33 : Nat) = (33 : Nat) ∧ true = true ∧ (kdP x ++ [(18 : Int)]).length ≤ (140737488355328 : Nat) ∧ (kdP x ++ [(18 : Int)]).length * (8 : Nat) ≤ (140737488355328 : Nat) ∧ (1 : Nat) ≠ (0 : Nat) ∧ (1 : Nat) = (1 : Nat)) ∧
      True ∧ True ∧ True ∧ (false = false ∧ True) ∧ D.ints IntKind.i64 (kdP x ++ [(18 : Int)]) = F
     | false => True ∧ True ∧ (false = false ∧ True) ∧ D.ints IntKind.i64 (kdP x) = F
  | false =>
   True ∧
   True ∧
   match c == (2 : Int) with
   | true =>
    True ∧
    (1 : Nat) ≠ (0 : Nat) ∧
    True ∧
    (((AV.d (D.val (Value.int IntKind.i64 (1 : Int))) = AV.d (D.val (Value.int IntKind.i64 (↑(1 : Nat) : Int))) ∧ sm (AV.row (4 : Nat)) ∧ True) ∧ (some (Blk.row (3 : TypeId) (D.ints IntKind.i64 [])) = some (Blk.row (3 : TypeId) (D.ints IntKind.i64 (kdP ((1 : Nat) - (1 : Nat))))) ∧ True) ∧ true = true) ∧ (1 : Nat) - (1 : Nat) ≤ (17 : Nat)) ∧
    ∀ (x : Nat),
    x ≤ (17 : Nat) →
    true = true ∧
    True ∧
    True ∧
    True ∧
    match decide ((↑(x + (1 : Nat)) : Int) ≤ (17 : Int)) with
    | true =>
     True ∧
     True ∧
     ((1 : Nat) = (1 : Nat) ∧ (1 : Nat) ≤ (4096 : Nat)) ∧
     ((3 : TypeId) = (3 : TypeId) ∧ (33 : Nat) = (33 : Nat) ∧ true = true ∧ (kdP x ++ [(↑(x + (1 : Nat)) : Int)]).length ≤ (140737488355328 : Nat) ∧ (kdP x ++ [(↑(x + (1 : Nat)) : Int)]).length * (8 : Nat) ≤ (140737488355328 : Nat) ∧ (1 : Nat) ≠ (0 : Nat) ∧ (1 : Nat) = (1 : Nat)) ∧
     True ∧
     True ∧
     True ∧
     True ∧
     ((AV.d (D.val (Value.int IntKind.i64 (IntKind.i64.wrap ((↑(x + (1 : Nat)) : Int) + (1 : Int))))) = AV.d (D.val (Value.int IntKind.i64 (↑((IntKind.i64.wrap ((↑(x + (1 : Nat)) : Int) + (1 : Int))).toNat - (1 : Nat) + (1 : Nat)) : Int))) ∧ sm (AV.row (4 : Nat)) ∧ True) ∧
     (some (Blk.row (3 : TypeId) (D.ints IntKind.i64 (kdP x ++ [(↑(x + (1 : Nat)) : Int)]))) = some (Blk.row (3 : TypeId) (D.ints IntKind.i64 (kdP ((IntKind.i64.wrap ((↑(x + (1 : Nat)) : Int) + (1 : Int))).toNat - (1 : Nat))))) ∧ True) ∧ true = true) ∧
     (IntKind.i64.wrap ((↑(x + (1 : Nat)) : Int) + (1 : Int))).toNat - (1 : Nat) ≤ (17 : Nat) ∧ (18 : Nat) - ((IntKind.i64.wrap ((↑(x + (1 : Nat)) : Int) + (1 : Int))).toNat - (1 : Nat)) < (18 : Nat) - x
    | false =>
     True ∧
     True ∧
     True ∧
     match c == (3 : Int) with
     | true =>
      True ∧
      ((1 : Nat) = (1 : Nat) ∧ (1 : Nat) ≤ (4096 : Nat)) ∧
      ((3 : TypeId) = (3 : TypeId) ∧ (33 : Nat) = (33 : Nat) ∧ true = true ∧ (kdP x ++ [(14 : Int)]).length ≤ (140737488355328 : Nat) ∧ (kdP x ++ [(14 : Int)]).length * (8 : Nat) ≤ (140737488355328 : Nat) ∧ (1 : Nat) ≠ (0 : Nat) ∧ (1 : Nat) = (1 : Nat)) ∧
      True ∧ True ∧ True ∧ (false = false ∧ True) ∧ D.ints IntKind.i64 (kdP x ++ [(14 : Int)]) = F
     | false =>
      True ∧
      True ∧
      match c == (4 : Int) with
      | true =>
       True ∧
       ((1 : Nat) = (1 : Nat) ∧ (1 : Nat) ≤ (4096 : Nat)) ∧
       ((3 : TypeId) = (3 : TypeId) ∧ (33 : Nat) = (33 : Nat) ∧ true = true ∧ (kdP x ++ [(18 : Int)]).length ≤ (140737488355328 : Nat) ∧ (kdP x ++ [(18 : Int)]).length * (8 : Nat) ≤ (140737488355328 : Nat) ∧ (1 : Nat) ≠ (0 : Nat) ∧ (1 : Nat) = (1 : Nat)) ∧
       True ∧ True ∧ True ∧ (false = false ∧ True) ∧ D.ints IntKind.i64 (kdP x ++ [(18 : Int)]) = F
      | false => True ∧ True ∧ (false = false ∧ True) ∧ D.ints IntKind.i64 (kdP x) = F
   | false =>
    True ∧
    True ∧
    match c == (4 : Int) with
    | true =>
     True ∧
     (1 : Nat) ≠ (0 : Nat) ∧
     True ∧
     (((AV.d (D.val (Value.int IntKind.i64 (1 : Int))) = AV.d (D.val (Value.int IntKind.i64 (↑(1 : Nat) : Int))) ∧ sm (AV.row (4 : Nat)) ∧ True) ∧ (some (Blk.row (3 : TypeId) (D.ints IntKind.i64 [])) = some (Blk.row (3 : TypeId) (D.ints IntKind.i64 (kdP ((1 : Nat) - (1 : Nat))))) ∧ True) ∧ true = true) ∧ (1 : Nat) - (1 : Nat) ≤ (13 : Nat)) ∧
     ∀ (x : Nat),
     x ≤ (13 : Nat) →
     true = true ∧
     True ∧
     True ∧
     True ∧
     match decide ((↑(x + (1 : Nat)) : Int) ≤ (13 : Int)) with
     | true =>
      True ∧
      True ∧
      ((1 : Nat) = (1 : Nat) ∧ (1 : Nat) ≤ (4096 : Nat)) ∧
      ((3 : TypeId) = (3 : TypeId) ∧ (33 : Nat) = (33 : Nat) ∧ true = true ∧ (kdP x ++ [(↑(x + (1 : Nat)) : Int)]).length ≤ (140737488355328 : Nat) ∧ (kdP x ++ [(↑(x + (1 : Nat)) : Int)]).length * (8 : Nat) ≤ (140737488355328 : Nat) ∧ (1 : Nat) ≠ (0 : Nat) ∧ (1 : Nat) = (1 : Nat)) ∧
      True ∧
      True ∧
      True ∧
      True ∧
      ((AV.d (D.val (Value.int IntKind.i64 (IntKind.i64.wrap ((↑(x + (1 : Nat)) : Int) + (1 : Int))))) = AV.d (D.val (Value.int IntKind.i64 (↑((IntKind.i64.wrap ((↑(x + (1 : Nat)) : Int) + (1 : Int))).toNat - (1 : Nat) + (1 : Nat)) : Int))) ∧ sm (AV.row (4 : Nat)) ∧ True) ∧
      (some (Blk.row (3 : TypeId) (D.ints IntKind.i64 (kdP x ++ [(↑(x + (1 : Nat)) : Int)]))) = some (Blk.row (3 : TypeId) (D.ints IntKind.i64 (kdP ((IntKind.i64.wrap ((↑(x + (1 : Nat)) : Int) + (1 : Int))).toNat - (1 : Nat))))) ∧ True) ∧ true = true) ∧
      (IntKind.i64.wrap ((↑(x + (1 : Nat)) : Int) + (1 : Int))).toNat - (1 : Nat) ≤ (13 : Nat) ∧ (18 : Nat) - ((IntKind.i64.wrap ((↑(x + (1 : Nat)) : Int) + (1 : Int))).toNat - (1 : Nat)) < (18 : Nat) - x
     | false =>
      True ∧
      True ∧
      True ∧
      match c == (3 : Int) with
      | true =>
       True ∧
       ((1 : Nat) = (1 : Nat) ∧ (1 : Nat) ≤ (4096 : Nat)) ∧
       ((3 : TypeId) = (3 : TypeId) ∧ (33 : Nat) = (33 : Nat) ∧ true = true ∧ (kdP x ++ [(14 : Int)]).length ≤ (140737488355328 : Nat) ∧ (kdP x ++ [(14 : Int)]).length * (8 : Nat) ≤ (140737488355328 : Nat) ∧ (1 : Nat) ≠ (0 : Nat) ∧ (1 : Nat) = (1 : Nat)) ∧
       True ∧ True ∧ True ∧ (false = false ∧ True) ∧ D.ints IntKind.i64 (kdP x ++ [(14 : Int)]) = F
      | false =>
       True ∧
       True ∧
       match c == (4 : Int) with
       | true =>
        True ∧
        ((1 : Nat) = (1 : Nat) ∧ (1 : Nat) ≤ (4096 : Nat)) ∧
        ((3 : TypeId) = (3 : TypeId) ∧ (33 : Nat) = (33 : Nat) ∧ true = true ∧ (kdP x ++ [(18 : Int)]).length ≤ (140737488355328 : Nat) ∧ (kdP x ++ [(18 : Int)]).length * (8 : Nat) ≤ (140737488355328 : Nat) ∧ (1 : Nat) ≠ (0 : Nat) ∧ (1 : Nat) = (1 : Nat)) ∧
        True ∧ True ∧ True ∧ (false = false ∧ True) ∧ D.ints IntKind.i64 (kdP x ++ [(18 : Int)]) = F
       | false => True ∧ True ∧ (false = false ∧ True) ∧ D.ints IntKind.i64 (kdP x) = F
    | false =>
     (1 : Nat) ≠ (0 : Nat) ∧
     True ∧
     (((AV.d (D.val (Value.int IntKind.i64 (1 : Int))) = AV.d (D.val (Value.int IntKind.i64 (↑(1 : Nat) : Int))) ∧ sm (AV.row (4 : Nat)) ∧ True) ∧ (some (Blk.row (3 : TypeId) (D.ints IntKind.i64 [])) = some (Blk.row (3 : TypeId) (D.ints IntKind.i64 (kdP ((1 : Nat) - (1 : Nat))))) ∧ True) ∧ true = true) ∧ (1 : Nat) - (1 : Nat) ≤ (0 : Nat)) ∧
     ∀ (x : Nat),
     x ≤ (0 : Nat) →
     true = true ∧
     True ∧
     True ∧
     True ∧
     True ∧
     True ∧
     True ∧
     match c == (3 : Int) with
     | true =>
      True ∧
      ((1 : Nat) = (1 : Nat) ∧ (1 : Nat) ≤ (4096 : Nat)) ∧
      ((3 : TypeId) = (3 : TypeId) ∧ (33 : Nat) = (33 : Nat) ∧ true = true ∧ (kdP x ++ [(14 : Int)]).length ≤ (140737488355328 : Nat) ∧ (kdP x ++ [(14 : Int)]).length * (8 : Nat) ≤ (140737488355328 : Nat) ∧ (1 : Nat) ≠ (0 : Nat) ∧ (1 : Nat) = (1 : Nat)) ∧
      True ∧ True ∧ True ∧ (false = false ∧ True) ∧ D.ints IntKind.i64 (kdP x ++ [(14 : Int)]) = F
     | false =>
      True ∧
      True ∧
      match c == (4 : Int) with
      | true =>
       True ∧
       ((1 : Nat) = (1 : Nat) ∧ (1 : Nat) ≤ (4096 : Nat)) ∧
       ((3 : TypeId) = (3 : TypeId) ∧ (33 : Nat) = (33 : Nat) ∧ true = true ∧ (kdP x ++ [(18 : Int)]).length ≤ (140737488355328 : Nat) ∧ (kdP x ++ [(18 : Int)]).length * (8 : Nat) ≤ (140737488355328 : Nat) ∧ (1 : Nat) ≠ (0 : Nat) ∧ (1 : Nat) = (1 : Nat)) ∧
       True ∧ True ∧ True ∧ (false = false ∧ True) ∧ D.ints IntKind.i64 (kdP x ++ [(18 : Int)]) = F
      | false => True ∧ True ∧ (false = false ∧ True) ∧ D.ints IntKind.i64 (kdP x) = F) := by kernel_rfl
set_option maxRecDepth 100000 in
theorem vc57  (l : List D) (F : D)  :
    (owed c57 (fun _ => none) Try.f57 [.slc 2 l] F) = (
 True ∧
 True ∧
 (∃ (l_1 : List D), ∃ (j : Int), [D.slc (2 : Nat) l, D.val (Value.int IntKind.i64 (1 : Int))] = [D.slc (2 : Nat) l_1, D.val (Value.int IntKind.i64 j)] ∧ okl l_1) ∧
 True ∧
 ((0 : Nat) < (2 : Nat) ∧ false = false) ∧
 ((1 : Nat) < (2 : Nat) ∧ false = false) ∧
 True ∧
 True ∧
 True ∧
 True ∧
 match has (1 : Int) l with
 | true =>
  True ∧
  True ∧
  True ∧
  True ∧
  match (↑(vl (1 : Int) l).length : Int) == (1 : Int) with
  | true => True ∧ ((0 : Int) ≤ (0 : Int) ∧ (0 : Int) < (↑(vl (1 : Int) l).length : Int) ∧ (1 : Nat) = (1 : Nat)) ∧ ((1 : Nat) ≠ (0 : Nat) ∧ (1 : Nat) = (1 : Nat) ∧ false = false) ∧ True ∧ (false = false ∧ True) ∧ D.val (Value.int IntKind.u8 ((vl (1 : Int) l).getD (0 : Nat) (0 : Int))) = F
  | false => True ∧ (false = false ∧ True) ∧ D.val (Value.int IntKind.u8 (0 : Int)) = F
 | false => True ∧ True ∧ (false = false ∧ True) ∧ D.val (Value.int IntKind.u8 (0 : Int)) = F) := by kernel_rfl
set_option maxRecDepth 100000 in
theorem vc16  (l : List D) (F : D)  :
    (owed c16 (inv16 l) Try.f16 [.slc 2 l] F) = (
 True ∧
 True ∧
 (∃ (l_1 : List D), [D.slc (2 : Nat) l] = [D.slc (2 : Nat) l_1] ∧ okl l_1) ∧
 True ∧
 True ∧
 (∃ (c : Int), [D.val (Value.int IntKind.u8 (clP l))] = [D.val (Value.int IntKind.u8 c)]) ∧
 True ∧
 True ∧
 (∃ (l_1 : List D), [D.slc (2 : Nat) l] = [D.slc (2 : Nat) l_1] ∧ okl l_1) ∧
 True ∧
 True ∧
 match afE l != (0 : Int) with
 | true => True ∧ True ∧ True ∧ True ∧ (false = false ∧ True) ∧ D.val (Value.bool false) = F
 | false =>
  True ∧
  True ∧
  True ∧
  True ∧
  True ∧
  True ∧
  True ∧
  match (↑l.length : Int) != (↑(kdL (clP l)).length : Int) with
  | true => True ∧ True ∧ (false = false ∧ True) ∧ D.val (Value.bool false) = F
  | false =>
   True ∧
   True ∧
   True ∧
   True ∧
   match (↑l.length : Int) == (0 : Int) with
   | true => True ∧ (false = false ∧ True) ∧ D.val (Value.bool false) = F
   | false =>
    True ∧
    True ∧
    True ∧
    (((AV.d (D.val (Value.int IntKind.i64 (0 : Int))) = AV.d (D.val (Value.int IntKind.i64 (↑(Int.toNat (0 : Int)) : Int))) ∧ True) ∧ True ∧ true = true) ∧ Int.toNat (0 : Int) ≤ l.length ∧ List.map kOf (List.take (Int.toNat (0 : Int)) l) = List.take (Int.toNat (0 : Int)) (kdL (clP l))) ∧
    ∀ (x : Nat),
    x ≤ l.length ∧ List.map kOf (List.take x l) = List.take x (kdL (clP l)) →
    true = true ∧
    True ∧
    match decide ((↑x : Int) < (↑l.length : Int)) with
    | true =>
     True ∧
     ((0 : Int) ≤ (↑x : Int) ∧
     (↑x : Int) < (↑l.length : Int) ∧
     (2 : Nat) ≠ (0 : Nat) ∧ (2 : Nat) = (2 : Nat) ∧ D.st [D.val (Value.int IntKind.i64 (numOf (fldOf (l.getD (↑x : Int).toNat (D.val (Value.bool false))) (0 : Nat)))), D.ints IntKind.u8 (intsOf (fldOf (l.getD (↑x : Int).toNat (D.val (Value.bool false))) (1 : Nat)))] = l.getD (↑x : Int).toNat (D.val (Value.bool false))) ∧
     ((2 : Nat) ≠ (0 : Nat) ∧ (2 : Nat) = (2 : Nat) ∧ true = true) ∧
     (True ∧ (2 : Nat) ≠ (0 : Nat)) ∧
     True ∧
     (Sk.st [Sk.one, Sk.one] = Sk.st [Sk.one, Sk.one] ∧ (2 : Nat) ≠ (0 : Nat) ∧ (2 : Nat) = (2 : Nat) ∧ false = false) ∧
     (Sk.st [Sk.one, Sk.one] = Sk.st [Sk.one, Sk.one] ∧ (0 : Nat) < (2 : Nat)) ∧
     ((1 : Nat) ≠ (0 : Nat) ∧ (1 : Nat) = (1 : Nat) ∧ false = false) ∧
     True ∧
     True ∧
     ((0 : Int) ≤ (↑x : Int) ∧ (↑x : Int) < (↑(kdL (clP l)).length : Int) ∧ (1 : Nat) = (1 : Nat)) ∧
     ((1 : Nat) ≠ (0 : Nat) ∧ (1 : Nat) = (1 : Nat) ∧ false = false) ∧
     True ∧
     match numOf (fldOf (l.getD (↑x : Int).toNat (D.val (Value.bool false))) (0 : Nat)) != (kdL (clP l)).getD (↑x : Int).toNat (0 : Int) with
     | true => True ∧ (false = false ∧ True) ∧ D.val (Value.bool false) = F
     | false =>
      True ∧
      True ∧
      ((AV.d (D.val (Value.int IntKind.i64 (IntKind.i64.wrap ((↑x : Int) + (1 : Int))))) = AV.d (D.val (Value.int IntKind.i64 (↑(IntKind.i64.wrap ((↑x : Int) + (1 : Int))).toNat : Int))) ∧ True) ∧ True ∧ true = true) ∧
      ((IntKind.i64.wrap ((↑x : Int) + (1 : Int))).toNat ≤ l.length ∧ List.map kOf (List.take (IntKind.i64.wrap ((↑x : Int) + (1 : Int))).toNat l) = List.take (IntKind.i64.wrap ((↑x : Int) + (1 : Int))).toNat (kdL (clP l))) ∧ l.length - (IntKind.i64.wrap ((↑x : Int) + (1 : Int))).toNat < l.length - x
    | false =>
     True ∧
     (∃ (l_1 : List D), ∃ (j : Int), [D.slc (2 : Nat) l, D.val (Value.int IntKind.i64 (4 : Int))] = [D.slc (2 : Nat) l_1, D.val (Value.int IntKind.i64 j)] ∧ okl l_1) ∧
     True ∧
     ((0 : Nat) < (2 : Nat) ∧ false = false) ∧
     ((1 : Nat) < (2 : Nat) ∧ false = false) ∧
     True ∧
     True ∧
     True ∧
     True ∧
     True ∧
     (∃ (c : Int), ∃ (n : Nat), [D.val (Value.int IntKind.u8 (clP l)), D.val (Value.int IntKind.i64 (↑(vl (4 : Int) l).length : Int))] = [D.val (Value.int IntKind.u8 c), D.val (Value.int IntKind.i64 (↑n : Int))]) ∧
     True ∧
     match szP (clP l) (↑(vl (4 : Int) l).length : Int).toNat with
     | true => True ∧ (∃ (l_1 : List D), [D.slc (2 : Nat) l] = [D.slc (2 : Nat) l_1] ∧ okl l_1) ∧ True ∧ True ∧ (false = false ∧ True) ∧ D.val (Value.bool (sndB l)) = F
     | false => True ∧ True ∧ (false = false ∧ True) ∧ D.val (Value.bool false) = F) := by kernel_rfl
set_option maxRecDepth 100000 in
theorem vc93  (ks : List Int) (k : Int) (F : D)  :
    (owed c0 (inv93 k ks) Try.f93 [.ints .i64 ks, i64 k] F) = (
 True ∧
 True ∧
 True ∧
 True ∧
 (((AV.d (D.val (Value.int IntKind.i64 (0 : Int))) = AV.d (D.val (Value.int IntKind.i64 (↑(Int.toNat (0 : Int)) : Int))) ∧ True) ∧ True ∧ true = true) ∧ Int.toNat (0 : Int) ≤ ixN k ks) ∧
 ∀ (x : Nat),
 x ≤ ixN k ks →
 true = true ∧
 True ∧
 match decide ((↑x : Int) < (↑ks.length : Int)) with
 | true =>
  True ∧
  True ∧
  True ∧
  True ∧
  True ∧
  ((0 : Int) ≤ (↑x : Int) ∧ (↑x : Int) < (↑ks.length : Int) ∧ (1 : Nat) = (1 : Nat)) ∧
  ((1 : Nat) ≠ (0 : Nat) ∧ (1 : Nat) = (1 : Nat) ∧ false = false) ∧
  True ∧
  match k == ks.getD (↑x : Int).toNat (0 : Int) with
  | true => True ∧ True ∧ (false = false ∧ True) ∧ D.val (Value.int IntKind.i64 (↑x : Int)) = F
  | false =>
   True ∧
   True ∧
   ((AV.d (D.val (Value.int IntKind.i64 (IntKind.i64.wrap ((↑x : Int) + (1 : Int))))) = AV.d (D.val (Value.int IntKind.i64 (↑(IntKind.i64.wrap ((↑x : Int) + (1 : Int))).toNat : Int))) ∧ True) ∧ True ∧ true = true) ∧ (IntKind.i64.wrap ((↑x : Int) + (1 : Int))).toNat ≤ ixN k ks ∧ ks.length - (IntKind.i64.wrap ((↑x : Int) + (1 : Int))).toNat < ks.length - x
 | false => True ∧ (false = false ∧ True) ∧ D.val (Value.int IntKind.i64 (-1 : Int)) = F) := by kernel_rfl
set_option maxRecDepth 100000 in
theorem vc58  (ks : List Int) (k : Int) (F : D)  :
    (owed c58 (fun _ => none) Try.f58 [.ints .i64 ks, i64 k] F) = (
 True ∧ True ∧ True ∧ (∃ (ks_1 : List Int), ∃ (k_1 : Int), [D.ints IntKind.i64 ks, D.val (Value.int IntKind.i64 k)] = [D.ints IntKind.i64 ks_1, D.val (Value.int IntKind.i64 k_1)] ∧ okn ks_1.length) ∧ True ∧ True ∧ (false = false ∧ True) ∧ D.val (Value.bool (decide (ixI k ks ≥ (0 : Int)))) = F) := by kernel_rfl
set_option maxRecDepth 100000 in
theorem vc14  (a b : List Int) (F : D)  :
    (owed c0 (inv14 a b) Try.f14 [.ints .i64 a, .ints .i64 b] F) = (
 True ∧
 True ∧
 True ∧
 True ∧
 True ∧
 True ∧
 match (↑a.length : Int) != (↑b.length : Int) with
 | true => True ∧ (false = false ∧ True) ∧ D.val (Value.bool false) = F
 | false =>
  True ∧
  True ∧
  True ∧
  (((AV.d (D.val (Value.int IntKind.i64 (0 : Int))) = AV.d (D.val (Value.int IntKind.i64 (↑(Int.toNat (0 : Int)) : Int))) ∧ True) ∧ True ∧ true = true) ∧ Int.toNat (0 : Int) ≤ a.length ∧ eqI (List.drop (Int.toNat (0 : Int)) a) (List.drop (Int.toNat (0 : Int)) b) = eqI a b) ∧
  ∀ (x : Nat),
  x ≤ a.length ∧ eqI (List.drop x a) (List.drop x b) = eqI a b →
  true = true ∧
  True ∧
  match decide ((↑x : Int) < (↑a.length : Int)) with
  | true =>
   True ∧
   True ∧
   True ∧
   True ∧
   ((0 : Int) ≤ (↑x : Int) ∧ (↑x : Int) < (↑a.length : Int) ∧ (1 : Nat) = (1 : Nat)) ∧
   ((1 : Nat) ≠ (0 : Nat) ∧ (1 : Nat) = (1 : Nat) ∧ false = false) ∧
   True ∧
   True ∧
   ((0 : Int) ≤ (↑x : Int) ∧ (↑x : Int) < (↑b.length : Int) ∧ (1 : Nat) = (1 : Nat)) ∧
   ((1 : Nat) ≠ (0 : Nat) ∧ (1 : Nat) = (1 : Nat) ∧ false = false) ∧
   True ∧
   match a.getD (↑x : Int).toNat (0 : Int) != b.getD (↑x : Int).toNat (0 : Int) with
   | true => True ∧ (false = false ∧ True) ∧ D.val (Value.bool false) = F
   | false =>
    True ∧
    True ∧
    ((AV.d (D.val (Value.int IntKind.i64 (IntKind.i64.wrap ((↑x : Int) + (1 : Int))))) = AV.d (D.val (Value.int IntKind.i64 (↑(IntKind.i64.wrap ((↑x : Int) + (1 : Int))).toNat : Int))) ∧ True) ∧ True ∧ true = true) ∧
    ((IntKind.i64.wrap ((↑x : Int) + (1 : Int))).toNat ≤ a.length ∧ eqI (List.drop (IntKind.i64.wrap ((↑x : Int) + (1 : Int))).toNat a) (List.drop (IntKind.i64.wrap ((↑x : Int) + (1 : Int))).toNat b) = eqI a b) ∧ a.length - (IntKind.i64.wrap ((↑x : Int) + (1 : Int))).toNat < a.length - x
  | false => True ∧ (false = false ∧ True) ∧ D.val (Value.bool true) = F) := by kernel_rfl
theorem fiI_le (l : List D) : ∀ ks, fiI l ks ≤ ks.length
 | [] => Nat.le_refl _
 | k :: r => by
  unfold fiI
  split
  ·exact Nat.zero_le _
  ·exact Nat.succ_le_succ (fiI_le l r)
theorem fiI_at (l : List D) : ∀ ks x, x ≤ fiI l ks → x < ks.length → isb (ks.getD x 0) l = true → fiI l ks = x
 | [], x, _, h, _ => by simp at h
 | d :: r, x, h1, h2, h3 => by
  unfold fiI at h1 ⊢
  by_cases hd : isb d l = true
  ·rw [if_pos hd] at h1 ⊢
   omega
  ·rw [if_neg hd] at h1 ⊢
   cases x with
   | zero => exact absurd h3 hd
   | succ x => rw [fiI_at l r x (by omega) (by simpa using h2) (by simpa using h3)]
theorem fiI_no (l : List D) : ∀ ks x, x ≤ fiI l ks → x < ks.length → isb (ks.getD x 0) l = false → x + 1 ≤ fiI l ks
 | [], x, _, h, _ => by simp at h
 | d :: r, x, h1, h2, h3 => by
  unfold fiI at h1 ⊢
  by_cases hd : isb d l = true
  ·rw [if_pos hd] at h1
   obtain rfl : x = 0 := by omega
   rw [show (d :: r).getD 0 0 = d from rfl, hd] at h3
   cases h3
  ·rw [if_neg hd] at h1 ⊢
   cases x with
   | zero => omega
   | succ x =>
    have := fiI_no l r x (by omega) (by simpa using h2) (by simpa using h3)
    omega
theorem anB_fi (l : List D) : ∀ ks, anB l ks = decide (fiI l ks < ks.length)
 | [] => rfl
 | k :: r => by
  rw [anB, fiI, anB_fi l r]
  cases h : isb k l
  ·rw [if_neg (by decide), Bool.false_or]; simp
  ·rw [if_pos rfl, Bool.true_or]; simp
theorem ixN_le (k : Int) : ∀ ks, ixN k ks ≤ ks.length
 | [] => Nat.le_refl _
 | x :: r => by
  unfold ixN
  split
  ·exact Nat.zero_le _
  ·exact Nat.succ_le_succ (ixN_le k r)
theorem ixN_at (k : Int) : ∀ ks x, x ≤ ixN k ks → x < ks.length → k = ks.getD x 0 → ixN k ks = x
 | [], x, _, h, _ => by simp at h
 | d :: r, x, h1, h2, h3 => by
  unfold ixN at h1 ⊢
  by_cases hd : k = d
  ·rw [if_pos hd] at h1 ⊢
   omega
  ·rw [if_neg hd] at h1 ⊢
   cases x with
   | zero => exact absurd h3 hd
   | succ x => rw [ixN_at k r x (by omega) (by simpa using h2) (by simpa using h3)]
theorem ixN_no (k : Int) : ∀ ks x, x ≤ ixN k ks → x < ks.length → k ≠ ks.getD x 0 → x + 1 ≤ ixN k ks
 | [], x, _, h, _ => by simp at h
 | d :: r, x, h1, h2, h3 => by
  unfold ixN at h1 ⊢
  by_cases hd : k = d
  ·rw [if_pos hd] at h1
   obtain rfl : x = 0 := by omega
   exact absurd hd h3
  ·rw [if_neg hd] at h1 ⊢
   cases x with
   | zero => omega
   | succ x =>
    have := ixN_no k r x (by omega) (by simpa using h2) (by simpa using h3)
    omega
theorem mmB_ix (k : Int) : ∀ ks, mmB k ks = decide (ixN k ks < ks.length)
 | [] => by unfold mmB ixN; simp
 | x :: r => by
  have ih := mmB_ix k r
  unfold mmB at ih ⊢
  rw [ixN, decide_eq_decide, List.mem_cons]
  rw [decide_eq_decide] at ih
  by_cases h : k = x
  ·rw [if_pos h]; simp [h]
  ·rw [if_neg h]; simp [h, ih]
theorem kdP_len (n : Nat) : (kdP n).length = n := by simp [kdP]
theorem kdP_step (n : Nat) : kdP n ++ [((n + 1 : Nat) : Int)] = kdP (n + 1) := by
 unfold kdP
 rw [List.range_succ, List.map_append]; rfl
set_option maxRecDepth 100000 in
theorem m94 : Meets Try.prog 94 sp94 := by
 refine meets_of_owed (C := c0) ⟨tab_ok, fun f s h => by cases h⟩ (by kernel_rfl) (by kernel_rfl : Try.prog.funcs[94]? = some Try.f94) (by kernel_rfl) (by kernel_rfl) (by kernel_rfl) _ ?_
 rintro _ ⟨b, rfl⟩
 refine ⟨(fun h => by cases h), fun _ => none, ?_⟩
 show owed c0 (fun _ => none) Try.f94 [bl b] (.ints .u8 [cond b 1 0])
 rw [vc94]
 simp (decide := true) only [eq_self, true_and, and_true, ne_eq, not_false_eq_true]
 cases b <;> rfl
set_option maxRecDepth 100000 in
theorem m97 : Meets Try.prog 97 sp97 := by
 refine meets_of_owed (C := c97) ⟨tab_ok, lkS_ok ⟨m28, trivial⟩⟩ (by kernel_rfl) (by kernel_rfl : Try.prog.funcs[97]? = some Try.f97) (by kernel_rfl) (by kernel_rfl) (by kernel_rfl) _ ?_
 rintro _ ⟨k, l, rfl, hl⟩
 refine ⟨fun _ => rfl, fun _ => none, ?_⟩
 show owed c97 (fun _ => none) Try.f97 [i64 k, .ref (.slc 2 l)] (bl (isb k l))
 rw [vc97]
 simp (decide := true) only [eq_self, true_and, and_true, ne_eq, not_false_eq_true]
 exact ⟨_, _, rfl, hl⟩
set_option maxRecDepth 100000 in
theorem m113 : Meets Try.prog 113 sp113 := by
 refine meets_of_owed (C := c113) ⟨tab_ok, lkS_ok ⟨m97, trivial⟩⟩ (by kernel_rfl) (by kernel_rfl : Try.prog.funcs[113]? = some Try.f113) (by kernel_rfl) (by kernel_rfl) (by kernel_rfl) _ ?_
 rintro _ ⟨ks, l, rfl, hl, hk⟩
 refine ⟨fun _ => rfl, inv113 l ks, ?_⟩
 show owed c113 (inv113 l ks) Try.f113 [.ints .i64 ks, .clo 97 [.ref (.slc 2 l)]] (i64 (fxI l ks))
 rw [vc113]
 have hk : ks.length ≤ 140737488351232 := hk
 have hle := fiI_le l ks
 simp (decide := true) only [eq_self, true_and, and_true, ne_eq, not_false_eq_true]
 refine ⟨⟨rfl, Nat.zero_le _⟩, fun x hx => ?_⟩
 split
 ·rename_i h
  have h : x < ks.length := by have := of_decide_eq_true h; omega
  simp only [Int.toNat_natCast, wS h hk]
  refine ⟨⟨by omega, by omega⟩, ⟨_, _, rfl, hl⟩, ?_⟩
  cases hb : isb (ks.getD x 0) l
  ·exact ⟨trivial, fiI_no l ks x hx h hb, by omega⟩
  ·have e := fiI_at l ks x hx h hb
   simp only [fxI, e, if_pos h]
 ·rename_i h
  have h := of_decide_eq_false h
  rw [fxI, if_neg (by omega)]
set_option maxRecDepth 100000 in
theorem m96 : Meets Try.prog 96 sp96 := by
 refine meets_of_owed (C := c96) ⟨tab_ok, lkS_ok ⟨m113, trivial⟩⟩ (by kernel_rfl) (by kernel_rfl : Try.prog.funcs[96]? = some Try.f96) (by kernel_rfl) (by kernel_rfl) (by kernel_rfl) _ ?_
 rintro _ ⟨ks, l, rfl, hl, hk⟩
 refine ⟨fun _ => rfl, fun _ => none, ?_⟩
 show owed c96 (fun _ => none) Try.f96 [.ints .i64 ks, .clo 97 [.ref (.slc 2 l)]] (bl (anB l ks))
 rw [vc96]
 simp (decide := true) only [eq_self, true_and, and_true, ne_eq, not_false_eq_true]
 refine ⟨⟨_, _, rfl, hl, hk⟩, ?_⟩
 rw [anB_fi, fxI]
 congr 2
 rw [decide_eq_decide]
 split <;> omega
set_option maxRecDepth 100000 in
theorem m95 : Meets Try.prog 95 sp95 := by
 refine meets_of_owed (C := c95) ⟨tab_ok, lkS_ok ⟨m96, trivial⟩⟩ (by kernel_rfl) (by kernel_rfl : Try.prog.funcs[95]? = some Try.f95) (by kernel_rfl) (by kernel_rfl) (by kernel_rfl) _ ?_
 rintro _ ⟨ks, l, rfl, hl, hk⟩
 refine ⟨fun _ => rfl, fun _ => none, ?_⟩
 show owed c95 (fun _ => none) Try.f95 [.ints .i64 ks, .ref (.slc 2 l)] (bl (anB l ks))
 rw [vc95]
 simp (decide := true) only [eq_self, true_and, and_true, ne_eq, not_false_eq_true]
 exact ⟨_, _, rfl, hl, hk⟩
set_option maxRecDepth 100000 in
theorem m66 : Meets Try.prog 66 sp66 := by
 refine meets_of_owed (C := c66) ⟨tab_ok, lkS_ok ⟨m95, trivial⟩⟩ (by kernel_rfl) (by kernel_rfl : Try.prog.funcs[66]? = some Try.f66) (by kernel_rfl) (by kernel_rfl) (by kernel_rfl) _ ?_
 rintro _ ⟨l, rfl, hl⟩
 refine ⟨fun _ => rfl, fun _ => none, ?_⟩
 show owed c66 (fun _ => none) Try.f66 [.slc 2 l] (bl (sndB l))
 rw [vc66]
 have ex : ∀ xs : List Int, xs.length ≤ 4 → (∃ (ks : List Int), ∃ (l_1 : List D), [D.ints IntKind.i64 xs, (D.slc 2 l).ref] = [D.ints IntKind.i64 ks, (D.slc 2 l_1).ref] ∧ okl l_1 ∧ okn ks.length) = True :=
  fun xs hx => eq_true ⟨xs, l, rfl, hl, by unfold okn; omega⟩
 have a1 : ∀ k, anB l [k] = isb k l := fun k => by simp [anB]
 have a2 : anB l [16, 17] = (isb 16 l || isb 17 l) := by simp [anB]
 have a3 : anB l [13, 14, 15] = (isb 13 l || (isb 14 l || isb 15 l)) := by simp [anB]
 simp (decide := true) only [ex [10] (by decide), ex [8] (by decide), ex [11] (by decide), ex [9] (by decide), ex [16, 17] (by decide), ex [13, 14, 15] (by decide), a1, a2, a3, eq_self, true_and, and_true, ne_eq, not_false_eq_true]
 unfold sndB
 generalize isb 10 l = b10
 generalize isb 8 l = b8
 generalize isb 11 l = b11
 generalize isb 9 l = b9
 generalize (isb 16 l || isb 17 l) = x
 generalize (isb 13 l || (isb 14 l || isb 15 l)) = y
 cases b10 <;> cases b8 <;> cases b11 <;> cases b9 <;> cases x <;> cases y <;> rfl
set_option maxRecDepth 100000 in
theorem m59 : Meets Try.prog 59 sp59 := by
 refine meets_of_owed (C := c0) ⟨tab_ok, fun f s h => by cases h⟩ (by kernel_rfl) (by kernel_rfl : Try.prog.funcs[59]? = some Try.f59) (by kernel_rfl) (by kernel_rfl) (by kernel_rfl) _ ?_
 rintro _ ⟨c, n, rfl⟩
 refine ⟨fun _ => rfl, fun _ => none, ?_⟩
 show owed c0 (fun _ => none) Try.f59 [u8i c, i64 n] (bl (szP c (n : Int).toNat))
 rw [vc59, Int.toNat_natCast]
 simp (decide := true) only [eq_self, true_and, and_true, ne_eq, not_false_eq_true]
 have nb : ∀ {a b : Int}, (a == b) = false → a ≠ b := fun h e => by rw [e] at h; simp at h
 have n0 : ∀ m : Nat, ((n : Int) == (m : Int)) = decide (n = m) := fun m => by
  rw [Bool.eq_iff_iff, beq_iff_eq, decide_eq_true_iff]; omega
 have n1 := n0 32
 have n2 := n0 16
 have n3 := n0 24
 rw [show ((n : Int) == 32) = decide (n = 32) from n1, show ((n : Int) == 16) = decide (n = 16) from n2, show ((n : Int) == 24) = decide (n = 24) from n3]
 unfold szP
 split
 ·rename_i h
  rw [if_pos (eq_of_beq h)]
  split
  ·rename_i h2; rw [decide_eq_true (.inl (of_decide_eq_true h2))]
  ·rename_i h2
   have h2 := of_decide_eq_false h2
   split
   ·rename_i h3; rw [decide_eq_true (.inr (.inl (of_decide_eq_true h3)))]
   ·rename_i h3
    have h3 := of_decide_eq_false h3
    congr 2
    rw [decide_eq_decide]; omega
 ·rename_i h
  rw [if_neg (nb h)]
  split
  ·rename_i h2
   rw [if_pos (.inl (eq_of_beq h2))]
  ·rename_i h2
   have h2 := nb h2
   split
   ·rename_i h3; rw [if_pos (.inr (eq_of_beq h3))]
   ·rename_i h3
    have h3 := nb h3
    rw [if_neg (by omega)]
set_option maxRecDepth 100000 in
theorem m15 : Meets Try.prog 15 sp15 := by
 refine meets_of_owed (C := c15) ⟨tab_ok, fun f s h => by cases h⟩ (by kernel_rfl) (by kernel_rfl : Try.prog.funcs[15]? = some Try.f15) (by kernel_rfl) (by kernel_rfl) (by kernel_rfl) _ ?_
 rintro _ ⟨c, rfl⟩
 refine ⟨(fun h => by cases h), inv15, ?_⟩
 show owed c15 inv15 Try.f15 [u8i c] (.ints .i64 (kdL c))
 rw [vc15]
 have nb : ∀ {b : Int}, c ≠ b → (c == b) = false := beq_eq_false_iff_ne.2
 have step : ∀ x L : Nat, L ≤ 17 → x + 1 ≤ L → IntKind.i64.wrap (((x + 1 : Nat) : Int) + 1) = ((x + 2 : Nat) : Int) ∧ x + 2 - 1 = x + 1 ∧ (kdP x ++ [((x + 1 : Nat) : Int)]) = kdP (x + 1) ∧ (kdP (x + 1)).length ≤ 18 :=
  fun x L h1 h2 => ⟨wS (n := 20) (by omega) (by omega), rfl, kdP_step x, by rw [kdP_len]; omega⟩
 by_cases c1 : c = 1
 ·subst c1
  simp (decide := true) only [show ((1 : Int) == 1) = true from rfl, show ((1 : Int) == 3) = false from rfl, show ((1 : Int) == 4) = false from rfl, eq_self, true_and, and_true, ne_eq, not_false_eq_true]
  refine ⟨?_, fun x hx => ?_⟩
  ·and_intros <;> first | rfl | omega | trivial
  split
  ·rename_i h
   have h := of_decide_eq_true h
   obtain ⟨s1, s2, s3, s4⟩ := step x 7 (by omega) (by omega)
   simp only [s1, s2, s3, Int.toNat_natCast]
   and_intros <;> first | rfl | omega | trivial
  ·rename_i h
   have h := of_decide_eq_false h
   obtain rfl : x = 7 := by omega
   rfl
 by_cases c2 : c = 2
 ·subst c2
  simp (decide := true) only [show ((2 : Int) == 1) = false from rfl, show ((2 : Int) == 2) = true from rfl, show ((2 : Int) == 3) = false from rfl, show ((2 : Int) == 4) = false from rfl, eq_self, true_and, and_true, ne_eq, not_false_eq_true]
  refine ⟨?_, fun x hx => ?_⟩
  ·and_intros <;> first | rfl | omega | trivial
  split
  ·rename_i h
   have h := of_decide_eq_true h
   obtain ⟨s1, s2, s3, s4⟩ := step x 17 (by omega) (by omega)
   simp only [s1, s2, s3, Int.toNat_natCast]
   and_intros <;> first | rfl | omega | trivial
  ·rename_i h
   have h := of_decide_eq_false h
   obtain rfl : x = 17 := by omega
   rfl
 by_cases c3 : c = 3
 ·subst c3
  simp (decide := true) only [show ((3 : Int) == 1) = false from rfl, show ((3 : Int) == 2) = false from rfl, show ((3 : Int) == 3) = true from rfl, show ((3 : Int) == 4) = false from rfl, eq_self, true_and, and_true, ne_eq, not_false_eq_true]
  refine ⟨?_, fun x hx => ?_⟩
  ·and_intros <;> first | rfl | omega | trivial
  split
  ·rename_i h
   have h := of_decide_eq_true h
   obtain ⟨s1, s2, s3, s4⟩ := step x 7 (by omega) (by omega)
   simp only [s1, s2, s3, Int.toNat_natCast]
   and_intros <;> first | rfl | omega | trivial
  ·rename_i h
   have h := of_decide_eq_false h
   obtain rfl : x = 7 := by omega
   and_intros <;> first | rfl | decide
 by_cases c4 : c = 4
 ·subst c4
  simp (decide := true) only [show ((4 : Int) == 1) = false from rfl, show ((4 : Int) == 2) = false from rfl, show ((4 : Int) == 3) = false from rfl, show ((4 : Int) == 4) = true from rfl, eq_self, true_and, and_true, ne_eq, not_false_eq_true]
  refine ⟨?_, fun x hx => ?_⟩
  ·and_intros <;> first | rfl | omega | trivial
  split
  ·rename_i h
   have h := of_decide_eq_true h
   obtain ⟨s1, s2, s3, s4⟩ := step x 13 (by omega) (by omega)
   simp only [s1, s2, s3, Int.toNat_natCast]
   and_intros <;> first | rfl | omega | trivial
  ·rename_i h
   have h := of_decide_eq_false h
   obtain rfl : x = 13 := by omega
   and_intros <;> first | rfl | decide
 simp (decide := true) only [nb c1, nb c2, nb c3, nb c4, eq_self, true_and, and_true, ne_eq, not_false_eq_true]
 refine ⟨?_, fun x hx => ?_⟩
 ·and_intros <;> first | rfl | omega | trivial
 ·obtain rfl : x = 0 := by omega
  unfold kdL lastK
  rw [if_neg (by omega), if_neg (by omega), if_neg (by omega), if_neg (by omega), if_neg (by omega)]; rfl
set_option maxRecDepth 100000 in
theorem m57 : Meets Try.prog 57 sp57 := by
 refine meets_of_owed (C := c57) ⟨tab_ok, lkS_ok ⟨m25, trivial⟩⟩ (by kernel_rfl) (by kernel_rfl : Try.prog.funcs[57]? = some Try.f57) (by kernel_rfl) (by kernel_rfl) (by kernel_rfl) _ ?_
 rintro _ ⟨l, rfl, hl⟩
 refine ⟨fun _ => rfl, fun _ => none, ?_⟩
 show owed c57 (fun _ => none) Try.f57 [.slc 2 l] (u8i (clP l))
 rw [vc57]
 have ex : (∃ (l_1 : List D), ∃ (j : Int), [D.slc 2 l, D.val (Value.int IntKind.i64 1)] = [D.slc 2 l_1, D.val (Value.int IntKind.i64 j)] ∧ okl l_1) = True := eq_true ⟨_, _, rfl, hl⟩
 simp (decide := true) only [ex, eq_self, true_and, and_true, ne_eq, not_false_eq_true]
 unfold clP clV
 cases h : has 1 l
 ·rw [nil1 1 l h]; rfl
 ·simp only
  split
  ·rename_i h2
   have h2 : (vl 1 l).length = 1 := by have := eq_of_beq h2; omega
   rw [if_pos h2]
   exact ⟨by omega, rfl⟩
  ·rename_i h2
   rw [if_neg (fun a => by rw [a] at h2; exact absurd h2 (by decide))]
set_option maxRecDepth 100000 in
theorem m16 : Meets Try.prog 16 sp16 := by
 refine meets_of_owed (C := c16) ⟨tab_ok, lkS_ok ⟨m57, m15, m27, m25, m59, m66, trivial⟩⟩ (by kernel_rfl) (by kernel_rfl : Try.prog.funcs[16]? = some Try.f16) (by kernel_rfl) (by kernel_rfl) (by kernel_rfl) _ ?_
 rintro _ ⟨l, rfl, hl⟩
 refine ⟨fun _ => rfl, inv16 l, ?_⟩
 show owed c16 (inv16 l) Try.f16 [.slc 2 l] (bl (valB l))
 rw [vc16, ← valid_eq hl]
 have hl2 := hl.2
 have ex1 : (∃ (l_1 : List D), [D.slc 2 l] = [D.slc 2 l_1] ∧ okl l_1) = True := eq_true ⟨_, rfl, hl⟩
 have ex2 : (∃ (c : Int), [D.val (Value.int IntKind.u8 (clP l))] = [D.val (Value.int IntKind.u8 c)]) = True := eq_true ⟨_, rfl⟩
 have ex3 : (∃ (l_1 : List D), ∃ (j : Int), [D.slc 2 l, D.val (Value.int IntKind.i64 4)] = [D.slc 2 l_1, D.val (Value.int IntKind.i64 j)] ∧ okl l_1) = True := eq_true ⟨_, _, rfl, hl⟩
 have ex4 : (∃ (c : Int), ∃ (n : Nat), [D.val (Value.int IntKind.u8 (clP l)), D.val (Value.int IntKind.i64 ((vl 4 l).length : Int))] = [D.val (Value.int IntKind.u8 c), D.val (Value.int IntKind.i64 (n : Int))]) = True := eq_true ⟨_, _, rfl⟩
 simp (decide := true) only [ex1, ex2, ex3, ex4, eq_self, true_and, and_true, ne_eq, not_false_eq_true, Int.toNat_natCast]
 unfold pvB
 split
 ·rename_i h
  rw [decide_eq_false (bne_iff_ne.1 h), Bool.false_and]
 rename_i h
 rw [decide_eq_true (bne_eq_false_iff_eq.1 h), Bool.true_and]
 split
 ·rename_i h1
  have h1 := bne_iff_ne.1 h1
  rw [decide_eq_false (fun e => h1 (by have := congrArg List.length e; rw [List.length_map] at this; omega)), Bool.false_and]
 rename_i h1
 have h1 := bne_eq_false_iff_eq.1 h1
 have h1 : l.length = (kdL (clP l)).length := by omega
 split
 ·rename_i h2
  have h2 := eq_of_beq h2
  rw [decide_eq_false (show ¬l.length ≠ 0 by omega), Bool.false_and, Bool.and_false]
 rename_i h2
 have h2 : l.length ≠ 0 := fun e => by rw [e] at h2; exact absurd h2 (by decide)
 rw [decide_eq_true h2, Bool.true_and]
 refine ⟨?_, ?_⟩
 ·and_intros <;> first | rfl | exact Nat.zero_le _
 rintro x ⟨hx, h0⟩
 split
 ·rename_i h
  have h : x < l.length := by have := of_decide_eq_true h; omega
  have hk : x < (kdL (clP l)).length := by omega
  obtain ⟨k, v, e, _, _⟩ := el hl h
  have ek : kOf (l.getD x default) = k := by rw [show l.getD x default = at_ k v from e]; rfl
  simp only [Int.toNat_natCast, e, f0_at, f1_at, wS h hl2]
  refine ⟨⟨by omega, by omega, trivial⟩, ⟨by omega, by omega⟩, ?_⟩
  split
  ·rename_i hne
   have hne := bne_iff_ne.1 hne
   rw [decide_eq_false (fun a => hne ?_), Bool.false_and]
   rw [← a, List.getD_eq_getElem?_getD, List.getElem?_map, List.getElem?_eq_getElem h, ← ek, List.getD_eq_getElem?_getD, List.getElem?_eq_getElem h]
   rfl
  ·rename_i hne
   have hne := bne_eq_false_iff_eq.1 hne
   refine ⟨trivial, ⟨h, ?_⟩, by omega⟩
   rw [take_snoc h, List.map_append, h0, List.take_add_one, List.getElem?_eq_getElem hk, List.map_singleton, ek, hne, List.getD_eq_getElem?_getD, List.getElem?_eq_getElem hk]
   rfl
 ·rename_i h
  have h := of_decide_eq_false h
  obtain rfl : x = l.length := by omega
  rw [List.take_length] at h0
  have h0 : l.map kOf = kdL (clP l) := by rw [h0, h1, List.take_length]
  rw [decide_eq_true h0, Bool.true_and]
  cases szP (clP l) (vl 4 l).length <;> rfl
set_option maxRecDepth 100000 in
theorem m93 : Meets Try.prog 93 sp93 := by
 refine meets_of_owed (C := c0) ⟨tab_ok, fun f s h => by cases h⟩ (by kernel_rfl) (by kernel_rfl : Try.prog.funcs[93]? = some Try.f93) (by kernel_rfl) (by kernel_rfl) (by kernel_rfl) _ ?_
 rintro _ ⟨ks, k, rfl, hk⟩
 refine ⟨fun _ => rfl, inv93 k ks, ?_⟩
 show owed c0 (inv93 k ks) Try.f93 [.ints .i64 ks, i64 k] (i64 (ixI k ks))
 rw [vc93]
 have hk : ks.length ≤ 140737488351232 := hk
 have hle := ixN_le k ks
 simp (decide := true) only [eq_self, true_and, and_true, ne_eq, not_false_eq_true]
 refine ⟨⟨rfl, Nat.zero_le _⟩, fun x hx => ?_⟩
 split
 ·rename_i h
  have h : x < ks.length := by have := of_decide_eq_true h; omega
  simp only [Int.toNat_natCast, wS h hk]
  refine ⟨⟨by omega, by omega⟩, ?_⟩
  split
  ·rename_i hb
   have e := ixN_at k ks x hx h (eq_of_beq hb)
   rw [ixI, e, if_pos h]
  ·rename_i hb
   exact ⟨trivial, ixN_no k ks x hx h (fun e => by rw [← e] at hb; simp at hb), by omega⟩
 ·rename_i h
  have h := of_decide_eq_false h
  rw [ixI, if_neg (by omega)]
set_option maxRecDepth 100000 in
theorem m58 : Meets Try.prog 58 sp58 := by
 refine meets_of_owed (C := c58) ⟨tab_ok, lkS_ok ⟨m93, trivial⟩⟩ (by kernel_rfl) (by kernel_rfl : Try.prog.funcs[58]? = some Try.f58) (by kernel_rfl) (by kernel_rfl) (by kernel_rfl) _ ?_
 rintro _ ⟨ks, k, rfl, hk⟩
 refine ⟨fun _ => rfl, fun _ => none, ?_⟩
 show owed c58 (fun _ => none) Try.f58 [.ints .i64 ks, i64 k] (bl (mmB k ks))
 rw [vc58]
 simp (decide := true) only [eq_self, true_and, and_true, ne_eq, not_false_eq_true]
 refine ⟨⟨_, _, rfl, hk⟩, ?_⟩
 rw [mmB_ix, ixI]
 congr 2
 rw [decide_eq_decide]
 split <;> omega
set_option maxRecDepth 100000 in
theorem m14 : Meets Try.prog 14 sp14 := by
 refine meets_of_owed (C := c0) ⟨tab_ok, fun f s h => by cases h⟩ (by kernel_rfl) (by kernel_rfl : Try.prog.funcs[14]? = some Try.f14) (by kernel_rfl) (by kernel_rfl) (by kernel_rfl) _ ?_
 rintro _ ⟨a, b, rfl, ha⟩
 refine ⟨fun _ => rfl, inv14 a b, ?_⟩
 show owed c0 (inv14 a b) Try.f14 [.ints .i64 a, .ints .i64 b] (bl (eqI a b))
 rw [vc14]
 have ha : a.length ≤ 140737488351232 := ha
 simp (decide := true) only [eq_self, true_and, and_true, ne_eq, not_false_eq_true]
 split
 ·rename_i h
  have h := bne_iff_ne.1 h
  unfold eqI
  rw [decide_eq_false (fun e => h (by rw [e]))]
 rename_i h
 have h := bne_eq_false_iff_eq.1 h
 have hab : a.length = b.length := by omega
 refine ⟨?_, ?_⟩
 ·and_intros <;> first | rfl | exact Nat.zero_le _
 rintro x ⟨hx, h0⟩
 split
 ·rename_i hl
  have hl : x < a.length := by have := of_decide_eq_true hl; omega
  have hlb : x < b.length := by omega
  have da : a.drop x = a.getD x 0 :: a.drop (x + 1) := by
   rw [List.drop_eq_getElem_cons hl, List.getD_eq_getElem?_getD, List.getElem?_eq_getElem hl]; rfl
  have db : b.drop x = b.getD x 0 :: b.drop (x + 1) := by
   rw [List.drop_eq_getElem_cons hlb, List.getD_eq_getElem?_getD, List.getElem?_eq_getElem hlb]; rfl
  simp only [Int.toNat_natCast, wS hl ha]
  refine ⟨⟨by omega, by omega⟩, ⟨by omega, by omega⟩, ?_⟩
  rw [da, db] at h0
  unfold eqI at h0 ⊢
  split
  ·rename_i hne
   have hne := bne_iff_ne.1 hne
   rw [← h0, decide_eq_false (fun e => hne (List.cons.inj e).1)]
  ·rename_i hne
   have hne := bne_eq_false_iff_eq.1 hne
   refine ⟨trivial, ⟨hl, ?_⟩, by omega⟩
   rw [← h0, hne, decide_eq_decide]
   exact ⟨fun e => by rw [e], fun e => (List.cons.inj e).2⟩
 ·rename_i hl
  have hl := of_decide_eq_false hl
  obtain rfl : x = a.length := by omega
  rw [← h0, List.drop_length, hab, List.drop_length]; rfl
end Go.Proofs.Ytfbaghocbipbiaa
namespace Go.Proofs.Ytfbaghocbipbiaa
open Go Go.Vg
theorem belN_congr {h g : Nat → Bool} {c : Int} (e : ∀ k, k < 19 → h k = g k) : belN h c 18 = belN g c 18 := by
 rw [Bool.eq_iff_iff, belN_iff, belN_iff]
 exact ⟨fun x k h1 h2 => by rw [← e k (by omega)]; exact x k h1 h2, fun x k h1 h2 => by rw [e k (by omega)]; exact x k h1 h2⟩
theorem objB_congr {h g : Nat → Bool} {v w : Nat → List Int} (e : ∀ k, k < 19 → h k = g k) (f : ∀ k, k < 19 → v k = w k) : objB h v = objB g w := by
 unfold objB flgB oneV
 rw [belN_congr e, e 1 (by decide), f 1 (by decide), f 4 (by decide), f 8 (by decide), f 9 (by decide), f 10 (by decide), f 11 (by decide),
  f 13 (by decide), f 14 (by decide), f 15 (by decide), f 16 (by decide), f 17 (by decide)]
theorem at_valB {h : Nat → Bool} {v : Nat → List Int} (hv : ∀ k, k < 19 → okv (v k)) (h0 : h 0 = false)
  (hf : ∀ k, k < 19 → h k = true → fitB (k : Int) (v k) = true) (hn : ∀ k, k < 19 → h k = false → v k = []) : valB (atL h v) = objB h v := by
 have e1 : ∀ k, k < 19 → cH (atL h v) k = h k := by
  intro k hk
  unfold cH
  rw [at_has hk]
  by_cases e : 1 ≤ k
  ·rw [decide_eq_true e, Bool.true_and]
  ·obtain rfl : k = 0 := by omega
   rw [h0, Bool.and_false]
 have e2 : ∀ k, k < 19 → cV (atL h v) k = v k := by
  intro k hk
  unfold cV
  rw [e1 k hk]
  split
  ·rename_i hh
   exact at_vl hk hh
  ·rename_i hh
   exact (hn k hk (by simpa using hh)).symm
 unfold valB
 rw [decide_eq_true (of_fine (at_fine h0 hf)), Bool.true_and, at_congr e1 (fun k hk _ => e2 k hk), (sameB_iff (at_okL hv) (at_okL hv)).2 rfl, Bool.true_and,
  objB_congr e1 e2]
theorem mkF_zero {t : List D} (h : mkF t = 0) : afE t = 0 ∧ clP t ≠ 0 ∧ tkN t t.length = 0 ∧ has 4 t = true ∧ szR (clP t) (vl 4 t).length = true := by
 unfold mkF at h
 split at h
 ·rename_i h1; exact absurd h h1
 rename_i h1
 split at h
 ·exact absurd h (by decide)
 rename_i h2
 split at h
 ·rename_i h3; exact absurd h h3
 rename_i h3
 split at h
 ·exact absurd h (by decide)
 rename_i h4
 split at h
 ·exact absurd h (by decide)
 rename_i h5
 exact ⟨by simpa using h1, h2, by simpa using h3, by simpa using h4, by simpa using h5⟩
theorem cH_has (t : List D) {k : Nat} (hk : 1 ≤ k) : cH t k = has k t := by
 unfold cH
 rw [decide_eq_true hk, Bool.true_and]
theorem d1V_eq (t : List D) {k : Nat} (hk : 1 ≤ k) : d1V t k = if has k t = true then vl k t else d0V (clP t) k := by
 unfold d1V upV
 rw [cV_eq t hk, cH_has t hk]
theorem d2V_ne (t : List D) (b : Bool) {k : Nat} (hk : ¬(10 ≤ k ∧ k ≤ 12) ∨ clP t % 2 ≠ 0) : d2V t b k = d1V t k := by
 unfold d2V
 split
 ·rename_i h
  have hk : ¬(10 ≤ k ∧ k ≤ 12) := hk.resolve_right (fun e => e h)
  unfold setV
  rw [if_neg (by omega), if_neg (by omega), if_neg (by omega)]
 ·rfl
theorem one8 (t : List D) : oneV (d1V t) 8 = isb 8 t := by
 unfold oneV isb
 rw [d1V_eq t (k := 8) (by decide)]
 show decide ((if has 8 t = true then vl 8 t else d0V (clP t) 8) = [1]) = _
 cases has 8 t
 ·rw [if_neg (by decide), Bool.false_and]
  unfold d0V
  split
  ·rfl
  ·rfl
 ·rw [if_pos rfl, Bool.true_and]
theorem one9 {t : List D} (hc : clP t = 2 ∨ clP t = 4) : (!oneV (d1V t) 9) = (has 9 t && !isb 9 t) := by
 unfold oneV isb
 rw [d1V_eq t (k := 9) (by decide)]
 show (!decide ((if has 9 t = true then vl 9 t else d0V (clP t) 9) = [1])) = _
 cases has 9 t
 ·rw [if_neg (by decide), Bool.false_and]
  rcases hc with e | e <;> rw [e] <;> rfl
 ·rw [if_pos rfl, Bool.true_and, Bool.true_and]
theorem d2V_12 {t : List D} (b : Bool) (hc : clP t = 2 ∨ clP t = 4) : d2V t b 12 = flg b := by
 unfold d2V
 rw [if_pos (by rcases hc with e | e <;> rw [e] <;> rfl)]
 rfl
theorem d2V_10 {t : List D} (b : Bool) (hc : clP t = 2 ∨ clP t = 4) : d2V t b 10 = flg (b && isb 8 t) := by
 unfold d2V
 rw [if_pos (by rcases hc with e | e <;> rw [e] <;> rfl), ← one8]
 rfl
theorem d2V_11 {t : List D} (b : Bool) (hc : clP t = 2 ∨ clP t = 4) : d2V t b 11 = flg (b && (has 9 t && !isb 9 t)) := by
 unfold d2V
 rw [if_pos (by rcases hc with e | e <;> rw [e] <;> rfl), ← one9 hc]
 rfl
theorem has_get {k : Int} {t : List D} (h : has k t = true) : ∃ i, i < t.length ∧ kOf (t.getD i default) = k ∧ vl k t = vOf (t.getD i default) := by
 have hf : fi k t < t.length := of_decide_eq_true h
 exact ⟨fi k t, hf, fi_lt hf, by unfold vl; rw [if_pos hf]⟩
theorem tk_has {t : List D} (h : tkN t t.length = 0) {k : Int} (hk : has k t = true) : belB (clP t) k = true ∧ ¬(10 ≤ k ∧ k ≤ 12) := by
 obtain ⟨i, hi, e, _⟩ := has_get hk
 have := tkN_zero h i hi
 unfold tkI at this
 rw [e] at this
 split at this
 ·exact absurd this (by decide)
 rename_i h1
 split at this
 ·exact absurd this (by decide)
 rename_i h2
 exact ⟨by simpa using h1, h2⟩
theorem ms_form (t : List D) {k : Int} (c : Int) (b : Bool) (h : ¬(k = 2 ∨ k = 3)) : ∃ x : Bool, msL t k c b = [cond x 1 0] := by
 unfold msL
 rw [if_neg h]
 split
 ·exact ⟨_, rfl⟩
 split
 ·exact ⟨true, rfl⟩
 split
 ·exact ⟨_, rfl⟩
 split
 ·exact ⟨_, rfl⟩
 split
 ·exact ⟨_, rfl⟩
 exact ⟨false, rfl⟩
theorem n19 {k : Nat} (h : k < 19) : k = 0 ∨ k = 1 ∨ k = 2 ∨ k = 3 ∨ k = 4 ∨ k = 5 ∨ k = 6 ∨ k = 7 ∨ k = 8 ∨ k = 9 ∨ k = 10 ∨ k = 11 ∨ k = 12 ∨ k = 13 ∨ k = 14 ∨ k = 15 ∨ k = 16 ∨ k = 17 ∨ k = 18 := by omega
theorem ou_eq {t : List D} (b : Bool) (hc : 1 ≤ clP t ∧ clP t ≤ 4) (ht : tkN t t.length = 0) (h1 : has 1 t = true) (h4 : has 4 t = true) {k : Nat} (hk : k < 19)
  (hd : dH (clP t) k = true) : ouV t b k = d2V t b k := by
 have k1 : 1 ≤ k := by
  unfold dH at hd
  simp only [Bool.and_eq_true, decide_eq_true_iff] at hd
  exact hd.1
 unfold ouV
 by_cases hh : has k t = true
 ·have := (tk_has ht hh).2
  rw [if_pos hh, d2V_ne t b (.inl (by omega)), d1V_eq t k1, if_pos hh]
 ·rw [if_neg hh]
  have hn : ¬(10 ≤ k ∧ k ≤ 12) → msL t k (clP t) b = d0V (clP t) k → msL t k (clP t) b = d2V t b k := by
   intro a e
   rw [d2V_ne t b (.inl a), d1V_eq t k1, if_neg hh, e]
  have h10 : 10 ≤ k ∧ k ≤ 12 → clP t = 2 ∨ clP t = 4 := by
   intro a
   rcases c14 hc with e | e | e | e
   ·rw [e] at hd; unfold dH belB at hd; simp at hd; omega
   ·exact .inl e
   ·rw [e] at hd; unfold dH belB at hd; simp at hd; omega
   ·exact .inr e
  rcases n19 hk with rfl | rfl | rfl | rfl | rfl | rfl | rfl | rfl | rfl | rfl | rfl | rfl | rfl | rfl | rfl | rfl | rfl | rfl | rfl
  ·omega
  ·exact absurd h1 hh
  ·exact hn (by omega) (by rcases c14 hc with e | e | e | e <;> rw [e] <;> rfl)
  ·exact hn (by omega) (by rcases c14 hc with e | e | e | e <;> rw [e] <;> rfl)
  ·exact absurd h4 hh
  ·exact hn (by omega) (by rcases c14 hc with e | e | e | e <;> rw [e] <;> first | rfl | (rw [e] at hd; cases hd))
  ·exact hn (by omega) (by rcases c14 hc with e | e | e | e <;> rw [e] <;> first | rfl | (rw [e] at hd; cases hd))
  ·exact hn (by omega) (by rcases c14 hc with e | e | e | e <;> rw [e] <;> first | rfl | (rw [e] at hd; cases hd))
  ·exact hn (by omega) (by rcases c14 hc with e | e | e | e <;> rw [e] <;> first | rfl | (rw [e] at hd; cases hd))
  ·exact hn (by omega) (by rcases c14 hc with e | e | e | e <;> rw [e] <;> first | rfl | (rw [e] at hd; cases hd))
  ·rw [d2V_10 b (h10 (by decide))]; rfl
  ·rw [d2V_11 b (h10 (by decide))]; rfl
  ·rw [d2V_12 b (h10 (by decide))]; rfl
  ·exact hn (by omega) (by rcases c14 hc with e | e | e | e <;> rw [e] <;> first | rfl | (rw [e] at hd; cases hd))
  ·exact hn (by omega) (by rcases c14 hc with e | e | e | e <;> rw [e] <;> first | rfl | (rw [e] at hd; cases hd))
  ·exact hn (by omega) (by rcases c14 hc with e | e | e | e <;> rw [e] <;> first | rfl | (rw [e] at hd; cases hd))
  ·exact hn (by omega) (by rcases c14 hc with e | e | e | e <;> rw [e] <;> first | rfl | (rw [e] at hd; cases hd))
  ·exact hn (by omega) (by rcases c14 hc with e | e | e | e <;> rw [e] <;> first | rfl | (rw [e] at hd; cases hd))
  ·exact hn (by omega) (by rcases c14 hc with e | e | e | e <;> rw [e] <;> first | rfl | (rw [e] at hd; cases hd))
theorem flg_ok (x : Bool) : okv [cond x 1 0] := by
 refine ⟨by simp, fun y hy => ?_⟩
 obtain rfl : y = cond x 1 0 := by simpa using hy
 cases x <;> decide
theorem ms_ok (t : List D) (k c : Int) (b : Bool) : okv (msL t k c b) := by
 by_cases h : k = 2 ∨ k = 3
 ·unfold msL
  rw [if_pos h]
  exact ⟨by decide, fun x hx => by cases hx⟩
 ·obtain ⟨x, e⟩ := ms_form t c b h
  rw [e]
  exact flg_ok x
theorem ou_ok {t : List D} (ht : okl t) (b : Bool) (k : Int) : okv (ouV t b k) := by
 unfold ouV
 split
 ·exact vl_ok ht k
 ·exact ms_ok t k _ b
theorem ouL_ok {t : List D} (ht : okl t) (b : Bool) : okl (ouL t b) := by
 refine ⟨fun x hx => ?_, ?_⟩
 ·unfold ouL at hx
  obtain ⟨k, _, rfl⟩ := List.mem_map.1 hx
  exact ⟨_, _, rfl, ou_ok ht b k⟩
 ·unfold ouL kdL kdP lastK
  rw [List.length_map, List.length_append, List.length_map, List.length_range]
  split <;> split <;> first | (simp; done) | (split <;> first | (simp; done) | (split <;> simp))
theorem made {t : List D} (ht : okl t) (b : Bool) (hF : mkF t = 0) : ouL t b = atL (d1H t) (d2V t b) ∧ valB (ouL t b) = objB (d1H t) (d2V t b) := by
 obtain ⟨h0, hc0, htk, h4, hs⟩ := mkF_zero hF
 have hf := fine_of h0
 have h1 := class_has hc0
 have hc := fine_class hf h1
 have hh : ∀ k, k < 19 → d1H t k = dH (clP t) k := by
  intro k hk
  unfold d1H upH
  cases e : cH t k
  ·rw [Bool.false_or]
  ·rw [Bool.true_or]
   unfold cH at e
   simp only [Bool.and_eq_true, decide_eq_true_iff] at e
   unfold dH
   rw [decide_eq_true e.1, (tk_has htk e.2).1]; rfl
 have hv : ∀ k, k < 19 → d1H t k = true → ouV t b k = d2V t b k := fun k hk e => ou_eq b hc htk h1 h4 hk (by rw [← hh k hk]; exact e)
 have hn : ∀ k, k < 19 → d1H t k = false → d2V t b k = [] := by
  intro k hk e
  have e2 := e
  rw [hh k hk] at e2
  have h10 : ¬(10 ≤ k ∧ k ≤ 12) ∨ clP t % 2 ≠ 0 := by
   by_cases a : 10 ≤ k ∧ k ≤ 12
   ·right
    intro ev
    unfold dH belB at e2
    rcases c14 hc with x | x | x | x <;> rw [x] at e2 ev <;> simp at e2 ev <;> omega
   ·exact .inl a
  rw [d2V_ne t b h10]
  unfold d1H upH at e
  rw [Bool.or_eq_false_iff] at e
  unfold d1V upV
  rw [e.1, if_neg (by decide)]
  unfold d0V
  rw [if_neg ?_]
  rintro ⟨x, y⟩
  unfold dH at e2
  rw [x, decide_eq_true (by omega)] at e2
  cases e2
 have hE : ouL t b = atL (d1H t) (d2V t b) := by
  unfold ouL
  rw [kd_filter hc, List.map_map, ← List.filter_congr (fun k hk => hh k (List.mem_range.1 hk))]
  unfold atL atP
  refine List.map_congr_left fun k hk => ?_
  show at_ (k : Int) (ouV t b k) = _
  rw [hv k (List.mem_range.1 (List.mem_filter.1 hk).1) (List.mem_filter.1 hk).2]
 refine ⟨hE, ?_⟩
 rw [hE]
 refine at_valB ?_ ?_ ?_ hn
 ·intro k hk
  cases e : d1H t k
  ·rw [hn k hk e]
   exact ⟨by decide, fun x hx => by cases hx⟩
  ·rw [← hv k hk e]
   exact ou_ok ht b k
 ·rw [hh 0 (by decide)]; rfl
 ·intro k hk e
  rw [← hv k hk e]
  unfold ouV
  by_cases hk2 : has k t = true
  ·rw [if_pos hk2]
   obtain ⟨i, hi, e1, e2⟩ := has_get hk2
   have := hf.fit i hi
   rw [e1] at this
   rw [e2]; exact this
  ·rw [if_neg hk2]
   by_cases k23 : (k : Int) = 2 ∨ (k : Int) = 3
   ·unfold msL fitB
    rw [if_pos k23, if_neg (by omega), if_pos k23]; rfl
   ·obtain ⟨x, e3⟩ := ms_form t (clP t) b k23
    have k1 : (k : Int) ≠ 1 := by
     intro x; rw [x] at hk2; exact hk2 h1
    have k4 : (k : Int) ≠ 4 := by
     intro x; rw [x] at hk2; exact hk2 h4
    rw [e3]
    unfold fitB
    rw [if_neg k1, if_neg k23, if_neg k4]
    cases x <;> decide
theorem make_eq {t : List D} (ht : okl t) (b : Bool) : mkE t b = mdE t b ∧ sameB (mkL t b) (atL (mdH t b) (mdV t b)) = true := by
 have hnone : ∀ {h : Nat → Bool} {v : Nat → List Int}, (∀ k, h k = false) → atL h v = [] := by
  intro h v e
  unfold atL atP
  rw [List.filter_eq_nil_iff.2 (fun k _ => by rw [e k]; decide)]; rfl
 have e : mkE t b = mdE t b := by
  unfold mkE mdE
  by_cases hF : mkF t = 0
  ·have hn : ¬ mkF t ≠ 0 := fun h => h hF
   rw [if_neg hn, if_neg hn, (made ht b hF).2]
  ·rw [if_pos hF, if_pos hF]
 refine ⟨e, ?_⟩
 unfold mkL
 by_cases h0 : mdE t b = 0
 ·have hF : mkF t = 0 := by
   unfold mdE at h0
   by_cases hF : mkF t = 0
   ·exact hF
   ·rw [if_pos hF] at h0; exact h0
  rw [e, if_pos h0]
  have ea : atL (mdH t b) (mdV t b) = ouL t b := by
   rw [(made ht b hF).1]
   refine at_congr (fun k _ => ?_) (fun k _ _ => ?_)
   ·unfold mdH; rw [decide_eq_true h0, Bool.true_and]
   ·unfold mdV; rw [if_pos h0]
  rw [ea]
  exact (sameB_iff (ouL_ok ht b).1 (ouL_ok ht b).1).2 rfl
 ·rw [e, if_neg h0, hnone (fun k => by unfold mdH; rw [decide_eq_false h0, Bool.false_and])]
  rfl
end Go.Proofs.Ytfbaghocbipbiaa
