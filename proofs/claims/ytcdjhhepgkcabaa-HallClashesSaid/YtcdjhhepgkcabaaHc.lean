import Derived.Test.YtcdjhhepgkcabaaVgU
import Derived.Test.YtcdjhhepgkcabaaTab
/- HallClashes: what Clash and Work compute, and the law. -/
namespace Go.Proofs.Ytcdjhhepgkcabaa
open Go Go.Vg

def isW (k : Int) : Bool := decide (2 ≤ k) && decide (k ≤ 7)
def clash (k s k' s' : Int) : Bool := isW k || isW k' || (decide (s = s') && (decide (k ≠ 1) && decide (k' ≠ 1)))
def work (n : Nat) : Int := ((1 + min (n / 64) 8 : Nat) : Int)

abbrev cl (k s x y z : Int) (m b c : List Int) (l : List D) : D :=
  .st [.val (.int .i64 k), .val (.int .i64 s), .val (.int .i64 x), .val (.int .i64 y), .val (.int .i64 z), .arr .u8 16 m, .ints .u8 b, .ints .u8 c, .slc 2 l]
def isCl (d : D) : Prop := ∃ k s x y z m b c l, d = cl k s x y z m b c l ∧ b.length ≤ 9223372036854775807
def cK (d : D) : Int := numOf (fldOf d 0)
def cS (d : D) : Int := numOf (fldOf d 1)
def cB (d : D) : Nat := (intsOf (fldOf d 6)).length

def sp58 : Go.Vg.Spec := ⟨fun ds => ∃ k, ds = [i64 k], fun ds => bl (isW (numOf (ds.headD default))), true, [3]⟩
def sp59 : Go.Vg.Spec := ⟨fun ds => ∃ d, ds = [d] ∧ isCl d, fun ds => bl (isW (cK (ds.headD default))), true, [31]⟩
def sp11 : Go.Vg.Spec := ⟨fun ds => ∃ d e, ds = [d, e] ∧ isCl d ∧ isCl e, fun ds => bl (clash (cK (ds.headD default)) (cS (ds.headD default)) (cK (ds.getD 1 default)) (cS (ds.getD 1 default))), true, [31, 31]⟩
def sp13 : Go.Vg.Spec := ⟨fun ds => ∃ d, ds = [d] ∧ isCl d, fun ds => i64 (work (cB (ds.headD default))), true, [31]⟩

def c0 : Ctx := ⟨tab, fun _ => none, [], []⟩
def c11 : Ctx := ⟨tab, lkS [(58, sp58)], [], []⟩
def c12 : Ctx := ⟨tab, lkS [(59, sp59)], [], []⟩
def c4 : Ctx := ⟨tab, lkS [(11, sp11), (12, sp11), (13, sp13), (14, sp13)], [], []⟩
def inv14 (n : Nat) : Nat → Option Inv
  | 3 => some ⟨Nat, fun i => [(4, .d (.val (.int .i64 (64 * (i : Int) + 64)))), (3, .d (.val (.int .i64 ((i : Int) + 1))))], fun _ => [], fun s => (slotN s 3 - 1).toNat, fun _ i => i ≤ 8 ∧ i ≤ n / 64, fun i => 9 - i⟩
  | _ => none
--KEEP isW clash work isCl Go.Vg.eqB
set_option maxRecDepth 100000 in
theorem vc58  (k : Int) (F : D)  :
    (owed c0 (fun _ => none) Try.f58 [i64 k] F) = (
 True ∧
   True ∧
    True ∧
     True ∧
      match k == (2 : Int) with
      | true =>
       match k == (2 : Int) with
       | true => True ∧ (false = false ∧ True) ∧ D.val (Value.bool true) = F
       | false => True ∧ (false = false ∧ True) ∧ D.val (Value.bool false) = F
      | false =>
       True ∧
        True ∧
         match k == (3 : Int) with
         | true =>
          match k == (3 : Int) with
          | true => True ∧ (false = false ∧ True) ∧ D.val (Value.bool true) = F
          | false => True ∧ (false = false ∧ True) ∧ D.val (Value.bool false) = F
         | false =>
          True ∧
           True ∧
            match k == (4 : Int) with
            | true =>
             match k == (4 : Int) with
             | true => True ∧ (false = false ∧ True) ∧ D.val (Value.bool true) = F
             | false => True ∧ (false = false ∧ True) ∧ D.val (Value.bool false) = F
            | false =>
             True ∧
              True ∧
               match k == (5 : Int) with
               | true =>
                match k == (5 : Int) with
                | true => True ∧ (false = false ∧ True) ∧ D.val (Value.bool true) = F
                | false => True ∧ (false = false ∧ True) ∧ D.val (Value.bool false) = F
               | false =>
                True ∧
                 True ∧
                  match k == (6 : Int) with
                  | true =>
                   match k == (6 : Int) with
                   | true => True ∧ (false = false ∧ True) ∧ D.val (Value.bool true) = F
                   | false => True ∧ (false = false ∧ True) ∧ D.val (Value.bool false) = F
                  | false =>
                   True ∧
                    True ∧
                     match k == (7 : Int) with
                     | true => True ∧ (false = false ∧ True) ∧ D.val (Value.bool true) = F
                     | false => True ∧ (false = false ∧ True) ∧ D.val (Value.bool false) = F) := by kernel_rfl
set_option maxRecDepth 100000 in
theorem vc59  (k s x y z : Int) (m b c : List Int) (l : List D) (F : D)  :
    (owed c0 (fun _ => none) Try.f59 [cl k s x y z m b c l] F) = (
 (True ∧ false = false) ∧
   True ∧
    (Sk.st [Sk.one, Sk.one, Sk.one, Sk.one, Sk.one, Sk.arr (16 : Nat), Sk.one, Sk.one, Sk.one] = Sk.st [Sk.one, Sk.one, Sk.one, Sk.one, Sk.one, Sk.arr (16 : Nat), Sk.one, Sk.one, Sk.one] ∧ (0 : Nat) < (9 : Nat)) ∧
     ((1 : Nat) ≠ (0 : Nat) ∧ (1 : Nat) = (1 : Nat) ∧ false = false) ∧
      True ∧
       True ∧
        match decide (k ≥ (2 : Int)) with
        | true => (Sk.st [Sk.one, Sk.one, Sk.one, Sk.one, Sk.one, Sk.arr (16 : Nat), Sk.one, Sk.one, Sk.one] = Sk.st [Sk.one, Sk.one, Sk.one, Sk.one, Sk.one, Sk.arr (16 : Nat), Sk.one, Sk.one, Sk.one] ∧ (0 : Nat) < (9 : Nat)) ∧ ((1 : Nat) ≠ (0 : Nat) ∧ (1 : Nat) = (1 : Nat) ∧ false = false) ∧ True ∧ True ∧ True ∧ (false = false ∧ True) ∧ D.val (Value.bool (decide (k ≤ (7 : Int)))) = F
        | false => True ∧ True ∧ (false = false ∧ True) ∧ D.val (Value.bool false) = F) := by kernel_rfl
set_option maxRecDepth 100000 in
theorem vc11  (k s x y z : Int) (m b c : List Int) (l : List D) (k' s' x' y' z' : Int) (m' b' c' : List Int) (l' : List D) (F : D)  :
    (owed c11 (fun _ => none) Try.f11 [cl k s x y z m b c l, cl k' s' x' y' z' m' b' c' l'] F) = (
 (True ∧ false = false) ∧
   (True ∧ false = false) ∧
    True ∧
     (Sk.st [Sk.one, Sk.one, Sk.one, Sk.one, Sk.one, Sk.arr (16 : Nat), Sk.one, Sk.one, Sk.one] = Sk.st [Sk.one, Sk.one, Sk.one, Sk.one, Sk.one, Sk.arr (16 : Nat), Sk.one, Sk.one, Sk.one] ∧ (0 : Nat) < (9 : Nat)) ∧
      ((1 : Nat) ≠ (0 : Nat) ∧ (1 : Nat) = (1 : Nat) ∧ false = false) ∧
       (∃ (k_1 : Int), [D.val (Value.int IntKind.i64 k)] = [D.val (Value.int IntKind.i64 k_1)]) ∧
        True ∧
         match isW k with
         | true => True ∧ True ∧ (false = false ∧ True) ∧ D.val (Value.bool true) = F
         | false =>
          (Sk.st [Sk.one, Sk.one, Sk.one, Sk.one, Sk.one, Sk.arr (16 : Nat), Sk.one, Sk.one, Sk.one] = Sk.st [Sk.one, Sk.one, Sk.one, Sk.one, Sk.one, Sk.arr (16 : Nat), Sk.one, Sk.one, Sk.one] ∧ (0 : Nat) < (9 : Nat)) ∧
           ((1 : Nat) ≠ (0 : Nat) ∧ (1 : Nat) = (1 : Nat) ∧ false = false) ∧
            (∃ (k : Int), [D.val (Value.int IntKind.i64 k')] = [D.val (Value.int IntKind.i64 k)]) ∧
             True ∧
              match isW k' with
              | true => True ∧ (false = false ∧ True) ∧ D.val (Value.bool true) = F
              | false =>
               (Sk.st [Sk.one, Sk.one, Sk.one, Sk.one, Sk.one, Sk.arr (16 : Nat), Sk.one, Sk.one, Sk.one] = Sk.st [Sk.one, Sk.one, Sk.one, Sk.one, Sk.one, Sk.arr (16 : Nat), Sk.one, Sk.one, Sk.one] ∧ (0 : Nat) < (9 : Nat)) ∧
                ((1 : Nat) ≠ (0 : Nat) ∧ (1 : Nat) = (1 : Nat) ∧ false = false) ∧
                 True ∧
                  True ∧
                   match k != (1 : Int) with
                   | true =>
                    (Sk.st [Sk.one, Sk.one, Sk.one, Sk.one, Sk.one, Sk.arr (16 : Nat), Sk.one, Sk.one, Sk.one] = Sk.st [Sk.one, Sk.one, Sk.one, Sk.one, Sk.one, Sk.arr (16 : Nat), Sk.one, Sk.one, Sk.one] ∧ (0 : Nat) < (9 : Nat)) ∧
                     ((1 : Nat) ≠ (0 : Nat) ∧ (1 : Nat) = (1 : Nat) ∧ false = false) ∧
                      True ∧
                       True ∧
                        True ∧
                         match k' != (1 : Int) with
                         | true =>
                          (Sk.st [Sk.one, Sk.one, Sk.one, Sk.one, Sk.one, Sk.arr (16 : Nat), Sk.one, Sk.one, Sk.one] = Sk.st [Sk.one, Sk.one, Sk.one, Sk.one, Sk.one, Sk.arr (16 : Nat), Sk.one, Sk.one, Sk.one] ∧ (1 : Nat) < (9 : Nat)) ∧
                           ((1 : Nat) ≠ (0 : Nat) ∧ (1 : Nat) = (1 : Nat) ∧ false = false) ∧
                            (Sk.st [Sk.one, Sk.one, Sk.one, Sk.one, Sk.one, Sk.arr (16 : Nat), Sk.one, Sk.one, Sk.one] = Sk.st [Sk.one, Sk.one, Sk.one, Sk.one, Sk.one, Sk.arr (16 : Nat), Sk.one, Sk.one, Sk.one] ∧ (1 : Nat) < (9 : Nat)) ∧
                             ((1 : Nat) ≠ (0 : Nat) ∧ (1 : Nat) = (1 : Nat) ∧ false = false) ∧ True ∧ True ∧ True ∧ (false = false ∧ True) ∧ D.val (Value.bool (s == s')) = F
                         | false => True ∧ True ∧ (false = false ∧ True) ∧ D.val (Value.bool false) = F
                   | false => True ∧ True ∧ True ∧ True ∧ (false = false ∧ True) ∧ D.val (Value.bool false) = F) := by kernel_rfl
set_option maxRecDepth 100000 in
theorem vc12  (k s x y z : Int) (m b c : List Int) (l : List D) (k' s' x' y' z' : Int) (m' b' c' : List Int) (l' : List D) (F : D)  :
    (owed c12 (fun _ => none) Try.f12 [cl k s x y z m b c l, cl k' s' x' y' z' m' b' c' l'] F) = (
 (True ∧ false = false) ∧
   (True ∧ false = false) ∧
    True ∧
     True ∧
      True ∧
       ((24 : Nat) ≠ (0 : Nat) ∧ (24 : Nat) = (24 : Nat) ∧ true = true) ∧
        (∃ (d : D), [D.st [D.val (Value.int IntKind.i64 k), D.val (Value.int IntKind.i64 s), D.val (Value.int IntKind.i64 x), D.val (Value.int IntKind.i64 y), D.val (Value.int IntKind.i64 z), D.arr IntKind.u8 (16 : Nat) m, D.ints IntKind.u8 b, D.ints IntKind.u8 c, D.slc (2 : Nat) l]] = [d] ∧ isCl d) ∧
         True ∧
          match isW k with
          | true => True ∧ True ∧ True ∧ True ∧ (false = false ∧ True) ∧ D.val (Value.bool true) = F
          | false =>
           True ∧
            ((24 : Nat) ≠ (0 : Nat) ∧ (24 : Nat) = (24 : Nat) ∧ true = true) ∧
             (∃ (d : D), [D.st [D.val (Value.int IntKind.i64 k'), D.val (Value.int IntKind.i64 s'), D.val (Value.int IntKind.i64 x'), D.val (Value.int IntKind.i64 y'), D.val (Value.int IntKind.i64 z'), D.arr IntKind.u8 (16 : Nat) m', D.ints IntKind.u8 b', D.ints IntKind.u8 c', D.slc (2 : Nat) l']] = [d] ∧ isCl d) ∧
              True ∧
               True ∧
                match isW k' with
                | true => True ∧ True ∧ (false = false ∧ True) ∧ D.val (Value.bool true) = F
                | false =>
                 (Sk.st [Sk.one, Sk.one, Sk.one, Sk.one, Sk.one, Sk.arr (16 : Nat), Sk.one, Sk.one, Sk.one] = Sk.st [Sk.one, Sk.one, Sk.one, Sk.one, Sk.one, Sk.arr (16 : Nat), Sk.one, Sk.one, Sk.one] ∧ (1 : Nat) < (9 : Nat)) ∧
                  ((1 : Nat) ≠ (0 : Nat) ∧ (1 : Nat) = (1 : Nat) ∧ false = false) ∧
                   (Sk.st [Sk.one, Sk.one, Sk.one, Sk.one, Sk.one, Sk.arr (16 : Nat), Sk.one, Sk.one, Sk.one] = Sk.st [Sk.one, Sk.one, Sk.one, Sk.one, Sk.one, Sk.arr (16 : Nat), Sk.one, Sk.one, Sk.one] ∧ (1 : Nat) < (9 : Nat)) ∧
                    ((1 : Nat) ≠ (0 : Nat) ∧ (1 : Nat) = (1 : Nat) ∧ false = false) ∧
                     True ∧
                      True ∧
                       match s == s' with
                       | true =>
                        (Sk.st [Sk.one, Sk.one, Sk.one, Sk.one, Sk.one, Sk.arr (16 : Nat), Sk.one, Sk.one, Sk.one] = Sk.st [Sk.one, Sk.one, Sk.one, Sk.one, Sk.one, Sk.arr (16 : Nat), Sk.one, Sk.one, Sk.one] ∧ (0 : Nat) < (9 : Nat)) ∧
                         ((1 : Nat) ≠ (0 : Nat) ∧ (1 : Nat) = (1 : Nat) ∧ false = false) ∧
                          True ∧
                           True ∧
                            True ∧
                             match k != (1 : Int) with
                             | true =>
                              (Sk.st [Sk.one, Sk.one, Sk.one, Sk.one, Sk.one, Sk.arr (16 : Nat), Sk.one, Sk.one, Sk.one] = Sk.st [Sk.one, Sk.one, Sk.one, Sk.one, Sk.one, Sk.arr (16 : Nat), Sk.one, Sk.one, Sk.one] ∧ (0 : Nat) < (9 : Nat)) ∧
                               ((1 : Nat) ≠ (0 : Nat) ∧ (1 : Nat) = (1 : Nat) ∧ false = false) ∧ True ∧ True ∧ True ∧ True ∧ (false = false ∧ True) ∧ D.val (Value.bool (k' != (1 : Int))) = F
                             | false => True ∧ True ∧ True ∧ (false = false ∧ True) ∧ D.val (Value.bool false) = F
                       | false => True ∧ True ∧ True ∧ True ∧ True ∧ (false = false ∧ True) ∧ D.val (Value.bool false) = F) := by kernel_rfl
set_option maxRecDepth 100000 in
theorem vc13  (k s x y z : Int) (m b c : List Int) (l : List D) (F : D)  :
    (owed c0 (fun _ => none) Try.f13 [cl k s x y z m b c l] F) = (
 (True ∧ false = false) ∧
   True ∧
    (Sk.st [Sk.one, Sk.one, Sk.one, Sk.one, Sk.one, Sk.arr (16 : Nat), Sk.one, Sk.one, Sk.one] = Sk.st [Sk.one, Sk.one, Sk.one, Sk.one, Sk.one, Sk.arr (16 : Nat), Sk.one, Sk.one, Sk.one] ∧ (6 : Nat) < (9 : Nat)) ∧
     ((1 : Nat) ≠ (0 : Nat) ∧ (1 : Nat) = (1 : Nat) ∧ false = false) ∧ True ∧ (64 : Int) ≠ (0 : Int) ∧ IntKind.i64 = IntKind.i64 ∧ True ∧ True ∧ (false = false ∧ True) ∧ D.val (Value.int IntKind.i64 (IntKind.i64.wrap ((1 : Int) + bif decide ((8 : Int) < IntKind.i64.wrap ((↑b.length : Int).tdiv (64 : Int))) then (8 : Int) else IntKind.i64.wrap ((↑b.length : Int).tdiv (64 : Int))))) = F) := by kernel_rfl
set_option maxRecDepth 100000 in
theorem vc14  (k s x y z : Int) (m b c : List Int) (l : List D) (F : D)  :
    (owed c0 (inv14 b.length) Try.f14 [cl k s x y z m b c l] F) = (
 (True ∧ false = false) ∧
   True ∧
    True ∧
     True ∧
      (((AV.d (D.val (Value.int IntKind.i64 (64 : Int))) = AV.d (D.val (Value.int IntKind.i64 ((64 : Int) * (↑((1 : Int) - (1 : Int)).toNat : Int) + (64 : Int)))) ∧ AV.d (D.val (Value.int IntKind.i64 (1 : Int))) = AV.d (D.val (Value.int IntKind.i64 ((↑((1 : Int) - (1 : Int)).toNat : Int) + (1 : Int)))) ∧ True) ∧
         (some (Blk.fix (D.st [D.val (Value.int IntKind.i64 k), D.val (Value.int IntKind.i64 s), D.val (Value.int IntKind.i64 x), D.val (Value.int IntKind.i64 y), D.val (Value.int IntKind.i64 z), D.arr IntKind.u8 (16 : Nat) m, D.ints IntKind.u8 b, D.ints IntKind.u8 c, D.slc (2 : Nat) l])) =
            some (Blk.fix (D.st [D.val (Value.int IntKind.i64 k), D.val (Value.int IntKind.i64 s), D.val (Value.int IntKind.i64 x), D.val (Value.int IntKind.i64 y), D.val (Value.int IntKind.i64 z), D.arr IntKind.u8 (16 : Nat) m, D.ints IntKind.u8 b, D.ints IntKind.u8 c, D.slc (2 : Nat) l])) ∧
           True) ∧
          true = true) ∧
        ((1 : Int) - (1 : Int)).toNat ≤ (8 : Nat) ∧ ((1 : Int) - (1 : Int)).toNat ≤ b.length / (64 : Nat)) ∧
       ∀ (x_1 : Nat),
        x_1 ≤ (8 : Nat) ∧ x_1 ≤ b.length / (64 : Nat) →
         true = true ∧
          True ∧
           (Sk.st [Sk.one, Sk.one, Sk.one, Sk.one, Sk.one, Sk.arr (16 : Nat), Sk.one, Sk.one, Sk.one] = Sk.st [Sk.one, Sk.one, Sk.one, Sk.one, Sk.one, Sk.arr (16 : Nat), Sk.one, Sk.one, Sk.one] ∧ (6 : Nat) < (9 : Nat)) ∧
            ((1 : Nat) ≠ (0 : Nat) ∧ (1 : Nat) = (1 : Nat) ∧ false = false) ∧
             True ∧
              True ∧
               True ∧
                match decide ((64 : Int) * (↑x_1 : Int) + (64 : Int) ≤ (↑b.length : Int)) with
                | true =>
                 True ∧
                  True ∧
                   True ∧
                    match decide ((↑x_1 : Int) + (1 : Int) < (9 : Int)) with
                    | true =>
                     True ∧
                      True ∧
                       True ∧
                        True ∧
                         True ∧
                          True ∧
                           ((AV.d (D.val (Value.int IntKind.i64 (IntKind.i64.wrap ((64 : Int) * (↑x_1 : Int) + (64 : Int) + (64 : Int))))) = AV.d (D.val (Value.int IntKind.i64 ((64 : Int) * (↑(IntKind.i64.wrap ((↑x_1 : Int) + (1 : Int) + (1 : Int)) - (1 : Int)).toNat : Int) + (64 : Int)))) ∧
                              AV.d (D.val (Value.int IntKind.i64 (IntKind.i64.wrap ((↑x_1 : Int) + (1 : Int) + (1 : Int))))) = AV.d (D.val (Value.int IntKind.i64 ((↑(IntKind.i64.wrap ((↑x_1 : Int) + (1 : Int) + (1 : Int)) - (1 : Int)).toNat : Int) + (1 : Int)))) ∧ True) ∧
                             (some (Blk.fix (D.st [D.val (Value.int IntKind.i64 k), D.val (Value.int IntKind.i64 s), D.val (Value.int IntKind.i64 x), D.val (Value.int IntKind.i64 y), D.val (Value.int IntKind.i64 z), D.arr IntKind.u8 (16 : Nat) m, D.ints IntKind.u8 b, D.ints IntKind.u8 c, D.slc (2 : Nat) l])) =
                                some (Blk.fix (D.st [D.val (Value.int IntKind.i64 k), D.val (Value.int IntKind.i64 s), D.val (Value.int IntKind.i64 x), D.val (Value.int IntKind.i64 y), D.val (Value.int IntKind.i64 z), D.arr IntKind.u8 (16 : Nat) m, D.ints IntKind.u8 b, D.ints IntKind.u8 c, D.slc (2 : Nat) l])) ∧
                               True) ∧
                              true = true) ∧
                            ((IntKind.i64.wrap ((↑x_1 : Int) + (1 : Int) + (1 : Int)) - (1 : Int)).toNat ≤ (8 : Nat) ∧ (IntKind.i64.wrap ((↑x_1 : Int) + (1 : Int) + (1 : Int)) - (1 : Int)).toNat ≤ b.length / (64 : Nat)) ∧ (9 : Nat) - (IntKind.i64.wrap ((↑x_1 : Int) + (1 : Int) + (1 : Int)) - (1 : Int)).toNat < (9 : Nat) - x_1
                    | false => True ∧ True ∧ (false = false ∧ True) ∧ D.val (Value.int IntKind.i64 ((↑x_1 : Int) + (1 : Int))) = F
                | false => True ∧ True ∧ True ∧ (false = false ∧ True) ∧ D.val (Value.int IntKind.i64 ((↑x_1 : Int) + (1 : Int))) = F) := by kernel_rfl
set_option maxRecDepth 100000 in
theorem vc4  (k s x y z : Int) (m b c : List Int) (l : List D) (k' s' x' y' z' : Int) (m' b' c' : List Int) (l' : List D) (F : D)  :
    (owed c4 (fun _ => none) Try.f4 [cl k s x y z m b c l, cl k' s' x' y' z' m' b' c' l'] F) = (
 (True ∧ false = false) ∧
   (True ∧ false = false) ∧
    True ∧
     ((24 : Nat) ≠ (0 : Nat) ∧ (24 : Nat) = (24 : Nat) ∧ true = true) ∧
      ((24 : Nat) ≠ (0 : Nat) ∧ (24 : Nat) = (24 : Nat) ∧ true = true) ∧
       (∃ (d : D),
         ∃ (e : D),
          [D.st [D.val (Value.int IntKind.i64 k), D.val (Value.int IntKind.i64 s), D.val (Value.int IntKind.i64 x), D.val (Value.int IntKind.i64 y), D.val (Value.int IntKind.i64 z), D.arr IntKind.u8 (16 : Nat) m, D.ints IntKind.u8 b, D.ints IntKind.u8 c, D.slc (2 : Nat) l],
             D.st [D.val (Value.int IntKind.i64 k'), D.val (Value.int IntKind.i64 s'), D.val (Value.int IntKind.i64 x'), D.val (Value.int IntKind.i64 y'), D.val (Value.int IntKind.i64 z'), D.arr IntKind.u8 (16 : Nat) m', D.ints IntKind.u8 b', D.ints IntKind.u8 c', D.slc (2 : Nat) l']] =
            [d, e] ∧
           isCl d ∧ isCl e) ∧
        ((24 : Nat) ≠ (0 : Nat) ∧ (24 : Nat) = (24 : Nat) ∧ true = true) ∧
         ((24 : Nat) ≠ (0 : Nat) ∧ (24 : Nat) = (24 : Nat) ∧ true = true) ∧
          (∃ (d : D),
            ∃ (e : D),
             [D.st [D.val (Value.int IntKind.i64 k), D.val (Value.int IntKind.i64 s), D.val (Value.int IntKind.i64 x), D.val (Value.int IntKind.i64 y), D.val (Value.int IntKind.i64 z), D.arr IntKind.u8 (16 : Nat) m, D.ints IntKind.u8 b, D.ints IntKind.u8 c, D.slc (2 : Nat) l],
                D.st [D.val (Value.int IntKind.i64 k'), D.val (Value.int IntKind.i64 s'), D.val (Value.int IntKind.i64 x'), D.val (Value.int IntKind.i64 y'), D.val (Value.int IntKind.i64 z'), D.arr IntKind.u8 (16 : Nat) m', D.ints IntKind.u8 b', D.ints IntKind.u8 c', D.slc (2 : Nat) l']] =
               [d, e] ∧
              isCl d ∧ isCl e) ∧
           True ∧
            True ∧
             match clash k s k' s' == clash k s k' s' with
             | true =>
              ((24 : Nat) ≠ (0 : Nat) ∧ (24 : Nat) = (24 : Nat) ∧ true = true) ∧
               (∃ (d : D), [D.st [D.val (Value.int IntKind.i64 k), D.val (Value.int IntKind.i64 s), D.val (Value.int IntKind.i64 x), D.val (Value.int IntKind.i64 y), D.val (Value.int IntKind.i64 z), D.arr IntKind.u8 (16 : Nat) m, D.ints IntKind.u8 b, D.ints IntKind.u8 c, D.slc (2 : Nat) l]] = [d] ∧ isCl d) ∧
                ((24 : Nat) ≠ (0 : Nat) ∧ (24 : Nat) = (24 : Nat) ∧ true = true) ∧
                 (∃ (d : D), [D.st [D.val (Value.int IntKind.i64 k), D.val (Value.int IntKind.i64 s), D.val (Value.int IntKind.i64 x), D.val (Value.int IntKind.i64 y), D.val (Value.int IntKind.i64 z), D.arr IntKind.u8 (16 : Nat) m, D.ints IntKind.u8 b, D.ints IntKind.u8 c, D.slc (2 : Nat) l]] = [d] ∧ isCl d) ∧
                  True ∧ True ∧ True ∧ (false = false ∧ True) ∧ D.val (Value.bool (work b.length == work b.length)) = F
             | false => True ∧ True ∧ (false = false ∧ True) ∧ D.val (Value.bool false) = F) := by kernel_rfl
set_option maxRecDepth 100000 in
theorem ok31  (d : D)  :
    (OkT tab 8 31 d) = (
 ∃ (ds : List D), d = D.st ds ∧ OkL (OkT tab (7 : Nat)) [((0 : Nat), (3 : TypeId)), ((1 : Nat), (3 : TypeId)), ((2 : Nat), (3 : TypeId)), ((3 : Nat), (3 : TypeId)), ((4 : Nat), (3 : TypeId)), ((5 : Nat), (27 : TypeId)), ((21 : Nat), (28 : TypeId)), ((22 : Nat), (28 : TypeId)), ((23 : Nat), (29 : TypeId))] ds) := by kernel_rfl
set_option maxRecDepth 100000 in
theorem okl31  (ds : List D)  :
    (OkL (OkT tab (7 : Nat)) [((0 : Nat), (3 : TypeId)), ((1 : Nat), (3 : TypeId)), ((2 : Nat), (3 : TypeId)), ((3 : Nat), (3 : TypeId)), ((4 : Nat), (3 : TypeId)), ((5 : Nat), (27 : TypeId)), ((21 : Nat), (28 : TypeId)), ((22 : Nat), (28 : TypeId)), ((23 : Nat), (29 : TypeId))] ds) = (
 OkL (OkT tab (7 : Nat)) [((0 : Nat), (3 : TypeId)), ((1 : Nat), (3 : TypeId)), ((2 : Nat), (3 : TypeId)), ((3 : Nat), (3 : TypeId)), ((4 : Nat), (3 : TypeId)), ((5 : Nat), (27 : TypeId)), ((21 : Nat), (28 : TypeId)), ((22 : Nat), (28 : TypeId)), ((23 : Nat), (29 : TypeId))] ds) := by kernel_rfl
set_option maxRecDepth 100000 in
theorem ok3  (d : D)  :
    (OkT tab 7 3 d) = (
 ∃ (z : Int), d = D.val (Value.int IntKind.i64 z) ∧ -(2 : Int) ^ (63 : Nat) ≤ z ∧ z ≤ IntKind.i64.max) := by kernel_rfl
set_option maxRecDepth 100000 in
theorem ok27  (d : D)  :
    (OkT tab 7 27 d) = (
 ∃ (l : List Int), d = D.arr IntKind.u8 (16 : Nat) l ∧ l.length = (16 : Nat) ∧ ∀ (z : Int), z ∈ l → (0 : Int) ≤ z ∧ z ≤ IntKind.u8.max) := by kernel_rfl
set_option maxRecDepth 100000 in
theorem ok28  (d : D)  :
    (OkT tab 7 28 d) = (
 ∃ (l : List Int), d = D.ints IntKind.u8 l ∧ (∀ (z : Int), z ∈ l → (0 : Int) ≤ z ∧ z ≤ IntKind.u8.max) ∧ l.length ≤ (9223372036854775807 : Nat)) := by kernel_rfl
set_option maxRecDepth 100000 in
theorem ok29  (d : D)  :
    (OkT tab 7 29 d) = (
 ∃ (xs : List D), d = D.slc (2 : Nat) xs ∧ (∀ (y : D), y ∈ xs → ∃ (ds : List D), y = D.st ds ∧ OkL (OkT tab (5 : Nat)) [((0 : Nat), (3 : TypeId)), ((1 : Nat), (28 : TypeId))] ds) ∧ xs.length ≤ (9223372036854775807 : Nat)) := by kernel_rfl

theorem fin58 {k : Int} {b : Bool} (h : b = isW k) : D.val (Value.bool b) = bl (isW k) := by rw [h]
set_option maxRecDepth 100000 in
theorem m58 : Meets Try.prog 58 sp58 := by
  refine meets_of_owed (C := c0) ⟨tab_ok, fun f s h => by cases h⟩ (by kernel_rfl) (by kernel_rfl : Try.prog.funcs[58]? = some Try.f58) (by kernel_rfl) (by kernel_rfl) (by kernel_rfl) _ ?_
  rintro _ ⟨k, rfl⟩
  refine ⟨fun _ => rfl, fun _ => none, ?_⟩
  show owed c0 (fun _ => none) Try.f58 [i64 k] (bl (isW k))
  rw [vc58]
  simp (decide := true) only [eq_self, true_and, and_true, ne_eq, not_false_eq_true]
  repeat' split
  all_goals
    refine fin58 ?_
    simp only [beq_iff_eq, beq_eq_false_iff_ne, ne_eq] at *
    unfold isW
    first
      | (exfalso; contradiction)
      | (subst_vars; rfl)
      | (exfalso; omega)
      | (symm; rw [Bool.and_eq_false_iff, decide_eq_false_iff_not, decide_eq_false_iff_not]; omega)

set_option maxRecDepth 100000 in
theorem m59 : Meets Try.prog 59 sp59 := by
  refine meets_of_owed (C := c0) ⟨tab_ok, fun f s h => by cases h⟩ (by kernel_rfl) (by kernel_rfl : Try.prog.funcs[59]? = some Try.f59) (by kernel_rfl) (by kernel_rfl) (by kernel_rfl) _ ?_
  rintro _ ⟨d, rfl, k, s, x, y, z, m, b, c, l, rfl, hb⟩
  refine ⟨fun _ => rfl, fun _ => none, ?_⟩
  show owed c0 (fun _ => none) Try.f59 [cl k s x y z m b c l] (bl (isW k))
  rw [vc59]
  simp (decide := true) only [eq_self, true_and, and_true, ne_eq, not_false_eq_true]
  split
  · rename_i h
    rw [isW, show decide (2 ≤ k) = true from h, Bool.true_and]
  · rename_i h
    rw [isW, show decide (2 ≤ k) = false from h, Bool.false_and]

theorem isCl_mk {k s x y z : Int} {m b c : List Int} {l : List D} (h : b.length ≤ 9223372036854775807) : isCl (cl k s x y z m b c l) := ⟨k, s, x, y, z, m, b, c, l, rfl, h⟩

set_option maxRecDepth 100000 in
theorem m11 : Meets Try.prog 11 sp11 := by
  refine meets_of_owed (C := c11) ⟨tab_ok, lkS_ok ⟨m58, trivial⟩⟩ (by kernel_rfl) (by kernel_rfl : Try.prog.funcs[11]? = some Try.f11) (by kernel_rfl) (by kernel_rfl) (by kernel_rfl) _ ?_
  rintro _ ⟨d, e, rfl, ⟨k, s, x, y, z, m, b, c, l, rfl, hb⟩, k', s', x', y', z', m', b', c', l', rfl, hb'⟩
  refine ⟨fun _ => rfl, fun _ => none, ?_⟩
  show owed c11 (fun _ => none) Try.f11 [cl k s x y z m b c l, cl k' s' x' y' z' m' b' c' l'] (bl (clash k s k' s'))
  rw [vc11]
  simp (decide := true) only [eq_self, true_and, and_true, ne_eq, not_false_eq_true]
  refine ⟨⟨k, rfl⟩, ?_⟩
  unfold clash
  split
  · rename_i h
    rw [h]
    rfl
  · rename_i h
    refine ⟨⟨k', rfl⟩, ?_⟩
    rw [h]
    split
    · rename_i h2
      rw [h2]
      rfl
    · rename_i h2
      rw [h2]
      simp only [Bool.false_or]
      split
      · rename_i h3
        have h3 : k ≠ 1 := by simpa using h3
        split
        · rename_i h4
          have h4 : k' ≠ 1 := by simpa using h4
          rw [show decide (k ≠ 1) = true by simpa using h3, show decide (k' ≠ 1) = true by simpa using h4, Bool.and_true, Bool.and_true]
          rfl
        · rename_i h4
          have h4 : k' = 1 := by simpa using h4
          rw [h4]
          simp
      · rename_i h3
        have h3 : k = 1 := by simpa using h3
        rw [h3]
        simp

set_option maxRecDepth 100000 in
theorem m12 : Meets Try.prog 12 sp11 := by
  refine meets_of_owed (C := c12) ⟨tab_ok, lkS_ok ⟨m59, trivial⟩⟩ (by kernel_rfl) (by kernel_rfl : Try.prog.funcs[12]? = some Try.f12) (by kernel_rfl) (by kernel_rfl) (by kernel_rfl) _ ?_
  rintro _ ⟨d, e, rfl, ⟨k, s, x, y, z, m, b, c, l, rfl, hb⟩, k', s', x', y', z', m', b', c', l', rfl, hb'⟩
  refine ⟨fun _ => rfl, fun _ => none, ?_⟩
  show owed c12 (fun _ => none) Try.f12 [cl k s x y z m b c l, cl k' s' x' y' z' m' b' c' l'] (bl (clash k s k' s'))
  rw [vc12]
  simp (decide := true) only [eq_self, true_and, and_true, ne_eq, not_false_eq_true]
  refine ⟨⟨_, rfl, isCl_mk hb⟩, ?_⟩
  unfold clash
  split
  · rename_i h
    rw [h]
    rfl
  · rename_i h
    refine ⟨⟨_, rfl, isCl_mk hb'⟩, ?_⟩
    rw [h]
    split
    · rename_i h2
      rw [h2]
      rfl
    · rename_i h2
      rw [h2]
      simp only [Bool.false_or]
      split
      · rename_i h3
        have h3 : s = s' := by simpa using h3
        rw [show decide (s = s') = true by simpa using h3, Bool.true_and]
        split
        · rename_i h4
          have h4 : k ≠ 1 := by simpa using h4
          rw [show decide (k ≠ 1) = true by simpa using h4, Bool.true_and]
          congr 2
          simp only [bne, Bool.not_eq_eq_eq_not]
          by_cases h5 : k' = 1 <;> simp [h5]
        · rename_i h4
          have h4 : k = 1 := by simpa using h4
          rw [h4]
          simp
      · rename_i h3
        have h3 : s ≠ s' := by simpa using h3
        rw [show decide (s = s') = false by simpa using h3, Bool.false_and]

set_option maxRecDepth 100000 in
theorem m13 : Meets Try.prog 13 sp13 := by
  refine meets_of_owed (C := c0) ⟨tab_ok, fun f s h => by cases h⟩ (by kernel_rfl) (by kernel_rfl : Try.prog.funcs[13]? = some Try.f13) (by kernel_rfl) (by kernel_rfl) (by kernel_rfl) _ ?_
  rintro _ ⟨d, rfl, k, s, x, y, z, m, b, c, l, rfl, hb⟩
  refine ⟨fun _ => rfl, fun _ => none, ?_⟩
  show owed c0 (fun _ => none) Try.f13 [cl k s x y z m b c l] (i64 (work b.length))
  rw [vc13]
  simp (decide := true) only [eq_self, true_and, and_true, ne_eq, not_false_eq_true]
  have e : ((b.length : Int)).tdiv 64 = ((b.length / 64 : Nat) : Int) := tdivN _ 64
  rw [e, wNi (n := b.length / 64) (by omega)]
  unfold work
  by_cases h : 8 < b.length / 64
  · rw [show decide ((8 : Int) < ((b.length / 64 : Nat) : Int)) = true from decide_eq_true (by omega), cond_true, show min (b.length / 64) 8 = 8 by omega]
    rfl
  · rw [show decide ((8 : Int) < ((b.length / 64 : Nat) : Int)) = false from decide_eq_false (by omega), cond_false, show min (b.length / 64) 8 = b.length / 64 by omega, show (1 : Int) + ((b.length / 64 : Nat) : Int) = ((1 + b.length / 64 : Nat) : Int) by omega, wNi (by omega)]

set_option maxRecDepth 100000 in
theorem m14 : Meets Try.prog 14 sp13 := by
  refine meets_of_owed (C := c0) ⟨tab_ok, fun f s h => by cases h⟩ (by kernel_rfl) (by kernel_rfl : Try.prog.funcs[14]? = some Try.f14) (by kernel_rfl) (by kernel_rfl) (by kernel_rfl) _ ?_
  rintro _ ⟨d, rfl, k, s, x, y, z, m, b, c, l, rfl, hb⟩
  refine ⟨fun _ => rfl, inv14 b.length, ?_⟩
  show owed c0 (inv14 b.length) Try.f14 [cl k s x y z m b c l] (i64 (work b.length))
  rw [vc14]
  simp (decide := true) only [eq_self, true_and, and_true, ne_eq, not_false_eq_true]
  refine ⟨by and_intros <;> first | rfl | omega | trivial, ?_⟩
  rintro i ⟨hi, hi2⟩
  unfold work
  split
  · rename_i h
    have h := of_decide_eq_true h
    split
    · rename_i h2
      have h2 := of_decide_eq_true h2
      rw [show (64 : Int) * (i : Int) + 64 + 64 = ((64 * (i + 1) + 64 : Nat) : Int) by omega, wNi (n := 64 * (i + 1) + 64) (by omega), show (i : Int) + 1 + 1 = ((i + 2 : Nat) : Int) by omega, wNi (n := i + 2) (by omega), show ((i + 2 : Nat) : Int) - 1 = ((i + 1 : Nat) : Int) by omega]
      simp only [Int.toNat_natCast]
      and_intros <;> first | rfl | omega | trivial | (congr 4; omega)
    · rename_i h2
      have h2 := of_decide_eq_false h2
      congr 2
      omega
  · rename_i h
    have h := of_decide_eq_false h
    congr 2
    omega

theorem okl_cons {f : TypeId → D → Prop} {i : Nat} {t : TypeId} {ts : List (Nat × TypeId)} {ds : List D} (h : OkL f ((i, t) :: ts) ds) : ∃ d ds', ds = d :: ds' ∧ f t d ∧ OkL f ts ds' := by
  cases ds with
  | nil => exact h.elim
  | cons d ds => exact ⟨d, ds, rfl, h.1, h.2⟩
theorem okl_nil {f : TypeId → D → Prop} {ds : List D} (h : OkL f [] ds) : ds = [] := by
  cases ds with
  | nil => rfl
  | cons d ds => exact h.elim

theorem call_of {d : D} (h : OkT tab 8 31 d) : isCl d := by
  rw [ok31] at h
  obtain ⟨ds, rfl, h⟩ := h
  obtain ⟨a1, ds, rfl, h1, h⟩ := okl_cons h
  obtain ⟨a2, ds, rfl, h2, h⟩ := okl_cons h
  obtain ⟨a3, ds, rfl, h3, h⟩ := okl_cons h
  obtain ⟨a4, ds, rfl, h4, h⟩ := okl_cons h
  obtain ⟨a5, ds, rfl, h5, h⟩ := okl_cons h
  obtain ⟨a6, ds, rfl, h6, h⟩ := okl_cons h
  obtain ⟨a7, ds, rfl, h7, h⟩ := okl_cons h
  obtain ⟨a8, ds, rfl, h8, h⟩ := okl_cons h
  obtain ⟨a9, ds, rfl, h9, h⟩ := okl_cons h
  obtain rfl := okl_nil h
  rw [ok3] at h1 h2 h3 h4 h5
  rw [ok27] at h6
  rw [ok28] at h7 h8
  rw [ok29] at h9
  obtain ⟨k, rfl, _⟩ := h1
  obtain ⟨s, rfl, _⟩ := h2
  obtain ⟨x, rfl, _⟩ := h3
  obtain ⟨y, rfl, _⟩ := h4
  obtain ⟨z, rfl, _⟩ := h5
  obtain ⟨m, rfl, _⟩ := h6
  obtain ⟨b, rfl, _, hb⟩ := h7
  obtain ⟨c, rfl, _⟩ := h8
  obtain ⟨l, rfl, _⟩ := h9
  exact isCl_mk hb

set_option maxRecDepth 100000 in
theorem m4 : Meets Try.prog 4 (lawSpec tab Try.f4.params.toList) := by
  refine meets_of_owed (C := c4) ⟨tab_ok, lkS_ok ⟨m11, m12, m13, m14, trivial⟩⟩ (by kernel_rfl) (by kernel_rfl : Try.prog.funcs[4]? = some Try.f4) (by kernel_rfl) (by kernel_rfl) (by kernel_rfl) _ ?_
  intro ds hds
  obtain ⟨d, e, rfl, h1, h2⟩ : ∃ d e, ds = [d, e] ∧ isCl d ∧ isCl e := by
    match ds, hds with
    | [d, e], h => exact ⟨d, e, rfl, call_of h.1, call_of h.2.1⟩
  · obtain ⟨k, s, x, y, z, m, b, c, l, rfl, hb⟩ := h1
    obtain ⟨k', s', x', y', z', m', b', c', l', rfl, hb'⟩ := h2
    refine ⟨fun _ => rfl, fun _ => none, ?_⟩
    show owed c4 (fun _ => none) Try.f4 [cl k s x y z m b c l, cl k' s' x' y' z' m' b' c' l'] (bl true)
    rw [vc4]
    simp (decide := true) only [eq_self, true_and, and_true, ne_eq, not_false_eq_true, beq_self_eq_true]
    exact ⟨⟨_, _, rfl, isCl_mk hb, isCl_mk hb'⟩, ⟨_, _, rfl, isCl_mk hb, isCl_mk hb'⟩, ⟨_, rfl, isCl_mk hb⟩, ⟨_, rfl, isCl_mk hb⟩⟩

end Go.Proofs.Ytcdjhhepgkcabaa
