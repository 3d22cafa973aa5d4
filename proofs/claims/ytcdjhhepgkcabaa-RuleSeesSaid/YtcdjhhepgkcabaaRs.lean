import Derived.Test.YtcdjhhepgkcabaaVgX
import Derived.Test.YtcdjhhepgkcabaaTab
/- RuleSees: what See and May compute, and the law. -/
namespace Go.Proofs.Ytcdjhhepgkcabaa
open Go Go.Vg

abbrev at_ (k : Int) (v : List Int) : D := .st [i64 k, .ints .u8 v]
def mkA : List (Int × List Int) → List D
  | [] => []
  | p :: l => at_ p.1 p.2 :: mkA l
def kOf (d : D) : Int := numOf (fldOf d 0)
def vOf (d : D) : List Int := intsOf (fldOf d 1)
def fi (k : Int) : List D → Nat
  | [] => 0
  | d :: r => if kOf d = k then 0 else fi k r + 1
def isAt (d : D) : Prop := ∃ k v, d = at_ k v ∧ v.length ≤ 140737488351232 ∧ isBytes v
def fx (k : Int) (l : List D) : Int := if fi k l < l.length then (fi k l : Int) else -1
def unr (d : D) : D := match d with | .ref x => x | _ => default
def okl (l : List D) : Prop := (∀ x ∈ l, isAt x) ∧ l.length ≤ 140737488351232

def sp81 : Go.Vg.Spec := ⟨fun ds => ∃ k v j, ds = [at_ k v, .ref (i64 j)], fun ds => bl (decide (kOf (ds.headD default) = numOf (unr (ds.getD 1 default)))), true, [105]⟩
def sp80 : Go.Vg.Spec := ⟨fun ds => ∃ l j, ds = [.slc 2 l, .clo 81 [.ref (i64 j)]] ∧ okl l, fun ds => i64 (fx (match ds.getD 1 default with | .clo _ (x :: _) => numOf (unr x) | _ => 0) (xsOf (ds.headD default))), true, [29]⟩
def sp77 : Go.Vg.Spec := ⟨fun ds => ∃ l j, ds = [.slc 2 l, i64 j] ∧ okl l, fun ds => i64 (fx (numOf (ds.getD 1 default)) (xsOf (ds.headD default))), true, [29, 3]⟩
def sp78 : Go.Vg.Spec := ⟨fun ds => ∃ v, ds = [.ints .u8 v] ∧ v.length ≤ 140737488351232, fun ds => .ints .u8 (intsOf (ds.headD default)), false, [28]⟩
def c0 : Ctx := ⟨tab, fun _ => none, [], []⟩
def c80 : Ctx := ⟨tab, lkS [(81, sp81)], [], []⟩
def c77 : Ctx := ⟨tab, lkS [(80, sp80)], [], [6]⟩
def c78 : Ctx := ⟨tab, fun _ => none, [5], []⟩
def vl (k : Int) (l : List D) : List Int := if fi k l < l.length then vOf (l.getD (fi k l) default) else []
def has (k : Int) (l : List D) : Bool := decide (fi k l < l.length)
def isb (k : Int) (l : List D) : Bool := has k l && decide (vl k l = [1])
def sp66 : Go.Vg.Spec := ⟨fun ds => ∃ l j, ds = [.slc 2 l, i64 j] ∧ okl l, fun ds => .tup [.ints .u8 (vl (numOf (ds.getD 1 default)) (xsOf (ds.headD default))), bl (has (numOf (ds.getD 1 default)) (xsOf (ds.headD default)))], false, [29, 3]⟩
def sp69 : Go.Vg.Spec := ⟨fun ds => ∃ l j, ds = [.slc 2 l, i64 j] ∧ okl l, fun ds => bl (isb (numOf (ds.getD 1 default)) (xsOf (ds.headD default))), true, [29, 3]⟩
def hid (l : List D) : Bool := isb 8 l || (has 9 l && !isb 9 l)
def sp67 : Go.Vg.Spec := ⟨fun ds => ∃ l, ds = [.slc 2 l] ∧ okl l, fun ds => bl (hid (xsOf (ds.headD default))), true, [29]⟩
def seeE (k : Int) (l : List D) : Int := if has k l = false then 13 else if (decide (k = 4) && hid l) = true then 12 else 0
def seeV (k : Int) (l : List D) : List Int := if seeE k l = 0 then vl k l else []
def sp43 : Go.Vg.Spec := ⟨fun ds => ∃ l j, ds = [.slc 2 l, i64 j] ∧ okl l, fun ds => .tup [.ints .u8 (seeV (numOf (ds.getD 1 default)) (xsOf (ds.headD default))), i64 (seeE (numOf (ds.getD 1 default)) (xsOf (ds.headD default)))], false, [29, 3]⟩
def mayE (k : Int) (l : List D) : Int := if has k l = false ∨ k < 13 ∨ 18 < k then 13 else if isb k l = false then 12 else 0
def sp46 : Go.Vg.Spec := ⟨fun ds => ∃ l j, ds = [.slc 2 l, i64 j] ∧ okl l, fun ds => i64 (mayE (numOf (ds.getD 1 default)) (xsOf (ds.headD default))), true, [29, 3]⟩
def sp44 : Go.Vg.Spec := ⟨fun ds => ∃ l j, ds = [.slc 2 l, i64 j] ∧ okl l, fun ds => .tup [.str (vl (numOf (ds.getD 1 default)) (xsOf (ds.headD default))), bl (has (numOf (ds.getD 1 default)) (xsOf (ds.headD default)))], true, [29, 3]⟩
def flg (b : Bool) : List Int := [cond b 1 0]
def sp68 : Go.Vg.Spec := ⟨fun ds => ∃ b, ds = [bl b], fun ds => .str [cond (boolOf (ds.headD default)) 1 0], true, [4]⟩
def sp45 : Go.Vg.Spec := ⟨fun ds => ∃ l, ds = [.slc 2 l] ∧ okl l, fun ds => bl (hid (xsOf (ds.headD default))), true, [29]⟩
def c66 : Ctx := ⟨tab, lkS [(77, sp77), (78, sp78)], [], [9, 17]⟩
def c69 : Ctx := ⟨tab, lkS [(77, sp77)], [], []⟩
def c67 : Ctx := ⟨tab, lkS [(66, sp66), (69, sp69)], [], []⟩
def c43 : Ctx := ⟨tab, lkS [(66, sp66), (67, sp67)], [], []⟩
def c46 : Ctx := ⟨tab, lkS [(66, sp66), (69, sp69)], [], []⟩
def c45 : Ctx := ⟨tab, lkS [(44, sp44), (68, sp68)], [], []⟩
def c8 : Ctx := ⟨tab, lkS [(43, sp43), (44, sp44), (45, sp45), (46, sp46)], [], []⟩
def inv44 (k : Int) (l : List D) : Nat → Option Inv
  | 2 => some ⟨Nat, fun i => [(10, .d (i64 i))], fun _ => [], fun s => (slotN s 10).toNat, fun _ i => i ≤ fi k l, fun i => l.length - i⟩
  | _ => none
def inv80 (k : Int) (l : List D) : Nat → Option Inv
  | 2 => some ⟨Nat, fun i => [(8, .d (i64 i))], fun _ => [], fun s => (slotN s 8).toNat, fun _ i => i ≤ fi k l, fun i => l.length - i⟩
  | _ => none
--KEEP Go.Vg.eqB isAt okl fi fx kOf vOf vl has isb hid seeE seeV mayE
set_option maxRecDepth 100000 in
theorem vc81  (k : Int) (v : List Int) (j : Int) (F : D)  :
    (owed c0 (fun _ => none) Try.f81 [at_ k v, .ref (i64 j)] F) = (
 (True ∧ false = false) ∧ True ∧ (Sk.st [Sk.one, Sk.one] = Sk.st [Sk.one, Sk.one] ∧ (0 : Nat) < (2 : Nat)) ∧ ((1 : Nat) ≠ (0 : Nat) ∧ (1 : Nat) = (1 : Nat) ∧ false = false) ∧ ((1 : Nat) ≠ (0 : Nat) ∧ (1 : Nat) = (1 : Nat) ∧ false = false) ∧ True ∧ True ∧ (false = false ∧ True) ∧ D.val (Value.bool (k == j)) = F) := by kernel_rfl
set_option maxRecDepth 100000 in
theorem vc80  (l : List D) (j : Int) (F : D)  :
    (owed c80 (inv80 j l) Try.f80 [.slc 2 l, .clo 81 [.ref (i64 j)]] F) = (
 True ∧
   True ∧
    True ∧
     True ∧
      (((AV.d (D.val (Value.int IntKind.i64 (0 : Int))) = AV.d (D.val (Value.int IntKind.i64 (↑(Int.toNat (0 : Int)) : Int))) ∧ True) ∧ True ∧ true = true) ∧ Int.toNat (0 : Int) ≤ fi j l) ∧
       ∀ (x : Nat),
        x ≤ fi j l →
         true = true ∧
          True ∧
           match decide ((↑x : Int) < (↑l.length : Int)) with
           | true =>
            True ∧
             True ∧
              True ∧
               True ∧
                True ∧
                 ((0 : Int) ≤ (↑x : Int) ∧
                   (↑x : Int) < (↑l.length : Int) ∧ (2 : Nat) ≠ (0 : Nat) ∧ (2 : Nat) = (2 : Nat) ∧ D.st [D.val (Value.int IntKind.i64 (numOf (fldOf (l.getD (↑x : Int).toNat (D.val (Value.bool false))) (0 : Nat)))), D.ints IntKind.u8 (intsOf (fldOf (l.getD (↑x : Int).toNat (D.val (Value.bool false))) (1 : Nat)))] = l.getD (↑x : Int).toNat (D.val (Value.bool false))) ∧
                  ((2 : Nat) ≠ (0 : Nat) ∧ (2 : Nat) = (2 : Nat) ∧ true = true) ∧
                   (∃ (k : Int),
                     ∃ (v : List Int),
                      ∃ (j_1 : Int),
                       [D.st [D.val (Value.int IntKind.i64 (numOf (fldOf (l.getD (↑x : Int).toNat (D.val (Value.bool false))) (0 : Nat)))), D.ints IntKind.u8 (intsOf (fldOf (l.getD (↑x : Int).toNat (D.val (Value.bool false))) (1 : Nat)))], (D.val (Value.int IntKind.i64 j)).ref] =
                        [D.st [D.val (Value.int IntKind.i64 k), D.ints IntKind.u8 v], (D.val (Value.int IntKind.i64 j_1)).ref]) ∧
                    match decide (kOf (D.st [D.val (Value.int IntKind.i64 (numOf (fldOf (l.getD (↑x : Int).toNat (D.val (Value.bool false))) (0 : Nat)))), D.ints IntKind.u8 (intsOf (fldOf (l.getD (↑x : Int).toNat (D.val (Value.bool false))) (1 : Nat)))]) = j) with
                    | true => True ∧ True ∧ (false = false ∧ True) ∧ D.val (Value.int IntKind.i64 (↑x : Int)) = F
                    | false =>
                     True ∧
                      True ∧ ((AV.d (D.val (Value.int IntKind.i64 (IntKind.i64.wrap ((↑x : Int) + (1 : Int))))) = AV.d (D.val (Value.int IntKind.i64 (↑(IntKind.i64.wrap ((↑x : Int) + (1 : Int))).toNat : Int))) ∧ True) ∧ True ∧ true = true) ∧ (IntKind.i64.wrap ((↑x : Int) + (1 : Int))).toNat ≤ fi j l ∧ l.length - (IntKind.i64.wrap ((↑x : Int) + (1 : Int))).toNat < l.length - x
           | false => True ∧ (false = false ∧ True) ∧ D.val (Value.int IntKind.i64 (-1 : Int)) = F) := by kernel_rfl
set_option maxRecDepth 100000 in
theorem vc77  (l : List D) (j : Int) (F : D)  :
    (owed c77 (fun _ => none) Try.f77 [.slc 2 l, i64 j] F) = (
 (True ∧ false = false) ∧ True ∧ True ∧ True ∧ (∃ (l_1 : List D), ∃ (j_1 : Int), [D.slc (2 : Nat) l, D.clo (81 : Nat) [(D.val (Value.int IntKind.i64 j)).ref]] = [D.slc (2 : Nat) l_1, D.clo (81 : Nat) [(D.val (Value.int IntKind.i64 j_1)).ref]] ∧ okl l_1) ∧ True ∧ (false = false ∧ True) ∧ D.val (Value.int IntKind.i64 (fx j l)) = F) := by kernel_rfl
set_option maxRecDepth 100000 in
theorem vc78  (v : List Int) (F : D)  :
    (owed c78 (fun _ => none) Try.f78 [.ints .u8 v] F) = (
 True ∧
   True ∧
    True ∧
     (v.length = (0 : Nat) → True ∧ (false = false ∧ True) ∧ D.ints IntKind.u8 [] = F) ∧
      (True → ((1 : Nat) = (1 : Nat) ∧ (0 : Nat) ≤ (4096 : Nat)) ∧ True ∧ ((5 : TypeId) = (5 : TypeId) ∧ (28 : Nat) = (28 : Nat) ∧ true = true ∧ v.length ≤ (140737488355328 : Nat) ∧ v.length * (1 : Nat) ≤ (140737488355328 : Nat) ∧ (1 : Nat) ≠ (0 : Nat) ∧ (1 : Nat) = (1 : Nat)) ∧ True ∧ (false = false ∧ True) ∧ D.ints IntKind.u8 v = F)) := by kernel_rfl
set_option maxRecDepth 100000 in
theorem vc66  (l : List D) (j : Int) (F : D)  :
    (owed c66 (fun _ => none) Try.f66 [.slc 2 l, i64 j] F) = (
 True ∧
   True ∧
    True ∧
     True ∧
      (∃ (l_1 : List D), ∃ (j_1 : Int), [D.slc (2 : Nat) l, D.val (Value.int IntKind.i64 j)] = [D.slc (2 : Nat) l_1, D.val (Value.int IntKind.i64 j_1)] ∧ okl l_1) ∧
       True ∧
        True ∧
         True ∧
          match decide (fx j l < (0 : Int)) with
          | true => True ∧ True ∧ (false = false ∧ false = false ∧ True) ∧ D.tup [D.ints IntKind.u8 [], D.val (Value.bool false)] = F
          | false =>
           True ∧
            True ∧
             ((0 : Int) ≤ fx j l ∧ fx j l < (↑l.length : Int) ∧ (2 : Nat) ≠ (0 : Nat) ∧ (2 : Nat) = (2 : Nat) ∧ D.st [D.val (Value.int IntKind.i64 (numOf (fldOf (l.getD (fx j l).toNat (D.val (Value.bool false))) (0 : Nat)))), D.ints IntKind.u8 (intsOf (fldOf (l.getD (fx j l).toNat (D.val (Value.bool false))) (1 : Nat)))] = l.getD (fx j l).toNat (D.val (Value.bool false))) ∧
              (Sk.st [Sk.one, Sk.one] = Sk.st [Sk.one, Sk.one] ∧ (1 : Nat) < (2 : Nat)) ∧
               ((1 : Nat) ≠ (0 : Nat) ∧ (1 : Nat) = (1 : Nat) ∧ false = false) ∧
                (∃ (v : List Int), [D.ints IntKind.u8 (intsOf (fldOf (l.getD (fx j l).toNat (D.val (Value.bool false))) (1 : Nat)))] = [D.ints IntKind.u8 v] ∧ v.length ≤ (140737488351232 : Nat)) ∧ True ∧ True ∧ (false = false ∧ false = false ∧ True) ∧ D.tup [D.ints IntKind.u8 (intsOf (fldOf (l.getD (fx j l).toNat (D.val (Value.bool false))) (1 : Nat))), D.val (Value.bool true)] = F) := by kernel_rfl
set_option maxRecDepth 100000 in
theorem vc69  (l : List D) (j : Int) (F : D)  :
    (owed c69 (fun _ => none) Try.f69 [.slc 2 l, i64 j] F) = (
 True ∧
   True ∧
    True ∧
     (∃ (l_1 : List D), ∃ (j_1 : Int), [D.slc (2 : Nat) l, D.val (Value.int IntKind.i64 j)] = [D.slc (2 : Nat) l_1, D.val (Value.int IntKind.i64 j_1)] ∧ okl l_1) ∧
      True ∧
       True ∧
        True ∧
         True ∧
          match decide (fx j l ≥ (0 : Int)) with
          | true =>
           True ∧
            True ∧
             ((0 : Int) ≤ fx j l ∧ fx j l < (↑l.length : Int) ∧ (2 : Nat) ≠ (0 : Nat) ∧ (2 : Nat) = (2 : Nat) ∧ D.st [D.val (Value.int IntKind.i64 (numOf (fldOf (l.getD (fx j l).toNat (D.val (Value.bool false))) (0 : Nat)))), D.ints IntKind.u8 (intsOf (fldOf (l.getD (fx j l).toNat (D.val (Value.bool false))) (1 : Nat)))] = l.getD (fx j l).toNat (D.val (Value.bool false))) ∧
              (Sk.st [Sk.one, Sk.one] = Sk.st [Sk.one, Sk.one] ∧ (1 : Nat) < (2 : Nat)) ∧
               ((1 : Nat) ≠ (0 : Nat) ∧ (1 : Nat) = (1 : Nat) ∧ false = false) ∧
                True ∧
                 True ∧
                  True ∧
                   True ∧
                    match (↑(intsOf (fldOf (l.getD (fx j l).toNat (D.val (Value.bool false))) (1 : Nat))).length : Int) == (1 : Int) with
                    | true =>
                     True ∧
                      True ∧
                       ((0 : Int) ≤ fx j l ∧
                         fx j l < (↑l.length : Int) ∧ (2 : Nat) ≠ (0 : Nat) ∧ (2 : Nat) = (2 : Nat) ∧ D.st [D.val (Value.int IntKind.i64 (numOf (fldOf (l.getD (fx j l).toNat (D.val (Value.bool false))) (0 : Nat)))), D.ints IntKind.u8 (intsOf (fldOf (l.getD (fx j l).toNat (D.val (Value.bool false))) (1 : Nat)))] = l.getD (fx j l).toNat (D.val (Value.bool false))) ∧
                        (Sk.st [Sk.one, Sk.one] = Sk.st [Sk.one, Sk.one] ∧ (1 : Nat) < (2 : Nat)) ∧
                         ((1 : Nat) ≠ (0 : Nat) ∧ (1 : Nat) = (1 : Nat) ∧ false = false) ∧
                          ((0 : Int) ≤ (0 : Int) ∧ (0 : Int) < (↑(intsOf (fldOf (l.getD (fx j l).toNat (D.val (Value.bool false))) (1 : Nat))).length : Int) ∧ (1 : Nat) = (1 : Nat)) ∧
                           ((1 : Nat) ≠ (0 : Nat) ∧ (1 : Nat) = (1 : Nat) ∧ false = false) ∧ True ∧ True ∧ True ∧ (false = false ∧ True) ∧ D.val (Value.bool ((intsOf (fldOf (l.getD (fx j l).toNat (D.val (Value.bool false))) (1 : Nat))).getD (0 : Nat) (0 : Int) == (1 : Int))) = F
                    | false => True ∧ True ∧ (false = false ∧ True) ∧ D.val (Value.bool false) = F
          | false => True ∧ True ∧ True ∧ True ∧ (false = false ∧ True) ∧ D.val (Value.bool false) = F) := by kernel_rfl
set_option maxRecDepth 100000 in
theorem vc67  (l : List D) (F : D)  :
    (owed c67 (fun _ => none) Try.f67 [.slc 2 l] F) = (
 True ∧
   True ∧
    (∃ (l_1 : List D), ∃ (j : Int), [D.slc (2 : Nat) l, D.val (Value.int IntKind.i64 (9 : Int))] = [D.slc (2 : Nat) l_1, D.val (Value.int IntKind.i64 j)] ∧ okl l_1) ∧
     True ∧
      ((0 : Nat) < (2 : Nat) ∧ false = false) ∧
       ((1 : Nat) < (2 : Nat) ∧ false = false) ∧
        True ∧
         True ∧
          True ∧
           (∃ (l_1 : List D), ∃ (j : Int), [D.slc (2 : Nat) l, D.val (Value.int IntKind.i64 (8 : Int))] = [D.slc (2 : Nat) l_1, D.val (Value.int IntKind.i64 j)] ∧ okl l_1) ∧
            True ∧
             match isb (8 : Int) l with
             | true => True ∧ True ∧ (false = false ∧ True) ∧ D.val (Value.bool true) = F
             | false =>
              True ∧
               True ∧
                match has (9 : Int) l with
                | true => True ∧ (∃ (l_1 : List D), ∃ (j : Int), [D.slc (2 : Nat) l, D.val (Value.int IntKind.i64 (9 : Int))] = [D.slc (2 : Nat) l_1, D.val (Value.int IntKind.i64 j)] ∧ okl l_1) ∧ True ∧ True ∧ True ∧ True ∧ (false = false ∧ True) ∧ D.val (Value.bool !isb (9 : Int) l) = F
                | false => True ∧ True ∧ True ∧ (false = false ∧ True) ∧ D.val (Value.bool false) = F) := by kernel_rfl
set_option maxRecDepth 100000 in
theorem vc43  (l : List D) (j : Int) (F : D)  :
    (owed c43 (fun _ => none) Try.f43 [.slc 2 l, i64 j] F) = (
 True ∧
   True ∧
    True ∧
     True ∧
      (∃ (l_1 : List D), ∃ (j_1 : Int), [D.slc (2 : Nat) l, D.val (Value.int IntKind.i64 j)] = [D.slc (2 : Nat) l_1, D.val (Value.int IntKind.i64 j_1)] ∧ okl l_1) ∧
       True ∧
        ((0 : Nat) < (2 : Nat) ∧ false = false) ∧
         ((1 : Nat) < (2 : Nat) ∧ false = false) ∧
          True ∧
           True ∧
            True ∧
             True ∧
              True ∧
               match !has j l with
               | true => True ∧ True ∧ (false = false ∧ false = false ∧ True) ∧ D.tup [D.ints IntKind.u8 [], D.val (Value.int IntKind.i64 (13 : Int))] = F
               | false =>
                True ∧
                 True ∧
                  True ∧
                   match j == (4 : Int) with
                   | true =>
                    True ∧
                     (∃ (l_1 : List D), [D.slc (2 : Nat) l] = [D.slc (2 : Nat) l_1] ∧ okl l_1) ∧
                      True ∧
                       True ∧
                        match hid l with
                        | true => True ∧ True ∧ (false = false ∧ false = false ∧ True) ∧ D.tup [D.ints IntKind.u8 [], D.val (Value.int IntKind.i64 (12 : Int))] = F
                        | false => True ∧ True ∧ True ∧ (false = false ∧ false = false ∧ True) ∧ D.tup [D.ints IntKind.u8 (vl j l), D.val (Value.int IntKind.i64 (0 : Int))] = F
                   | false => True ∧ True ∧ True ∧ True ∧ True ∧ (false = false ∧ false = false ∧ True) ∧ D.tup [D.ints IntKind.u8 (vl j l), D.val (Value.int IntKind.i64 (0 : Int))] = F) := by kernel_rfl
set_option maxRecDepth 100000 in
theorem vc46  (l : List D) (j : Int) (F : D)  :
    (owed c46 (fun _ => none) Try.f46 [.slc 2 l, i64 j] F) = (
 True ∧
   True ∧
    True ∧
     (∃ (l_1 : List D), ∃ (j_1 : Int), [D.slc (2 : Nat) l, D.val (Value.int IntKind.i64 j)] = [D.slc (2 : Nat) l_1, D.val (Value.int IntKind.i64 j_1)] ∧ okl l_1) ∧
      True ∧
       ((0 : Nat) < (2 : Nat) ∧ false = false) ∧
        ((1 : Nat) < (2 : Nat) ∧ false = false) ∧
         True ∧
          True ∧
           True ∧
            True ∧
             True ∧
              match !has j l with
              | true => True ∧ True ∧ True ∧ True ∧ True ∧ (false = false ∧ True) ∧ D.val (Value.int IntKind.i64 (13 : Int)) = F
              | false =>
               True ∧
                True ∧
                 True ∧
                  True ∧
                   match decide (j < (13 : Int)) with
                   | true => True ∧ True ∧ True ∧ (false = false ∧ True) ∧ D.val (Value.int IntKind.i64 (13 : Int)) = F
                   | false =>
                    True ∧
                     True ∧
                      True ∧
                       True ∧
                        match decide (j > (18 : Int)) with
                        | true => True ∧ (false = false ∧ True) ∧ D.val (Value.int IntKind.i64 (13 : Int)) = F
                        | false =>
                         True ∧
                          True ∧
                           (∃ (l_1 : List D), ∃ (j_1 : Int), [D.slc (2 : Nat) l, D.val (Value.int IntKind.i64 j)] = [D.slc (2 : Nat) l_1, D.val (Value.int IntKind.i64 j_1)] ∧ okl l_1) ∧
                            True ∧
                             True ∧
                              match !isb j l with
                              | true => True ∧ (false = false ∧ True) ∧ D.val (Value.int IntKind.i64 (12 : Int)) = F
                              | false => True ∧ (false = false ∧ True) ∧ D.val (Value.int IntKind.i64 (0 : Int)) = F) := by kernel_rfl
set_option maxRecDepth 100000 in
theorem vc44  (l : List D) (j : Int) (F : D)  :
    (owed c0 (inv44 j l) Try.f44 [.slc 2 l, i64 j] F) = (
 True ∧
   True ∧
    True ∧
     True ∧
      True ∧
       (((AV.d (D.val (Value.int IntKind.i64 (0 : Int))) = AV.d (D.val (Value.int IntKind.i64 (↑(Int.toNat (0 : Int)) : Int))) ∧ True) ∧ True ∧ true = true) ∧ Int.toNat (0 : Int) ≤ fi j l) ∧
        ∀ (x : Nat),
         x ≤ fi j l →
          true = true ∧
           True ∧
            match decide ((↑x : Int) < (↑l.length : Int)) with
            | true =>
             ((0 : Int) ≤ (↑x : Int) ∧
               (↑x : Int) < (↑l.length : Int) ∧ (2 : Nat) ≠ (0 : Nat) ∧ (2 : Nat) = (2 : Nat) ∧ D.st [D.val (Value.int IntKind.i64 (numOf (fldOf (l.getD (↑x : Int).toNat (D.val (Value.bool false))) (0 : Nat)))), D.ints IntKind.u8 (intsOf (fldOf (l.getD (↑x : Int).toNat (D.val (Value.bool false))) (1 : Nat)))] = l.getD (↑x : Int).toNat (D.val (Value.bool false))) ∧
              ((2 : Nat) ≠ (0 : Nat) ∧ (2 : Nat) = (2 : Nat) ∧ true = true) ∧
               (True ∧ (2 : Nat) ≠ (0 : Nat)) ∧
                (Sk.st [Sk.one, Sk.one] = Sk.st [Sk.one, Sk.one] ∧ (2 : Nat) ≠ (0 : Nat) ∧ (2 : Nat) = (2 : Nat) ∧ false = false) ∧
                 (Sk.st [Sk.one, Sk.one] = Sk.st [Sk.one, Sk.one] ∧ (0 : Nat) < (2 : Nat)) ∧
                  ((1 : Nat) ≠ (0 : Nat) ∧ (1 : Nat) = (1 : Nat) ∧ false = false) ∧
                   True ∧
                    True ∧
                     match numOf (fldOf (l.getD (↑x : Int).toNat (D.val (Value.bool false))) (0 : Nat)) == j with
                     | true =>
                      (Sk.st [Sk.one, Sk.one] = Sk.st [Sk.one, Sk.one] ∧ (1 : Nat) < (2 : Nat)) ∧
                       ((1 : Nat) ≠ (0 : Nat) ∧ (1 : Nat) = (1 : Nat) ∧ false = false) ∧ isBytes (intsOf (fldOf (l.getD (↑x : Int).toNat (D.val (Value.bool false))) (1 : Nat))) ∧ True ∧ True ∧ (false = false ∧ false = false ∧ True) ∧ D.tup [D.str (intsOf (fldOf (l.getD (↑x : Int).toNat (D.val (Value.bool false))) (1 : Nat))), D.val (Value.bool true)] = F
                     | false =>
                      True ∧
                       True ∧ ((AV.d (D.val (Value.int IntKind.i64 (IntKind.i64.wrap ((↑x : Int) + (1 : Int))))) = AV.d (D.val (Value.int IntKind.i64 (↑(IntKind.i64.wrap ((↑x : Int) + (1 : Int))).toNat : Int))) ∧ True) ∧ True ∧ true = true) ∧ (IntKind.i64.wrap ((↑x : Int) + (1 : Int))).toNat ≤ fi j l ∧ l.length - (IntKind.i64.wrap ((↑x : Int) + (1 : Int))).toNat < l.length - x
            | false => True ∧ True ∧ (false = false ∧ false = false ∧ True) ∧ D.tup [D.str (ints { data := { toList := [] } }), D.val (Value.bool false)] = F) := by kernel_rfl
set_option maxRecDepth 100000 in
theorem vc68  (b : Bool) (F : D)  :
    (owed c0 (fun _ => none) Try.f68 [bl b] F) = (
 True ∧
   True ∧
    match b with
    | true => True ∧ (false = false ∧ True) ∧ D.str (ints { data := { toList := [(1 : UInt8)] } }) = F
    | false => True ∧ (false = false ∧ True) ∧ D.str (ints { data := { toList := [(0 : UInt8)] } }) = F) := by kernel_rfl
set_option maxRecDepth 100000 in
theorem vc45  (l : List D) (F : D)  :
    (owed c45 (fun _ => none) Try.f45 [.slc 2 l] F) = (
 True ∧
   True ∧
    (∃ (l_1 : List D), ∃ (j : Int), [D.slc (2 : Nat) l, D.val (Value.int IntKind.i64 (8 : Int))] = [D.slc (2 : Nat) l_1, D.val (Value.int IntKind.i64 j)] ∧ okl l_1) ∧
     True ∧
      ((0 : Nat) < (2 : Nat) ∧ false = false) ∧
       ((1 : Nat) < (2 : Nat) ∧ false = false) ∧
        True ∧
         True ∧
          True ∧
           (∃ (l_1 : List D), ∃ (j : Int), [D.slc (2 : Nat) l, D.val (Value.int IntKind.i64 (9 : Int))] = [D.slc (2 : Nat) l_1, D.val (Value.int IntKind.i64 j)] ∧ okl l_1) ∧
            True ∧
             ((0 : Nat) < (2 : Nat) ∧ false = false) ∧
              ((1 : Nat) < (2 : Nat) ∧ false = false) ∧
               True ∧
                True ∧
                 True ∧
                  (∃ (b : Bool), [D.val (Value.bool true)] = [D.val (Value.bool b)]) ∧
                   True ∧
                    True ∧
                     match eqB (vl (8 : Int) l) [(1 : Int)] with
                     | true => True ∧ True ∧ (false = false ∧ True) ∧ D.val (Value.bool true) = F
                     | false =>
                      True ∧
                       True ∧
                        match has (9 : Int) l with
                        | true => True ∧ (∃ (b : Bool), [D.val (Value.bool true)] = [D.val (Value.bool b)]) ∧ True ∧ True ∧ True ∧ True ∧ (false = false ∧ True) ∧ D.val (Value.bool !eqB (vl (9 : Int) l) [(1 : Int)]) = F
                        | false => True ∧ True ∧ True ∧ (false = false ∧ True) ∧ D.val (Value.bool false) = F) := by kernel_rfl
set_option maxRecDepth 100000 in
theorem vc8  (l : List D) (j : Int) (F : D)  :
    (owed c8 (fun _ => none) Try.f8 [.slc 2 l, i64 j] F) = (
 True ∧
   True ∧
    True ∧
     (∃ (l_1 : List D), ∃ (j_1 : Int), [D.slc (2 : Nat) l, D.val (Value.int IntKind.i64 j)] = [D.slc (2 : Nat) l_1, D.val (Value.int IntKind.i64 j_1)] ∧ okl l_1) ∧
      True ∧
       ((0 : Nat) < (2 : Nat) ∧ false = false) ∧
        ((1 : Nat) < (2 : Nat) ∧ false = false) ∧
         True ∧
          True ∧
           True ∧
            True ∧
             (∃ (l_1 : List D), ∃ (j_1 : Int), [D.slc (2 : Nat) l, D.val (Value.int IntKind.i64 j)] = [D.slc (2 : Nat) l_1, D.val (Value.int IntKind.i64 j_1)] ∧ okl l_1) ∧
              True ∧
               ((0 : Nat) < (2 : Nat) ∧ false = false) ∧
                ((1 : Nat) < (2 : Nat) ∧ false = false) ∧
                 True ∧
                  True ∧
                   True ∧
                    True ∧
                     True ∧
                      True ∧
                       match !has j l with
                       | true =>
                        True ∧
                         True ∧
                          True ∧
                           True ∧
                            True ∧
                             True ∧
                              True ∧
                               True ∧
                                True ∧
                                 match seeE j l == (13 : Int) with
                                 | true =>
                                  True ∧
                                   isBytes (seeV j l) ∧
                                    True ∧
                                     True ∧
                                      True ∧
                                       True ∧
                                        match eqB (seeV j l) (ints { data := { toList := [] } }) with
                                        | true => True ∧ True ∧ (∃ (l_1 : List D), ∃ (j_1 : Int), [D.slc (2 : Nat) l, D.val (Value.int IntKind.i64 j)] = [D.slc (2 : Nat) l_1, D.val (Value.int IntKind.i64 j_1)] ∧ okl l_1) ∧ True ∧ True ∧ True ∧ True ∧ (false = false ∧ True) ∧ D.val (Value.bool (mayE j l == (13 : Int))) = F
                                        | false => True ∧ True ∧ (false = false ∧ True) ∧ D.val (Value.bool false) = F
                                 | false => True ∧ True ∧ True ∧ True ∧ (false = false ∧ True) ∧ D.val (Value.bool false) = F
                       | false =>
                        True ∧
                         True ∧
                          True ∧
                           match j == (4 : Int) with
                           | true =>
                            True ∧
                             (∃ (l_1 : List D), [D.slc (2 : Nat) l] = [D.slc (2 : Nat) l_1] ∧ okl l_1) ∧
                              True ∧
                               match hid l with
                               | true =>
                                True ∧
                                 True ∧
                                  True ∧
                                   True ∧
                                    match decide (j < (13 : Int)) with
                                    | true =>
                                     True ∧
                                      True ∧
                                       True ∧
                                        True ∧
                                         True ∧
                                          True ∧
                                           True ∧
                                            True ∧
                                             True ∧
                                              match seeE j l == (12 : Int) with
                                              | true =>
                                               True ∧
                                                isBytes (seeV j l) ∧
                                                 True ∧
                                                  True ∧
                                                   True ∧
                                                    True ∧
                                                     match eqB (seeV j l) (ints { data := { toList := [] } }) with
                                                     | true => True ∧ True ∧ (∃ (l_1 : List D), ∃ (j_1 : Int), [D.slc (2 : Nat) l, D.val (Value.int IntKind.i64 j)] = [D.slc (2 : Nat) l_1, D.val (Value.int IntKind.i64 j_1)] ∧ okl l_1) ∧ True ∧ True ∧ True ∧ True ∧ (false = false ∧ True) ∧ D.val (Value.bool (mayE j l == (13 : Int))) = F
                                                     | false => True ∧ True ∧ (false = false ∧ True) ∧ D.val (Value.bool false) = F
                                              | false => True ∧ True ∧ True ∧ True ∧ (false = false ∧ True) ∧ D.val (Value.bool false) = F
                                    | false =>
                                     True ∧
                                      True ∧
                                       True ∧
                                        match decide (j > (18 : Int)) with
                                        | true =>
                                         True ∧
                                          True ∧
                                           True ∧
                                            True ∧
                                             True ∧
                                              True ∧
                                               True ∧
                                                True ∧
                                                 match seeE j l == (12 : Int) with
                                                 | true =>
                                                  True ∧
                                                   isBytes (seeV j l) ∧
                                                    True ∧
                                                     True ∧
                                                      True ∧
                                                       True ∧
                                                        match eqB (seeV j l) (ints { data := { toList := [] } }) with
                                                        | true => True ∧ True ∧ (∃ (l_1 : List D), ∃ (j_1 : Int), [D.slc (2 : Nat) l, D.val (Value.int IntKind.i64 j)] = [D.slc (2 : Nat) l_1, D.val (Value.int IntKind.i64 j_1)] ∧ okl l_1) ∧ True ∧ True ∧ True ∧ True ∧ (false = false ∧ True) ∧ D.val (Value.bool (mayE j l == (13 : Int))) = F
                                                        | false => True ∧ True ∧ (false = false ∧ True) ∧ D.val (Value.bool false) = F
                                                 | false => True ∧ True ∧ True ∧ True ∧ (false = false ∧ True) ∧ D.val (Value.bool false) = F
                                        | false =>
                                         True ∧
                                          True ∧
                                           match !eqB (vl j l) (ints { data := { toList := [(1 : UInt8)] } }) with
                                           | true =>
                                            True ∧
                                             True ∧
                                              True ∧
                                               True ∧
                                                True ∧
                                                 True ∧
                                                  True ∧
                                                   True ∧
                                                    match seeE j l == (12 : Int) with
                                                    | true =>
                                                     True ∧
                                                      isBytes (seeV j l) ∧
                                                       True ∧
                                                        True ∧
                                                         True ∧
                                                          True ∧
                                                           match eqB (seeV j l) (ints { data := { toList := [] } }) with
                                                           | true => True ∧ True ∧ (∃ (l_1 : List D), ∃ (j_1 : Int), [D.slc (2 : Nat) l, D.val (Value.int IntKind.i64 j)] = [D.slc (2 : Nat) l_1, D.val (Value.int IntKind.i64 j_1)] ∧ okl l_1) ∧ True ∧ True ∧ True ∧ True ∧ (false = false ∧ True) ∧ D.val (Value.bool (mayE j l == (12 : Int))) = F
                                                           | false => True ∧ True ∧ (false = false ∧ True) ∧ D.val (Value.bool false) = F
                                                    | false => True ∧ True ∧ True ∧ True ∧ (false = false ∧ True) ∧ D.val (Value.bool false) = F
                                           | false =>
                                            True ∧
                                             True ∧
                                              True ∧
                                               True ∧
                                                True ∧
                                                 True ∧
                                                  True ∧
                                                   match seeE j l == (12 : Int) with
                                                   | true =>
                                                    True ∧
                                                     isBytes (seeV j l) ∧
                                                      True ∧
                                                       True ∧
                                                        True ∧
                                                         True ∧
                                                          match eqB (seeV j l) (ints { data := { toList := [] } }) with
                                                          | true => True ∧ True ∧ (∃ (l_1 : List D), ∃ (j_1 : Int), [D.slc (2 : Nat) l, D.val (Value.int IntKind.i64 j)] = [D.slc (2 : Nat) l_1, D.val (Value.int IntKind.i64 j_1)] ∧ okl l_1) ∧ True ∧ True ∧ True ∧ True ∧ (false = false ∧ True) ∧ D.val (Value.bool (mayE j l == (0 : Int))) = F
                                                          | false => True ∧ True ∧ (false = false ∧ True) ∧ D.val (Value.bool false) = F
                                                   | false => True ∧ True ∧ True ∧ True ∧ (false = false ∧ True) ∧ D.val (Value.bool false) = F
                               | false =>
                                True ∧
                                 True ∧
                                  True ∧
                                   match decide (j < (13 : Int)) with
                                   | true =>
                                    True ∧
                                     True ∧
                                      True ∧
                                       True ∧
                                        True ∧
                                         True ∧
                                          True ∧
                                           True ∧
                                            match seeE j l == (0 : Int) with
                                            | true =>
                                             True ∧
                                              isBytes (seeV j l) ∧
                                               True ∧
                                                True ∧
                                                 True ∧
                                                  True ∧
                                                   match eqB (seeV j l) (vl j l) with
                                                   | true => True ∧ True ∧ (∃ (l_1 : List D), ∃ (j_1 : Int), [D.slc (2 : Nat) l, D.val (Value.int IntKind.i64 j)] = [D.slc (2 : Nat) l_1, D.val (Value.int IntKind.i64 j_1)] ∧ okl l_1) ∧ True ∧ True ∧ True ∧ True ∧ (false = false ∧ True) ∧ D.val (Value.bool (mayE j l == (13 : Int))) = F
                                                   | false => True ∧ True ∧ (false = false ∧ True) ∧ D.val (Value.bool false) = F
                                            | false => True ∧ True ∧ True ∧ True ∧ (false = false ∧ True) ∧ D.val (Value.bool false) = F
                                   | false =>
                                    True ∧
                                     True ∧
                                      True ∧
                                       match decide (j > (18 : Int)) with
                                       | true =>
                                        True ∧
                                         True ∧
                                          True ∧
                                           True ∧
                                            True ∧
                                             True ∧
                                              True ∧
                                               match seeE j l == (0 : Int) with
                                               | true =>
                                                True ∧
                                                 isBytes (seeV j l) ∧
                                                  True ∧
                                                   True ∧
                                                    True ∧
                                                     True ∧
                                                      match eqB (seeV j l) (vl j l) with
                                                      | true => True ∧ True ∧ (∃ (l_1 : List D), ∃ (j_1 : Int), [D.slc (2 : Nat) l, D.val (Value.int IntKind.i64 j)] = [D.slc (2 : Nat) l_1, D.val (Value.int IntKind.i64 j_1)] ∧ okl l_1) ∧ True ∧ True ∧ True ∧ True ∧ (false = false ∧ True) ∧ D.val (Value.bool (mayE j l == (13 : Int))) = F
                                                      | false => True ∧ True ∧ (false = false ∧ True) ∧ D.val (Value.bool false) = F
                                               | false => True ∧ True ∧ True ∧ True ∧ (false = false ∧ True) ∧ D.val (Value.bool false) = F
                                       | false =>
                                        True ∧
                                         True ∧
                                          match !eqB (vl j l) (ints { data := { toList := [(1 : UInt8)] } }) with
                                          | true =>
                                           True ∧
                                            True ∧
                                             True ∧
                                              True ∧
                                               True ∧
                                                True ∧
                                                 True ∧
                                                  match seeE j l == (0 : Int) with
                                                  | true =>
                                                   True ∧
                                                    isBytes (seeV j l) ∧
                                                     True ∧
                                                      True ∧
                                                       True ∧
                                                        True ∧
                                                         match eqB (seeV j l) (vl j l) with
                                                         | true => True ∧ True ∧ (∃ (l_1 : List D), ∃ (j_1 : Int), [D.slc (2 : Nat) l, D.val (Value.int IntKind.i64 j)] = [D.slc (2 : Nat) l_1, D.val (Value.int IntKind.i64 j_1)] ∧ okl l_1) ∧ True ∧ True ∧ True ∧ True ∧ (false = false ∧ True) ∧ D.val (Value.bool (mayE j l == (12 : Int))) = F
                                                         | false => True ∧ True ∧ (false = false ∧ True) ∧ D.val (Value.bool false) = F
                                                  | false => True ∧ True ∧ True ∧ True ∧ (false = false ∧ True) ∧ D.val (Value.bool false) = F
                                          | false =>
                                           True ∧
                                            True ∧
                                             True ∧
                                              True ∧
                                               True ∧
                                                True ∧
                                                 match seeE j l == (0 : Int) with
                                                 | true =>
                                                  True ∧
                                                   isBytes (seeV j l) ∧
                                                    True ∧
                                                     True ∧
                                                      True ∧
                                                       True ∧
                                                        match eqB (seeV j l) (vl j l) with
                                                        | true => True ∧ True ∧ (∃ (l_1 : List D), ∃ (j_1 : Int), [D.slc (2 : Nat) l, D.val (Value.int IntKind.i64 j)] = [D.slc (2 : Nat) l_1, D.val (Value.int IntKind.i64 j_1)] ∧ okl l_1) ∧ True ∧ True ∧ True ∧ True ∧ (false = false ∧ True) ∧ D.val (Value.bool (mayE j l == (0 : Int))) = F
                                                        | false => True ∧ True ∧ (false = false ∧ True) ∧ D.val (Value.bool false) = F
                                                 | false => True ∧ True ∧ True ∧ True ∧ (false = false ∧ True) ∧ D.val (Value.bool false) = F
                           | false =>
                            True ∧
                             True ∧
                              True ∧
                               True ∧
                                match decide (j < (13 : Int)) with
                                | true =>
                                 True ∧
                                  True ∧
                                   True ∧
                                    True ∧
                                     True ∧
                                      True ∧
                                       True ∧
                                        True ∧
                                         match seeE j l == (0 : Int) with
                                         | true =>
                                          True ∧
                                           isBytes (seeV j l) ∧
                                            True ∧
                                             True ∧
                                              True ∧
                                               True ∧
                                                match eqB (seeV j l) (vl j l) with
                                                | true => True ∧ True ∧ (∃ (l_1 : List D), ∃ (j_1 : Int), [D.slc (2 : Nat) l, D.val (Value.int IntKind.i64 j)] = [D.slc (2 : Nat) l_1, D.val (Value.int IntKind.i64 j_1)] ∧ okl l_1) ∧ True ∧ True ∧ True ∧ True ∧ (false = false ∧ True) ∧ D.val (Value.bool (mayE j l == (13 : Int))) = F
                                                | false => True ∧ True ∧ (false = false ∧ True) ∧ D.val (Value.bool false) = F
                                         | false => True ∧ True ∧ True ∧ True ∧ (false = false ∧ True) ∧ D.val (Value.bool false) = F
                                | false =>
                                 True ∧
                                  True ∧
                                   True ∧
                                    match decide (j > (18 : Int)) with
                                    | true =>
                                     True ∧
                                      True ∧
                                       True ∧
                                        True ∧
                                         True ∧
                                          True ∧
                                           True ∧
                                            match seeE j l == (0 : Int) with
                                            | true =>
                                             True ∧
                                              isBytes (seeV j l) ∧
                                               True ∧
                                                True ∧
                                                 True ∧
                                                  True ∧
                                                   match eqB (seeV j l) (vl j l) with
                                                   | true => True ∧ True ∧ (∃ (l_1 : List D), ∃ (j_1 : Int), [D.slc (2 : Nat) l, D.val (Value.int IntKind.i64 j)] = [D.slc (2 : Nat) l_1, D.val (Value.int IntKind.i64 j_1)] ∧ okl l_1) ∧ True ∧ True ∧ True ∧ True ∧ (false = false ∧ True) ∧ D.val (Value.bool (mayE j l == (13 : Int))) = F
                                                   | false => True ∧ True ∧ (false = false ∧ True) ∧ D.val (Value.bool false) = F
                                            | false => True ∧ True ∧ True ∧ True ∧ (false = false ∧ True) ∧ D.val (Value.bool false) = F
                                    | false =>
                                     True ∧
                                      True ∧
                                       match !eqB (vl j l) (ints { data := { toList := [(1 : UInt8)] } }) with
                                       | true =>
                                        True ∧
                                         True ∧
                                          True ∧
                                           True ∧
                                            True ∧
                                             True ∧
                                              True ∧
                                               match seeE j l == (0 : Int) with
                                               | true =>
                                                True ∧
                                                 isBytes (seeV j l) ∧
                                                  True ∧
                                                   True ∧
                                                    True ∧
                                                     True ∧
                                                      match eqB (seeV j l) (vl j l) with
                                                      | true => True ∧ True ∧ (∃ (l_1 : List D), ∃ (j_1 : Int), [D.slc (2 : Nat) l, D.val (Value.int IntKind.i64 j)] = [D.slc (2 : Nat) l_1, D.val (Value.int IntKind.i64 j_1)] ∧ okl l_1) ∧ True ∧ True ∧ True ∧ True ∧ (false = false ∧ True) ∧ D.val (Value.bool (mayE j l == (12 : Int))) = F
                                                      | false => True ∧ True ∧ (false = false ∧ True) ∧ D.val (Value.bool false) = F
                                               | false => True ∧ True ∧ True ∧ True ∧ (false = false ∧ True) ∧ D.val (Value.bool false) = F
                                       | false =>
                                        True ∧
                                         True ∧
                                          True ∧
                                           True ∧
                                            True ∧
                                             True ∧
                                              match seeE j l == (0 : Int) with
                                              | true =>
                                               True ∧
                                                isBytes (seeV j l) ∧
                                                 True ∧
                                                  True ∧
                                                   True ∧
                                                    True ∧
                                                     match eqB (seeV j l) (vl j l) with
                                                     | true => True ∧ True ∧ (∃ (l_1 : List D), ∃ (j_1 : Int), [D.slc (2 : Nat) l, D.val (Value.int IntKind.i64 j)] = [D.slc (2 : Nat) l_1, D.val (Value.int IntKind.i64 j_1)] ∧ okl l_1) ∧ True ∧ True ∧ True ∧ True ∧ (false = false ∧ True) ∧ D.val (Value.bool (mayE j l == (0 : Int))) = F
                                                     | false => True ∧ True ∧ (false = false ∧ True) ∧ D.val (Value.bool false) = F
                                              | false => True ∧ True ∧ True ∧ True ∧ (false = false ∧ True) ∧ D.val (Value.bool false) = F) := by kernel_rfl
set_option maxRecDepth 100000 in
theorem ok29  (d : D)  :
    (OkT tab 8 29 d) = (
 ∃ (xs : List D), d = D.slc (2 : Nat) xs ∧ (∀ (y : D), y ∈ xs → ∃ (ds : List D), y = D.st ds ∧ OkL (OkT tab (6 : Nat)) [((0 : Nat), (3 : TypeId)), ((1 : Nat), (28 : TypeId))] ds) ∧ xs.length ≤ (9223372036854775807 : Nat) ∧ xs.length * (32 : Nat) ≤ (140737488351232 : Nat)) := by kernel_rfl
set_option maxRecDepth 100000 in
theorem ok105  (d : D)  :
    (OkT tab 7 105 d) = (
 ∃ (ds : List D), d = D.st ds ∧ OkL (OkT tab (6 : Nat)) [((0 : Nat), (3 : TypeId)), ((1 : Nat), (28 : TypeId))] ds) := by kernel_rfl
set_option maxRecDepth 100000 in
theorem ok3  (d : D)  :
    (OkT tab 6 3 d) = (
 ∃ (z : Int), d = D.val (Value.int IntKind.i64 z) ∧ -(2 : Int) ^ (63 : Nat) ≤ z ∧ z ≤ IntKind.i64.max) := by kernel_rfl
set_option maxRecDepth 100000 in
theorem ok3b  (d : D)  :
    (OkT tab 8 3 d) = (
 ∃ (z : Int), d = D.val (Value.int IntKind.i64 z) ∧ -(2 : Int) ^ (63 : Nat) ≤ z ∧ z ≤ IntKind.i64.max) := by kernel_rfl
set_option maxRecDepth 100000 in
theorem ok28  (d : D)  :
    (OkT tab 6 28 d) = (
 ∃ (l : List Int), d = D.ints IntKind.u8 l ∧ (∀ (z : Int), z ∈ l → (0 : Int) ≤ z ∧ z ≤ IntKind.u8.max) ∧ l.length ≤ (9223372036854775807 : Nat) ∧ l.length * (1 : Nat) ≤ (140737488351232 : Nat)) := by kernel_rfl

theorem fi_le (k : Int) : ∀ l, fi k l ≤ l.length
  | [] => Nat.le_refl _
  | d :: r => by
    unfold fi
    split
    · exact Nat.zero_le _
    · exact Nat.succ_le_succ (fi_le k r)
theorem fi_at (k : Int) : ∀ l x, x ≤ fi k l → x < l.length → kOf (l.getD x default) = k → fi k l = x
  | [], x, _, h, _ => by simp at h
  | d :: r, x, h1, h2, h3 => by
    unfold fi at h1 ⊢
    by_cases hd : kOf d = k
    · rw [if_pos hd] at h1 ⊢
      omega
    · rw [if_neg hd] at h1 ⊢
      cases x with
      | zero => exact absurd h3 hd
      | succ x => rw [fi_at k r x (by omega) (by simpa using h2) (by simpa using h3)]
theorem fi_no (k : Int) : ∀ l x, x ≤ fi k l → x < l.length → kOf (l.getD x default) ≠ k → x + 1 ≤ fi k l
  | [], x, _, h, _ => by simp at h
  | d :: r, x, h1, h2, h3 => by
    unfold fi at h1 ⊢
    by_cases hd : kOf d = k
    · rw [if_pos hd] at h1
      obtain rfl : x = 0 := by omega
      exact absurd hd h3
    · rw [if_neg hd] at h1 ⊢
      cases x with
      | zero => omega
      | succ x =>
        have := fi_no k r x (by omega) (by simpa using h2) (by simpa using h3)
        omega
theorem el {l : List D} (h : okl l) {x : Nat} (hx : x < l.length) : ∃ k v, l.getD x (.val (.bool false)) = at_ k v ∧ v.length ≤ 140737488351232 ∧ isBytes v := by
  have hm : l.getD x (.val (.bool false)) ∈ l := by
    rw [List.getD_eq_getElem?_getD, List.getElem?_eq_getElem hx]
    exact List.getElem_mem hx
  obtain ⟨k, v, e, h1, h2⟩ := h.1 _ hm
  exact ⟨k, v, e, h1, h2⟩
theorem vl_ok {l : List D} (h : okl l) (k : Int) : (vl k l).length ≤ 140737488351232 ∧ isBytes (vl k l) := by
  unfold vl
  split
  · rename_i hx
    obtain ⟨k', v, e, h1, h2⟩ := el h hx
    rw [show l.getD (fi k l) default = at_ k' v from e]
    exact ⟨h1, h2⟩
  · exact ⟨by simp, fun x hx => by cases hx⟩

set_option maxRecDepth 100000 in
theorem m81 : Meets Try.prog 81 sp81 := by
  refine meets_of_owed (C := c0) ⟨tab_ok, fun f s h => by cases h⟩ (by kernel_rfl) (by kernel_rfl : Try.prog.funcs[81]? = some Try.f81) (by kernel_rfl) (by kernel_rfl) (by kernel_rfl) _ ?_
  rintro _ ⟨k, v, j, rfl⟩
  refine ⟨fun _ => rfl, fun _ => none, ?_⟩
  show owed c0 (fun _ => none) Try.f81 [at_ k v, .ref (i64 j)] (bl (decide (k = j)))
  rw [vc81]
  simp (decide := true) only [eq_self, true_and, and_true, ne_eq, not_false_eq_true]
  congr 2

set_option maxRecDepth 100000 in
theorem m80 : Meets Try.prog 80 sp80 := by
  refine meets_of_owed (C := c80) ⟨tab_ok, lkS_ok ⟨m81, trivial⟩⟩ (by kernel_rfl) (by kernel_rfl : Try.prog.funcs[80]? = some Try.f80) (by kernel_rfl) (by kernel_rfl) (by kernel_rfl) _ ?_
  rintro _ ⟨l, j, rfl, hl⟩
  refine ⟨fun _ => rfl, inv80 j l, ?_⟩
  show owed c80 (inv80 j l) Try.f80 [.slc 2 l, .clo 81 [.ref (i64 j)]] (i64 (fx j l))
  have hl2 := hl.2
  rw [vc80]
  simp (decide := true) only [eq_self, true_and, and_true, ne_eq, not_false_eq_true]
  refine ⟨⟨rfl, Nat.zero_le _⟩, fun x hx => ?_⟩
  have hle := fi_le j l
  split
  · rename_i h
    have h : x < l.length := by have := of_decide_eq_true h; omega
    obtain ⟨k, v, e, h1, h2⟩ := el hl h
    rw [Int.toNat_natCast, e]
    refine ⟨⟨by omega, by omega, rfl⟩, ⟨_, _, _, rfl⟩, ?_⟩
    show match decide (k = j) with | true => _ | false => _
    split
    · rename_i hk
      have hk := of_decide_eq_true hk
      have := fi_at j l x hx h (by rw [show l.getD x default = at_ k v from e]; exact hk)
      rw [fx, this, if_pos h]
    · rename_i hk
      have hk := of_decide_eq_false hk
      have := fi_no j l x hx h (by rw [show l.getD x default = at_ k v from e]; exact hk)
      rw [show (x : Int) + 1 = ((x + 1 : Nat) : Int) by omega, wNi (n := x + 1) (by omega), Int.toNat_natCast]
      exact ⟨rfl, this, by omega⟩
  · rename_i h
    have h := of_decide_eq_false h
    rw [fx, if_neg (by omega)]

set_option maxRecDepth 100000 in
theorem m77 : Meets Try.prog 77 sp77 := by
  refine meets_of_owed (C := c77) ⟨tab_ok, lkS_ok ⟨m80, trivial⟩⟩ (by kernel_rfl) (by kernel_rfl : Try.prog.funcs[77]? = some Try.f77) (by kernel_rfl) (by kernel_rfl) (by kernel_rfl) _ ?_
  rintro _ ⟨l, j, rfl, hl⟩
  refine ⟨fun _ => rfl, fun _ => none, ?_⟩
  show owed c77 (fun _ => none) Try.f77 [.slc 2 l, i64 j] (i64 (fx j l))
  rw [vc77]
  simp (decide := true) only [eq_self, true_and, and_true, ne_eq, not_false_eq_true]
  exact ⟨_, _, rfl, hl⟩

set_option maxRecDepth 100000 in
theorem m78 : Meets Try.prog 78 sp78 := by
  refine meets_of_owed (C := c78) ⟨tab_ok, fun f s h => by cases h⟩ (by kernel_rfl) (by kernel_rfl : Try.prog.funcs[78]? = some Try.f78) (by kernel_rfl) (by kernel_rfl) (by kernel_rfl) _ ?_
  rintro _ ⟨v, rfl, hv⟩
  refine ⟨(fun h => by cases h), fun _ => none, ?_⟩
  show owed c78 (fun _ => none) Try.f78 [.ints .u8 v] (.ints .u8 v)
  rw [vc78]
  simp (decide := true) only [eq_self, true_and, and_true, ne_eq, not_false_eq_true]
  refine ⟨fun h => by rw [List.eq_nil_of_length_eq_zero h], fun _ => by omega⟩

set_option maxRecDepth 100000 in
theorem m66 : Meets Try.prog 66 sp66 := by
  refine meets_of_owed (C := c66) ⟨tab_ok, lkS_ok ⟨m77, m78, trivial⟩⟩ (by kernel_rfl) (by kernel_rfl : Try.prog.funcs[66]? = some Try.f66) (by kernel_rfl) (by kernel_rfl) (by kernel_rfl) _ ?_
  rintro _ ⟨l, j, rfl, hl⟩
  refine ⟨(fun h => by cases h), fun _ => none, ?_⟩
  show owed c66 (fun _ => none) Try.f66 [.slc 2 l, i64 j] (.tup [.ints .u8 (vl j l), bl (has j l)])
  rw [vc66]
  simp (decide := true) only [eq_self, true_and, and_true, ne_eq, not_false_eq_true]
  refine ⟨⟨_, _, rfl, hl⟩, ?_⟩
  unfold vl has fx
  split
  · rename_i h
    have h := of_decide_eq_true h
    split at h
    · omega
    · rename_i h2
      rw [if_neg h2, decide_eq_false h2]
  · rename_i h
    have h := of_decide_eq_false h
    split at h
    · rename_i h2
      obtain ⟨k, v, e, h3, h4⟩ := el hl h2
      rw [if_pos h2, if_pos h2, decide_eq_true h2, Int.toNat_natCast, show l.getD (fi j l) default = at_ k v from e, e]
      exact ⟨⟨by omega, by omega, rfl⟩, ⟨_, rfl, h3⟩, rfl⟩
    · omega

set_option maxRecDepth 100000 in
theorem m69 : Meets Try.prog 69 sp69 := by
  refine meets_of_owed (C := c69) ⟨tab_ok, lkS_ok ⟨m77, trivial⟩⟩ (by kernel_rfl) (by kernel_rfl : Try.prog.funcs[69]? = some Try.f69) (by kernel_rfl) (by kernel_rfl) (by kernel_rfl) _ ?_
  rintro _ ⟨l, j, rfl, hl⟩
  refine ⟨fun _ => rfl, fun _ => none, ?_⟩
  show owed c69 (fun _ => none) Try.f69 [.slc 2 l, i64 j] (bl (isb j l))
  rw [vc69]
  simp (decide := true) only [eq_self, true_and, and_true, ne_eq, not_false_eq_true]
  refine ⟨⟨_, _, rfl, hl⟩, ?_⟩
  unfold isb vl has fx
  split
  · rename_i h
    have h := of_decide_eq_true h
    split at h
    · rename_i h2
      obtain ⟨k, v, e, h3, h4⟩ := el hl h2
      rw [if_pos h2, if_pos h2, decide_eq_true h2, Int.toNat_natCast, show l.getD (fi j l) default = at_ k v from e, e]
      refine ⟨⟨by omega, by omega, rfl⟩, ?_⟩
      show match (v.length : Int) == 1 with | true => _ | false => _
      split
      · rename_i h5
        have h5 : v.length = 1 := by have := eq_of_beq h5; omega
        obtain ⟨a, rfl⟩ := List.length_eq_one_iff.1 h5
        refine ⟨⟨by omega, by omega, rfl⟩, (by simp [fldOf, intsOf]), ?_⟩
        show bl (a == 1) = bl (true && decide ([a] = [1]))
        congr 2
        by_cases ha : a = 1 <;> simp [ha]
      · rename_i h5
        congr 2
        rw [Bool.true_and]
        symm
        refine decide_eq_false fun h6 => ?_
        change v = [1] at h6
        rw [h6] at h5
        cases h5
    · omega
  · rename_i h
    have h := of_decide_eq_false h
    split at h
    · omega
    · rename_i h2
      rw [decide_eq_false h2, Bool.false_and]

set_option maxRecDepth 100000 in
theorem m67 : Meets Try.prog 67 sp67 := by
  refine meets_of_owed (C := c67) ⟨tab_ok, lkS_ok ⟨m66, m69, trivial⟩⟩ (by kernel_rfl) (by kernel_rfl : Try.prog.funcs[67]? = some Try.f67) (by kernel_rfl) (by kernel_rfl) (by kernel_rfl) _ ?_
  rintro _ ⟨l, rfl, hl⟩
  refine ⟨fun _ => rfl, fun _ => none, ?_⟩
  show owed c67 (fun _ => none) Try.f67 [.slc 2 l] (bl (hid l))
  rw [vc67]
  simp (decide := true) only [eq_self, true_and, and_true, ne_eq, not_false_eq_true]
  refine ⟨⟨_, _, rfl, hl⟩, ⟨_, _, rfl, hl⟩, ?_⟩
  unfold hid
  split
  · rename_i h; rw [h]; rfl
  · rename_i h
    rw [h]
    split
    · rename_i h2; rw [h2]; exact ⟨⟨_, _, rfl, hl⟩, rfl⟩
    · rename_i h2; rw [h2]; rfl

set_option maxRecDepth 100000 in
theorem m43 : Meets Try.prog 43 sp43 := by
  refine meets_of_owed (C := c43) ⟨tab_ok, lkS_ok ⟨m66, m67, trivial⟩⟩ (by kernel_rfl) (by kernel_rfl : Try.prog.funcs[43]? = some Try.f43) (by kernel_rfl) (by kernel_rfl) (by kernel_rfl) _ ?_
  rintro _ ⟨l, j, rfl, hl⟩
  refine ⟨(fun h => by cases h), fun _ => none, ?_⟩
  show owed c43 (fun _ => none) Try.f43 [.slc 2 l, i64 j] (.tup [.ints .u8 (seeV j l), i64 (seeE j l)])
  rw [vc43]
  simp (decide := true) only [eq_self, true_and, and_true, ne_eq, not_false_eq_true]
  refine ⟨⟨_, _, rfl, hl⟩, ?_⟩
  unfold seeV seeE
  cases has j l
  · rfl
  · by_cases h4 : j = 4
    · subst h4
      refine ⟨⟨_, rfl, hl⟩, ?_⟩
      cases hid l <;> rfl
    · rw [show (j == 4) = false from beq_eq_false_iff_ne.2 h4]
      simp [h4]

set_option maxRecDepth 100000 in
theorem m46 : Meets Try.prog 46 sp46 := by
  refine meets_of_owed (C := c46) ⟨tab_ok, lkS_ok ⟨m66, m69, trivial⟩⟩ (by kernel_rfl) (by kernel_rfl : Try.prog.funcs[46]? = some Try.f46) (by kernel_rfl) (by kernel_rfl) (by kernel_rfl) _ ?_
  rintro _ ⟨l, j, rfl, hl⟩
  refine ⟨fun _ => rfl, fun _ => none, ?_⟩
  show owed c46 (fun _ => none) Try.f46 [.slc 2 l, i64 j] (i64 (mayE j l))
  rw [vc46]
  simp (decide := true) only [eq_self, true_and, and_true, ne_eq, not_false_eq_true]
  refine ⟨⟨_, _, rfl, hl⟩, ?_⟩
  unfold mayE
  cases has j l
  · rw [if_pos (.inl rfl)]; rfl
  · show match decide (j < 13) with | true => _ | false => _
    split
    · rename_i h; rw [if_pos (.inr (.inl (of_decide_eq_true h)))]
    · rename_i h
      have h := of_decide_eq_false h
      split
      · rename_i h2; rw [if_pos (.inr (.inr (of_decide_eq_true h2)))]
      · rename_i h2
        have h2 := of_decide_eq_false h2
        rw [if_neg (by
          rintro (h3 | h3 | h3)
          · cases h3
          · exact h h3
          · exact h2 h3)]
        refine ⟨⟨_, _, rfl, hl⟩, ?_⟩
        cases isb j l <;> rfl

set_option maxRecDepth 100000 in
theorem m44 : Meets Try.prog 44 sp44 := by
  refine meets_of_owed (C := c0) ⟨tab_ok, fun f s h => by cases h⟩ (by kernel_rfl) (by kernel_rfl : Try.prog.funcs[44]? = some Try.f44) (by kernel_rfl) (by kernel_rfl) (by kernel_rfl) _ ?_
  rintro _ ⟨l, j, rfl, hl⟩
  refine ⟨fun _ => rfl, inv44 j l, ?_⟩
  show owed c0 (inv44 j l) Try.f44 [.slc 2 l, i64 j] (.tup [.str (vl j l), bl (has j l)])
  have hl2 := hl.2
  rw [vc44]
  simp (decide := true) only [eq_self, true_and, and_true, ne_eq, not_false_eq_true]
  refine ⟨⟨rfl, Nat.zero_le _⟩, fun x hx => ?_⟩
  have hle := fi_le j l
  split
  · rename_i h
    have h : x < l.length := by have := of_decide_eq_true h; omega
    obtain ⟨k, v, e, h1, h2⟩ := el hl h
    rw [Int.toNat_natCast, e]
    refine ⟨⟨by omega, by omega, rfl⟩, ?_⟩
    show match k == j with | true => _ | false => _
    split
    · rename_i hk
      have hk := eq_of_beq hk
      have := fi_at j l x hx h (by rw [show l.getD x default = at_ k v from e]; exact hk)
      unfold vl has
      rw [this, if_pos h, decide_eq_true h, show l.getD x default = at_ k v from e]
      exact ⟨h2, rfl⟩
    · rename_i hk
      have hk : k ≠ j := by simpa using hk
      have := fi_no j l x hx h (by rw [show l.getD x default = at_ k v from e]; exact hk)
      rw [show (x : Int) + 1 = ((x + 1 : Nat) : Int) by omega, wNi (n := x + 1) (by omega), Int.toNat_natCast]
      exact ⟨rfl, this, by omega⟩
  · rename_i h
    have h := of_decide_eq_false h
    unfold vl has
    rw [if_neg (by omega), decide_eq_false (by omega)]
    rfl

set_option maxRecDepth 100000 in
theorem m68 : Meets Try.prog 68 sp68 := by
  refine meets_of_owed (C := c0) ⟨tab_ok, fun f s h => by cases h⟩ (by kernel_rfl) (by kernel_rfl : Try.prog.funcs[68]? = some Try.f68) (by kernel_rfl) (by kernel_rfl) (by kernel_rfl) _ ?_
  rintro _ ⟨b, rfl⟩
  refine ⟨fun _ => rfl, fun _ => none, ?_⟩
  show owed c0 (fun _ => none) Try.f68 [bl b] (.str [cond b 1 0])
  rw [vc68]
  simp (decide := true) only [eq_self, true_and, and_true, ne_eq, not_false_eq_true]
  cases b <;> rfl

theorem nil1 (k : Int) (l : List D) (h : has k l = false) : vl k l = [] := by
  unfold has at h
  unfold vl
  rw [if_neg (of_decide_eq_false h)]
theorem isb_eq (k : Int) (l : List D) : isb k l = decide (vl k l = [1]) := by
  unfold isb
  cases h : has k l
  · rw [nil1 k l h]; rfl
  · rw [Bool.true_and]

set_option maxRecDepth 100000 in
theorem m45 : Meets Try.prog 45 sp45 := by
  refine meets_of_owed (C := c45) ⟨tab_ok, lkS_ok ⟨m44, m68, trivial⟩⟩ (by kernel_rfl) (by kernel_rfl : Try.prog.funcs[45]? = some Try.f45) (by kernel_rfl) (by kernel_rfl) (by kernel_rfl) _ ?_
  rintro _ ⟨l, rfl, hl⟩
  refine ⟨fun _ => rfl, fun _ => none, ?_⟩
  show owed c45 (fun _ => none) Try.f45 [.slc 2 l] (bl (hid l))
  rw [vc45]
  simp (decide := true) only [eq_self, true_and, and_true, ne_eq, not_false_eq_true]
  refine ⟨⟨_, _, rfl, hl⟩, ⟨_, _, rfl, hl⟩, ⟨_, rfl⟩, ?_⟩
  unfold hid
  rw [isb_eq, isb_eq, eqB_eq, eqB_eq]
  split
  · rename_i h; rw [h]; rfl
  · rename_i h
    rw [h]
    split
    · rename_i h2; rw [h2]; exact ⟨⟨_, rfl⟩, rfl⟩
    · rename_i h2; rw [h2]; rfl

theorem okl_cons {f : TypeId → D → Prop} {i : Nat} {t : TypeId} {ts : List (Nat × TypeId)} {ds : List D} (h : OkL f ((i, t) :: ts) ds) : ∃ d ds', ds = d :: ds' ∧ f t d ∧ OkL f ts ds' := by
  cases ds with
  | nil => exact h.elim
  | cons d ds => exact ⟨d, ds, rfl, h.1, h.2⟩
theorem okl_nil {f : TypeId → D → Prop} {ds : List D} (h : OkL f [] ds) : ds = [] := by
  cases ds with
  | nil => rfl
  | cons d ds => exact h.elim
theorem list_of {d : D} (h : OkT tab 8 29 d) : ∃ l, d = .slc 2 l ∧ okl l := by
  rw [ok29] at h
  obtain ⟨xs, rfl, h1, _, h2⟩ := h
  refine ⟨xs, rfl, fun x hx => ?_, by omega⟩
  obtain ⟨ds, rfl, h⟩ := h1 x hx
  obtain ⟨a, ds, rfl, ha, h⟩ := okl_cons h
  obtain ⟨b, ds, rfl, hb, h⟩ := okl_cons h
  obtain rfl := okl_nil h
  rw [ok3] at ha
  rw [ok28] at hb
  obtain ⟨k, rfl, _⟩ := ha
  obtain ⟨v, rfl, hv, _, hl⟩ := hb
  refine ⟨k, v, rfl, by omega, fun x hx => ?_⟩
  obtain ⟨g1, g2⟩ := hv x hx
  exact ⟨g1, by have : x ≤ 255 := g2; omega⟩

theorem okAll2 {t : Tab} {n : Nat} {a b : TypeId} : ∀ {ds : List D}, OkAll t n [a, b] ds → ∃ d e, ds = [d, e] ∧ OkT t n a d ∧ OkT t n b e
  | [], h => h.elim
  | [_], h => h.2.elim
  | [d, e], h => ⟨d, e, rfl, h.1, h.2.1⟩
  | _ :: _ :: _ :: _, h => h.2.2.elim

theorem val8 (l : List D) (j : Int) : seeE j l = (bif !has j l then 13 else bif j == 4 && hid l then 12 else 0) ∧ mayE j l = (bif !has j l then 13 else bif decide (j < 13) then 13 else bif decide (j > 18) then 13 else bif !isb j l then 12 else 0) := by
  constructor
  · unfold seeE
    cases has j l
    · rfl
    · by_cases h : j = 4
      · subst h; cases hid l <;> rfl
      · rw [show (j == 4) = false from beq_eq_false_iff_ne.2 h]; simp [h]
  · unfold mayE
    cases has j l
    · rw [if_pos (.inl rfl)]; rfl
    · by_cases h : j < 13
      · rw [if_pos (.inr (.inl h)), decide_eq_true h]; rfl
      · by_cases h2 : 18 < j
        · rw [if_pos (.inr (.inr h2)), decide_eq_false h, decide_eq_true h2]; rfl
        · rw [if_neg (by
            rintro (h3 | h3 | h3)
            · cases h3
            · exact h h3
            · exact h2 h3), decide_eq_false h, decide_eq_false h2]
          cases isb j l <;> rfl

set_option maxRecDepth 100000 in
theorem m8 : Meets Try.prog 8 (lawSpec tab Try.f8.params.toList) := by
  refine meets_of_owed (C := c8) ⟨tab_ok, lkS_ok ⟨m43, m44, m45, m46, trivial⟩⟩ (by kernel_rfl) (by kernel_rfl : Try.prog.funcs[8]? = some Try.f8) (by kernel_rfl) (by kernel_rfl) (by kernel_rfl) _ ?_
  intro ds hds
  obtain ⟨l, j, rfl, hl⟩ : ∃ l j, ds = [.slc 2 l, i64 j] ∧ okl l := by
    have hds : OkAll tab 8 [29, 3] ds := hds
    obtain ⟨d, e, rfl, h1, h2⟩ := okAll2 hds
    obtain ⟨l, rfl, hl⟩ := list_of h1
    rw [ok3b] at h2
    obtain ⟨j, rfl, _⟩ := h2
    exact ⟨l, j, rfl, hl⟩
  refine ⟨fun _ => rfl, fun _ => none, ?_⟩
  show owed c8 (fun _ => none) Try.f8 [.slc 2 l, i64 j] (bl true)
  rw [vc8]
  have hb : isBytes (seeV j l) := by
    unfold seeV
    split
    · exact (vl_ok hl j).2
    · intro x hx; cases hx
  have ex1 : (∃ (l_1 : List D) (j_1 : Int), [D.slc 2 l, D.val (Value.int IntKind.i64 j)] = [D.slc 2 l_1, D.val (Value.int IntKind.i64 j_1)] ∧ okl l_1) = True := eq_true ⟨_, _, rfl, hl⟩
  have ex2 : (∃ (l_1 : List D), [D.slc 2 l] = [D.slc 2 l_1] ∧ okl l_1) = True := eq_true ⟨_, rfl, hl⟩
  obtain ⟨hE, hM⟩ := val8 l j
  have hn := nil1 j l
  have hi := isb_eq j l
  simp (decide := true) only [eq_self, true_and, and_true, ne_eq, not_false_eq_true, ex1, ex2, eq_true hb]
  have hV : seeV j l = if seeE j l = 0 then vl j l else [] := rfl
  rw [hV, hE, hM, hi]
  simp only [eqB_eq, show ints { data := { toList := [] } } = [] from rfl, show ints { data := { toList := [(1 : UInt8)] } } = [1] from rfl]
  generalize has j l = b1 at *
  generalize hid l = b2 at *
  generalize decide (j < 13) = b3 at *
  generalize decide (j > 18) = b4 at *
  generalize (j == 4) = b5 at *
  generalize vl j l = v at *
  clear hV hE hM hi hb ex1 ex2
  by_cases hv : v = [1]
  · subst hv
    cases b1
    · exact absurd (hn rfl) (by decide)
    · cases b2 <;> cases b3 <;> cases b4 <;> cases b5 <;> simp
  · cases b1
    · rw [hn rfl]; simp
    · cases b2 <;> cases b3 <;> cases b4 <;> cases b5 <;> simp [hv]

end Go.Proofs.Ytcdjhhepgkcabaa
