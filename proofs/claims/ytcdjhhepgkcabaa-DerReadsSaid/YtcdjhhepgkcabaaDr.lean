import Derived.Test.YtcdjhhepgkcabaaVgU
import Derived.Test.YtcdjhhepgkcabaaTab
/- DerReads: what First and Read compute, and the law. -/
namespace Go.Proofs.Ytcdjhhepgkcabaa
open Go Go.Vg

abbrev u8 (n : Nat) : D := .val (.int .u8 (n : Int))
abbrev i64n (n : Nat) : D := .val (.int .i64 (n : Int))
abbrev bs (l : List Int) : D := .ints .u8 l
def okb (l : List Int) : Prop := ∀ x ∈ l, 0 ≤ x ∧ x < 256
def lenB (l : List Int) : Prop := l.length ≤ 9223372036854775807

/-- byte i -/
def g (l : List Int) (i : Nat) : Nat := (l.getD i 0).toNat
/-- how long, of how many bytes, what fails. -/
def hd (l : List Int) : Nat × Nat × Nat :=
  if l.length = 0 then (0, 0, 3)
  else if g l 0 < 128 then (g l 0, 1, 0)
  else if g l 0 = 128 ∨ g l 0 > 130 then (0, 0, 4)
  else if l.length < g l 0 - 127 then (0, 0, 3)
  else if g l 0 = 129 then (if g l 1 < 128 then (0, 0, 4) else (g l 1, 2, 0))
  else if g l 1 * 256 + g l 2 < 256 then (0, 0, 4) else (g l 1 * 256 + g l 2, 3, 0)
def hN (l : List Int) : Nat := (hd l).1
def hA (l : List Int) : Nat := (hd l).2.1
def hE (l : List Int) : Nat := (hd l).2.2
/-- the tag, the body, of how many bytes, what fails. -/
def fst' (l : List Int) : Nat × List Int × Nat × Nat :=
  if l.length = 0 then (0, [], 0, 3)
  else if hE (l.drop 1) ≠ 0 then (0, [], 0, hE (l.drop 1))
  else if hN (l.drop 1) > 4096 then (0, [], 0, 2)
  else if hN (l.drop 1) + (1 + hA (l.drop 1)) > l.length then (0, [], 0, 3)
  else (g l 0, (l.drop (1 + hA (l.drop 1))).take (hN (l.drop 1)), 1 + hA (l.drop 1) + hN (l.drop 1), 0)
def fT (l : List Int) : Nat := (fst' l).1
def fB (l : List Int) : List Int := (fst' l).2.1
def fN (l : List Int) : Nat := (fst' l).2.2.1
def fE (l : List Int) : Nat := (fst' l).2.2.2
abbrev itm (l : List Int) : D := .st [u8 (fT l), bs (fB l)]
def rd : Nat → List Int → List D → List D × Nat
  | 0, l, out => if l.length = 0 then (out, 0) else ([], 2)
  | k + 1, l, out => if l.length = 0 then (out, 0) else if fE l ≠ 0 then ([], fE l) else rd k (l.drop (fN l)) (out ++ [itm l])
def rL (l : List Int) : List D := if l.length > 65536 then [] else (rd 200 l []).1
def rE (l : List Int) : Nat := if l.length > 65536 then 2 else (rd 200 l []).2
def isI (d : D) : Prop := ∃ (t : Nat) (b : List Int), d = .st [u8 t, bs b] ∧ t < 256 ∧ okb b ∧ lenB b
def isL (xs : List D) : Prop := (∀ d ∈ xs, isI d) ∧ xs.length ≤ 1000

def sp70 : Go.Vg.Spec := ⟨fun ds => ∃ l, ds = [bs l] ∧ okb l ∧ lenB l, fun ds => .tup [i64n (hN (intsOf (ds.headD default))), i64n (hA (intsOf (ds.headD default))), i64n (hE (intsOf (ds.headD default)))], true, [28]⟩
def sp49 : Go.Vg.Spec := ⟨fun ds => ∃ l, ds = [bs l] ∧ okb l ∧ lenB l, fun ds => .tup [itm (intsOf (ds.headD default)), i64n (fN (intsOf (ds.headD default))), i64n (fE (intsOf (ds.headD default)))], false, [28]⟩
def sp50 : Go.Vg.Spec := ⟨fun ds => ∃ l, ds = [.str l] ∧ okb l ∧ lenB l, fun ds => .tup [itm (strOf (ds.headD default)), i64n (fN (strOf (ds.headD default))), i64n (fE (strOf (ds.headD default)))], false, [9]⟩
def sp47 : Go.Vg.Spec := ⟨fun ds => ∃ l, ds = [bs l] ∧ okb l ∧ lenB l, fun ds => .tup [.slc 2 (rL (intsOf (ds.headD default))), i64n (rE (intsOf (ds.headD default)))], false, [28]⟩
def sp48 : Go.Vg.Spec := ⟨fun ds => ∃ l, ds = [.str l] ∧ okb l ∧ lenB l, fun ds => .tup [.slc 2 (rL (strOf (ds.headD default))), i64n (rE (strOf (ds.headD default)))], false, [9]⟩
def sp51 : Go.Vg.Spec := ⟨fun ds => ∃ xs, ds = [.slc 2 xs, .slc 2 xs] ∧ isL xs, fun _ => bl true, true, [34, 34]⟩

def c0 : Ctx := ⟨tab, fun _ => none, [], []⟩
def c49 : Ctx := ⟨tab, lkS [(70, sp70)], [], []⟩
def c50 : Ctx := ⟨tab, fun _ => none, [], []⟩
def c47 : Ctx := ⟨tab, lkS [(49, sp49)], [4], []⟩
def c48 : Ctx := ⟨tab, lkS [(50, sp50)], [4], []⟩
def rowX (s : St) (b : Nat) : List D :=
  match Go.Vg.look s.M b with
  | some (.row _ x) => xsOf x
  | _ => []
def inv47 (l : List Int) : Nat → Option Inv
  | 4 => some ⟨List Int × List D, fun x => [(0, .d (bs x.1)), (4, .row 4)], fun x => [(4, .row 78 (.slc 2 x.2))], fun s => (intsOf (slotD s 0), rowX s 4),
      fun _ x => (okb x.1 ∧ x.1.length ≤ 65536) ∧ (isL x.2 ∧ x.2.length ≤ 200) ∧ rd (200 - x.2.length) x.1 x.2 = rd 200 l [], fun x => 201 - x.2.length⟩
  | _ => none
def inv48 (l : List Int) : Nat → Option Inv
  | 4 => some ⟨List Int × List D, fun x => [(0, .d (.str x.1)), (4, .row 4)], fun x => [(4, .row 78 (.slc 2 x.2))], fun s => (strOf (slotD s 0), rowX s 4),
      fun _ x => (okb x.1 ∧ x.1.length ≤ 65536) ∧ (isL x.2 ∧ x.2.length ≤ 200) ∧ rd (200 - x.2.length) x.1 x.2 = rd 200 l [], fun x => 201 - x.2.length⟩
  | _ => none
def inv51 (xs : List D) : Nat → Option Inv
  | 4 => some ⟨Nat, fun i => [(13, .d (i64n i))], fun _ => [], fun s => (slotN s 13).toNat, fun _ i => i ≤ xs.length, fun i => xs.length - i⟩
  | _ => none
def c9 : Ctx := ⟨tab, lkS [(47, sp47), (48, sp48), (49, sp49), (50, sp50), (51, sp51)], [], []⟩

--KEEP Go.Vg.eqB okb lenB hN hA hE fT fB fN fE rd rL rE isI isL
set_option maxRecDepth 100000 in
theorem vc70  (l : List Int) (F : D)  :
    (owed c0 (fun _ => none) Try.f70 [bs l] F) = (
 True ∧
   True ∧
    True ∧
     True ∧
      True ∧
       True ∧
        match (↑l.length : Int) == (0 : Int) with
        | true => True ∧ True ∧ True ∧ (false = false ∧ false = false ∧ false = false ∧ True) ∧ D.tup [D.val (Value.int IntKind.i64 (0 : Int)), D.val (Value.int IntKind.i64 (0 : Int)), D.val (Value.int IntKind.i64 (3 : Int))] = F
        | false =>
         True ∧
          ((0 : Int) ≤ (0 : Int) ∧ (0 : Int) < (↑l.length : Int) ∧ (1 : Nat) = (1 : Nat)) ∧
           ((1 : Nat) ≠ (0 : Nat) ∧ (1 : Nat) = (1 : Nat) ∧ false = false) ∧
            True ∧
             True ∧
              True ∧
               True ∧
                match decide (l.getD (0 : Nat) (0 : Int) < (128 : Int)) with
                | true => True ∧ True ∧ True ∧ True ∧ True ∧ (false = false ∧ false = false ∧ false = false ∧ True) ∧ D.tup [D.val (Value.int IntKind.i64 (IntKind.i64.wrap (l.getD (0 : Nat) (0 : Int)))), D.val (Value.int IntKind.i64 (1 : Int)), D.val (Value.int IntKind.i64 (0 : Int))] = F
                | false =>
                 True ∧
                  True ∧
                   True ∧
                    match l.getD (0 : Nat) (0 : Int) == (128 : Int) with
                    | true => True ∧ True ∧ True ∧ True ∧ True ∧ (false = false ∧ false = false ∧ false = false ∧ True) ∧ D.tup [D.val (Value.int IntKind.i64 (0 : Int)), D.val (Value.int IntKind.i64 (0 : Int)), D.val (Value.int IntKind.i64 (4 : Int))] = F
                    | false =>
                     True ∧
                      True ∧
                       True ∧
                        True ∧
                         match decide (l.getD (0 : Nat) (0 : Int) > (130 : Int)) with
                         | true => True ∧ True ∧ True ∧ (false = false ∧ false = false ∧ false = false ∧ True) ∧ D.tup [D.val (Value.int IntKind.i64 (0 : Int)), D.val (Value.int IntKind.i64 (0 : Int)), D.val (Value.int IntKind.i64 (4 : Int))] = F
                         | false =>
                          True ∧
                           True ∧
                            True ∧
                             True ∧
                              True ∧
                               True ∧
                                True ∧
                                 match decide ((↑l.length : Int) < IntKind.i64.wrap (IntKind.i64.wrap (l.getD (0 : Nat) (0 : Int)) - (127 : Int))) with
                                 | true => True ∧ True ∧ True ∧ (false = false ∧ false = false ∧ false = false ∧ True) ∧ D.tup [D.val (Value.int IntKind.i64 (0 : Int)), D.val (Value.int IntKind.i64 (0 : Int)), D.val (Value.int IntKind.i64 (3 : Int))] = F
                                 | false =>
                                  True ∧
                                   True ∧
                                    True ∧
                                     match l.getD (0 : Nat) (0 : Int) == (129 : Int) with
                                     | true =>
                                      True ∧
                                       ((0 : Int) ≤ (1 : Int) ∧ (1 : Int) < (↑l.length : Int) ∧ (1 : Nat) = (1 : Nat)) ∧
                                        ((1 : Nat) ≠ (0 : Nat) ∧ (1 : Nat) = (1 : Nat) ∧ false = false) ∧
                                         True ∧
                                          True ∧
                                           True ∧
                                            True ∧
                                             True ∧
                                              match decide (IntKind.i64.wrap (l.getD (1 : Nat) (0 : Int)) < (128 : Int)) with
                                              | true => True ∧ True ∧ True ∧ (false = false ∧ false = false ∧ false = false ∧ True) ∧ D.tup [D.val (Value.int IntKind.i64 (0 : Int)), D.val (Value.int IntKind.i64 (0 : Int)), D.val (Value.int IntKind.i64 (4 : Int))] = F
                                              | false => True ∧ True ∧ True ∧ True ∧ True ∧ (false = false ∧ false = false ∧ false = false ∧ True) ∧ D.tup [D.val (Value.int IntKind.i64 (IntKind.i64.wrap (l.getD (1 : Nat) (0 : Int)))), D.val (Value.int IntKind.i64 (2 : Int)), D.val (Value.int IntKind.i64 (0 : Int))] = F
                                     | false =>
                                      True ∧
                                       ((0 : Int) ≤ (1 : Int) ∧ (1 : Int) < (↑l.length : Int) ∧ (1 : Nat) = (1 : Nat)) ∧
                                        ((1 : Nat) ≠ (0 : Nat) ∧ (1 : Nat) = (1 : Nat) ∧ false = false) ∧
                                         True ∧
                                          (0 : Int) ≤ (8 : Int) ∧
                                           True ∧
                                            ((0 : Int) ≤ (2 : Int) ∧ (2 : Int) < (↑l.length : Int) ∧ (1 : Nat) = (1 : Nat)) ∧
                                             ((1 : Nat) ≠ (0 : Nat) ∧ (1 : Nat) = (1 : Nat) ∧ false = false) ∧
                                              True ∧
                                               True ∧
                                                True ∧
                                                 True ∧
                                                  True ∧
                                                   True ∧
                                                    match decide (ior IntKind.i64 (ishl IntKind.i64 (IntKind.i64.wrap (l.getD (1 : Nat) (0 : Int))) (8 : Int)) (IntKind.i64.wrap (l.getD (2 : Nat) (0 : Int))) < (256 : Int)) with
                                                    | true => True ∧ True ∧ True ∧ (false = false ∧ false = false ∧ false = false ∧ True) ∧ D.tup [D.val (Value.int IntKind.i64 (0 : Int)), D.val (Value.int IntKind.i64 (0 : Int)), D.val (Value.int IntKind.i64 (4 : Int))] = F
                                                    | false =>
                                                     True ∧
                                                      True ∧
                                                       True ∧
                                                        True ∧
                                                         True ∧
                                                          (false = false ∧ false = false ∧ false = false ∧ True) ∧
                                                           D.tup [D.val (Value.int IntKind.i64 (ior IntKind.i64 (ishl IntKind.i64 (IntKind.i64.wrap (l.getD (1 : Nat) (0 : Int))) (8 : Int)) (IntKind.i64.wrap (l.getD (2 : Nat) (0 : Int))))), D.val (Value.int IntKind.i64 (3 : Int)), D.val (Value.int IntKind.i64 (0 : Int))] = F) := by kernel_rfl
set_option maxRecDepth 100000 in
theorem vc49  (l : List Int) (F : D)  :
    (owed c49 (fun _ => none) Try.f49 [bs l] F) = (
 (True ∧ (2 : Nat) ≠ (0 : Nat)) ∧
   True ∧
    True ∧
     True ∧
      True ∧
       True ∧
        match (↑l.length : Int) == (0 : Int) with
        | true =>
         True ∧
          (Sk.st [Sk.one, Sk.one] = Sk.st [Sk.one, Sk.one] ∧ (2 : Nat) ≠ (0 : Nat) ∧ (2 : Nat) = (2 : Nat) ∧ false = false) ∧
           True ∧ True ∧ (((2 : Nat) ≠ (0 : Nat) ∧ (2 : Nat) = (2 : Nat) ∧ true = true) ∧ false = false ∧ false = false ∧ True) ∧ D.tup [D.st [D.val (Value.int IntKind.u8 (0 : Int)), D.ints IntKind.u8 []], D.val (Value.int IntKind.i64 (0 : Int)), D.val (Value.int IntKind.i64 (3 : Int))] = F
        | false =>
         True ∧
          ((0 : Int) ≤ (1 : Int) ∧ (1 : Int) ≤ (↑l.length : Int) ∧ (↑l.length : Int) ≤ (↑l.length : Int) ∧ (1 : Nat) = (1 : Nat)) ∧
           (∃ (l_1 : List Int), [D.ints IntKind.u8 (List.drop (1 : Nat) (List.take (↑l.length : Int).toNat l))] = [D.ints IntKind.u8 l_1] ∧ okb l_1 ∧ lenB l_1) ∧
            True ∧
             ((0 : Nat) < (3 : Nat) ∧ false = false) ∧
              ((1 : Nat) < (3 : Nat) ∧ false = false) ∧
               ((2 : Nat) < (3 : Nat) ∧ false = false) ∧
                True ∧
                 True ∧
                  True ∧
                   True ∧
                    True ∧
                     match (↑(hE (List.drop (1 : Nat) (List.take (↑l.length : Int).toNat l))) : Int) != (0 : Int) with
                     | true =>
                      True ∧
                       True ∧
                        (Sk.st [Sk.one, Sk.one] = Sk.st [Sk.one, Sk.one] ∧ (2 : Nat) ≠ (0 : Nat) ∧ (2 : Nat) = (2 : Nat) ∧ false = false) ∧
                         True ∧ True ∧ (((2 : Nat) ≠ (0 : Nat) ∧ (2 : Nat) = (2 : Nat) ∧ true = true) ∧ false = false ∧ false = false ∧ True) ∧ D.tup [D.st [D.val (Value.int IntKind.u8 (0 : Int)), D.ints IntKind.u8 []], D.val (Value.int IntKind.i64 (0 : Int)), D.val (Value.int IntKind.i64 (↑(hE (List.drop (1 : Nat) (List.take (↑l.length : Int).toNat l))) : Int))] = F
                     | false =>
                      True ∧
                       True ∧
                        True ∧
                         ((0 : Int) ≤ IntKind.i64.wrap ((1 : Int) + (↑(hA (List.drop (1 : Nat) (List.take (↑l.length : Int).toNat l))) : Int)) ∧ IntKind.i64.wrap ((1 : Int) + (↑(hA (List.drop (1 : Nat) (List.take (↑l.length : Int).toNat l))) : Int)) ≤ (↑l.length : Int) ∧ (↑l.length : Int) ≤ (↑l.length : Int) ∧ (1 : Nat) = (1 : Nat)) ∧
                          True ∧
                           True ∧
                            True ∧
                             True ∧
                              match decide ((↑(hN (List.drop (1 : Nat) (List.take (↑l.length : Int).toNat l))) : Int) > (4096 : Int)) with
                              | true =>
                               True ∧
                                (Sk.st [Sk.one, Sk.one] = Sk.st [Sk.one, Sk.one] ∧ (2 : Nat) ≠ (0 : Nat) ∧ (2 : Nat) = (2 : Nat) ∧ false = false) ∧
                                 True ∧ True ∧ (((2 : Nat) ≠ (0 : Nat) ∧ (2 : Nat) = (2 : Nat) ∧ true = true) ∧ false = false ∧ false = false ∧ True) ∧ D.tup [D.st [D.val (Value.int IntKind.u8 (0 : Int)), D.ints IntKind.u8 []], D.val (Value.int IntKind.i64 (0 : Int)), D.val (Value.int IntKind.i64 (2 : Int))] = F
                              | false =>
                               True ∧
                                True ∧
                                 True ∧
                                  True ∧
                                   True ∧
                                    match decide ((↑(hN (List.drop (1 : Nat) (List.take (↑l.length : Int).toNat l))) : Int) > (↑(List.drop (IntKind.i64.wrap ((1 : Int) + (↑(hA (List.drop (1 : Nat) (List.take (↑l.length : Int).toNat l))) : Int))).toNat (List.take (↑l.length : Int).toNat l)).length : Int)) with
                                    | true =>
                                     True ∧
                                      (Sk.st [Sk.one, Sk.one] = Sk.st [Sk.one, Sk.one] ∧ (2 : Nat) ≠ (0 : Nat) ∧ (2 : Nat) = (2 : Nat) ∧ false = false) ∧
                                       True ∧ True ∧ (((2 : Nat) ≠ (0 : Nat) ∧ (2 : Nat) = (2 : Nat) ∧ true = true) ∧ false = false ∧ false = false ∧ True) ∧ D.tup [D.st [D.val (Value.int IntKind.u8 (0 : Int)), D.ints IntKind.u8 []], D.val (Value.int IntKind.i64 (0 : Int)), D.val (Value.int IntKind.i64 (3 : Int))] = F
                                    | false =>
                                     True ∧
                                      ((0 : Int) ≤ (0 : Int) ∧ (0 : Int) < (↑l.length : Int) ∧ (1 : Nat) = (1 : Nat)) ∧
                                       ((1 : Nat) ≠ (0 : Nat) ∧ (1 : Nat) = (1 : Nat) ∧ false = false) ∧
                                        True ∧
                                         True ∧
                                          ((0 : Int) ≤ (0 : Int) ∧
                                            (0 : Int) ≤ (↑(hN (List.drop (1 : Nat) (List.take (↑l.length : Int).toNat l))) : Int) ∧
                                             (↑(hN (List.drop (1 : Nat) (List.take (↑l.length : Int).toNat l))) : Int) ≤ (↑(List.drop (IntKind.i64.wrap ((1 : Int) + (↑(hA (List.drop (1 : Nat) (List.take (↑l.length : Int).toNat l))) : Int))).toNat (List.take (↑l.length : Int).toNat l)).length : Int) ∧ (1 : Nat) = (1 : Nat)) ∧
                                           ((28 : Nat) = (28 : Nat) ∧
                                             (List.drop (0 : Nat) (List.take (↑(hN (List.drop (1 : Nat) (List.take (↑l.length : Int).toNat l))) : Int).toNat (List.drop (IntKind.i64.wrap ((1 : Int) + (↑(hA (List.drop (1 : Nat) (List.take (↑l.length : Int).toNat l))) : Int))).toNat (List.take (↑l.length : Int).toNat l)))).length ≤ (140737488355328 : Nat) ∧
                                              (List.drop (0 : Nat) (List.take (↑(hN (List.drop (1 : Nat) (List.take (↑l.length : Int).toNat l))) : Int).toNat (List.drop (IntKind.i64.wrap ((1 : Int) + (↑(hA (List.drop (1 : Nat) (List.take (↑l.length : Int).toNat l))) : Int))).toNat (List.take (↑l.length : Int).toNat l)))).length * (1 : Nat) ≤
                                                (140737488355328 : Nat) ∧
                                               (1 : Nat) = (1 : Nat)) ∧
                                            (false = false ∧ ((0 : Nat) < (2 : Nat) ∧ Sk.one = Sk.one) ∧ false = false ∧ ((1 : Nat) < (2 : Nat) ∧ Sk.one = Sk.one) ∧ True) ∧
                                             True ∧
                                              True ∧
                                               True ∧
                                                True ∧
                                                 (Sk.st [Sk.one, Sk.one] = Sk.st [Sk.one, Sk.one] ∧ (2 : Nat) ≠ (0 : Nat) ∧ (2 : Nat) = (2 : Nat) ∧ false = false) ∧
                                                  True ∧
                                                   True ∧
                                                    (((2 : Nat) ≠ (0 : Nat) ∧ (2 : Nat) = (2 : Nat) ∧ true = true) ∧ false = false ∧ false = false ∧ True) ∧
                                                     D.tup
                                                       [D.st
                                                         [D.val (Value.int IntKind.u8 (l.getD (0 : Nat) (0 : Int))),
                                                          D.ints IntKind.u8
                                                           (List.drop (0 : Nat) (List.take (↑(hN (List.drop (1 : Nat) (List.take (↑l.length : Int).toNat l))) : Int).toNat (List.drop (IntKind.i64.wrap ((1 : Int) + (↑(hA (List.drop (1 : Nat) (List.take (↑l.length : Int).toNat l))) : Int))).toNat (List.take (↑l.length : Int).toNat l))))],
                                                        D.val (Value.int IntKind.i64 (IntKind.i64.wrap (IntKind.i64.wrap ((1 : Int) + (↑(hA (List.drop (1 : Nat) (List.take (↑l.length : Int).toNat l))) : Int)) + (↑(hN (List.drop (1 : Nat) (List.take (↑l.length : Int).toNat l))) : Int)))), D.val (Value.int IntKind.i64 (0 : Int))] =
                                                      F) := by kernel_rfl
set_option maxRecDepth 100000 in
theorem vc50  (l : List Int) (F : D)  :
    (owed c50 (fun _ => none) Try.f50 [.str l] F) = (
 (True ∧ (2 : Nat) ≠ (0 : Nat)) ∧
   True ∧
    True ∧
     (True ∧ (2 : Nat) ≠ (0 : Nat)) ∧
      True ∧
       True ∧
        True ∧
         match decide ((↑l.length : Int) < (2 : Int)) with
         | true =>
          ((2 : Nat) ≠ (0 : Nat) ∧ (2 : Nat) = (2 : Nat) ∧ true = true) ∧
           (Sk.st [Sk.one, Sk.one] = Sk.st [Sk.one, Sk.one] ∧ (2 : Nat) ≠ (0 : Nat) ∧ (2 : Nat) = (2 : Nat) ∧ false = false) ∧
            True ∧ True ∧ (((2 : Nat) ≠ (0 : Nat) ∧ (2 : Nat) = (2 : Nat) ∧ true = true) ∧ false = false ∧ false = false ∧ True) ∧ D.tup [D.st [D.val (Value.int IntKind.u8 (0 : Int)), D.ints IntKind.u8 []], D.val (Value.int IntKind.i64 (0 : Int)), D.val (Value.int IntKind.i64 (3 : Int))] = F
         | false =>
          True ∧
           ((0 : Int) ≤ (1 : Int) ∧ (1 : Int) < (↑l.length : Int)) ∧
            True ∧
             True ∧
              True ∧
               True ∧
                True ∧
                 True ∧
                  match IntKind.i64.wrap (l.getD (1 : Nat) (0 : Int)) == (128 : Int) with
                  | true =>
                   True ∧
                    ((2 : Nat) ≠ (0 : Nat) ∧ (2 : Nat) = (2 : Nat) ∧ true = true) ∧
                     (Sk.st [Sk.one, Sk.one] = Sk.st [Sk.one, Sk.one] ∧ (2 : Nat) ≠ (0 : Nat) ∧ (2 : Nat) = (2 : Nat) ∧ false = false) ∧
                      True ∧ True ∧ (((2 : Nat) ≠ (0 : Nat) ∧ (2 : Nat) = (2 : Nat) ∧ true = true) ∧ false = false ∧ false = false ∧ True) ∧ D.tup [D.st [D.val (Value.int IntKind.u8 (0 : Int)), D.ints IntKind.u8 []], D.val (Value.int IntKind.i64 (0 : Int)), D.val (Value.int IntKind.i64 (4 : Int))] = F
                  | false =>
                   True ∧
                    True ∧
                     True ∧
                      match decide (IntKind.i64.wrap (l.getD (1 : Nat) (0 : Int)) > (130 : Int)) with
                      | true =>
                       ((2 : Nat) ≠ (0 : Nat) ∧ (2 : Nat) = (2 : Nat) ∧ true = true) ∧
                        (Sk.st [Sk.one, Sk.one] = Sk.st [Sk.one, Sk.one] ∧ (2 : Nat) ≠ (0 : Nat) ∧ (2 : Nat) = (2 : Nat) ∧ false = false) ∧
                         True ∧ True ∧ (((2 : Nat) ≠ (0 : Nat) ∧ (2 : Nat) = (2 : Nat) ∧ true = true) ∧ false = false ∧ false = false ∧ True) ∧ D.tup [D.st [D.val (Value.int IntKind.u8 (0 : Int)), D.ints IntKind.u8 []], D.val (Value.int IntKind.i64 (0 : Int)), D.val (Value.int IntKind.i64 (4 : Int))] = F
                      | false =>
                       True ∧
                        True ∧
                         match decide (IntKind.i64.wrap (l.getD (1 : Nat) (0 : Int)) > (128 : Int)) with
                         | true =>
                          True ∧
                           True ∧
                            True ∧
                             True ∧
                              True ∧
                               True ∧
                                True ∧
                                 True ∧
                                  match decide (IntKind.i64.wrap ((1 : Int) + IntKind.i64.wrap (IntKind.i64.wrap (l.getD (1 : Nat) (0 : Int)) - (128 : Int))) ≥ (↑l.length : Int)) with
                                  | true =>
                                   ((2 : Nat) ≠ (0 : Nat) ∧ (2 : Nat) = (2 : Nat) ∧ true = true) ∧
                                    (Sk.st [Sk.one, Sk.one] = Sk.st [Sk.one, Sk.one] ∧ (2 : Nat) ≠ (0 : Nat) ∧ (2 : Nat) = (2 : Nat) ∧ false = false) ∧
                                     True ∧ True ∧ (((2 : Nat) ≠ (0 : Nat) ∧ (2 : Nat) = (2 : Nat) ∧ true = true) ∧ false = false ∧ false = false ∧ True) ∧ D.tup [D.st [D.val (Value.int IntKind.u8 (0 : Int)), D.ints IntKind.u8 []], D.val (Value.int IntKind.i64 (0 : Int)), D.val (Value.int IntKind.i64 (3 : Int))] = F
                                  | false =>
                                   True ∧
                                    True ∧
                                     ((0 : Int) ≤ (2 : Int) ∧ (2 : Int) < (↑l.length : Int)) ∧
                                      True ∧
                                       True ∧
                                        True ∧
                                         True ∧
                                          match IntKind.i64.wrap (IntKind.i64.wrap (l.getD (1 : Nat) (0 : Int)) - (128 : Int)) == (2 : Int) with
                                          | true =>
                                           True ∧
                                            True ∧
                                             True ∧
                                              ((0 : Int) ≤ (3 : Int) ∧ (3 : Int) < (↑l.length : Int)) ∧
                                               True ∧
                                                True ∧
                                                 True ∧
                                                  True ∧
                                                   True ∧
                                                    True ∧
                                                     True ∧
                                                      match decide (IntKind.i64.wrap (IntKind.i64.wrap (IntKind.i64.wrap (l.getD (2 : Nat) (0 : Int)) * (256 : Int)) + IntKind.i64.wrap (l.getD (3 : Nat) (0 : Int))) < (256 : Int)) with
                                                      | true =>
                                                       ((2 : Nat) ≠ (0 : Nat) ∧ (2 : Nat) = (2 : Nat) ∧ true = true) ∧
                                                        (Sk.st [Sk.one, Sk.one] = Sk.st [Sk.one, Sk.one] ∧ (2 : Nat) ≠ (0 : Nat) ∧ (2 : Nat) = (2 : Nat) ∧ false = false) ∧
                                                         True ∧ True ∧ (((2 : Nat) ≠ (0 : Nat) ∧ (2 : Nat) = (2 : Nat) ∧ true = true) ∧ false = false ∧ false = false ∧ True) ∧ D.tup [D.st [D.val (Value.int IntKind.u8 (0 : Int)), D.ints IntKind.u8 []], D.val (Value.int IntKind.i64 (0 : Int)), D.val (Value.int IntKind.i64 (4 : Int))] = F
                                                      | false =>
                                                       True ∧
                                                        True ∧
                                                         True ∧
                                                          True ∧
                                                           True ∧
                                                            True ∧
                                                             True ∧
                                                              match decide (IntKind.i64.wrap (IntKind.i64.wrap (IntKind.i64.wrap (l.getD (2 : Nat) (0 : Int)) * (256 : Int)) + IntKind.i64.wrap (l.getD (3 : Nat) (0 : Int))) > (4096 : Int)) with
                                                              | true =>
                                                               ((2 : Nat) ≠ (0 : Nat) ∧ (2 : Nat) = (2 : Nat) ∧ true = true) ∧
                                                                (Sk.st [Sk.one, Sk.one] = Sk.st [Sk.one, Sk.one] ∧ (2 : Nat) ≠ (0 : Nat) ∧ (2 : Nat) = (2 : Nat) ∧ false = false) ∧
                                                                 True ∧
                                                                  True ∧
                                                                   (((2 : Nat) ≠ (0 : Nat) ∧ (2 : Nat) = (2 : Nat) ∧ true = true) ∧ false = false ∧ false = false ∧ True) ∧ D.tup [D.st [D.val (Value.int IntKind.u8 (0 : Int)), D.ints IntKind.u8 []], D.val (Value.int IntKind.i64 (0 : Int)), D.val (Value.int IntKind.i64 (2 : Int))] = F
                                                              | false =>
                                                               True ∧
                                                                True ∧
                                                                 True ∧
                                                                  True ∧
                                                                   match
                                                                    decide
                                                                     (IntKind.i64.wrap
                                                                       (IntKind.i64.wrap ((2 : Int) + IntKind.i64.wrap (IntKind.i64.wrap (l.getD (1 : Nat) (0 : Int)) - (128 : Int))) +
                                                                        IntKind.i64.wrap (IntKind.i64.wrap (IntKind.i64.wrap (l.getD (2 : Nat) (0 : Int)) * (256 : Int)) + IntKind.i64.wrap (l.getD (3 : Nat) (0 : Int)))) >
                                                                      (↑l.length : Int)) with
                                                                   | true =>
                                                                    ((2 : Nat) ≠ (0 : Nat) ∧ (2 : Nat) = (2 : Nat) ∧ true = true) ∧
                                                                     (Sk.st [Sk.one, Sk.one] = Sk.st [Sk.one, Sk.one] ∧ (2 : Nat) ≠ (0 : Nat) ∧ (2 : Nat) = (2 : Nat) ∧ false = false) ∧
                                                                      True ∧
                                                                       True ∧
                                                                        (((2 : Nat) ≠ (0 : Nat) ∧ (2 : Nat) = (2 : Nat) ∧ true = true) ∧ false = false ∧ false = false ∧ True) ∧
                                                                         D.tup [D.st [D.val (Value.int IntKind.u8 (0 : Int)), D.ints IntKind.u8 []], D.val (Value.int IntKind.i64 (0 : Int)), D.val (Value.int IntKind.i64 (3 : Int))] = F
                                                                   | false =>
                                                                    True ∧
                                                                     ((0 : Int) ≤ (0 : Int) ∧ (0 : Int) < (↑l.length : Int)) ∧
                                                                      True ∧
                                                                       True ∧
                                                                        True ∧
                                                                         True ∧
                                                                          ((0 : Int) ≤ IntKind.i64.wrap ((2 : Int) + IntKind.i64.wrap (IntKind.i64.wrap (l.getD (1 : Nat) (0 : Int)) - (128 : Int))) ∧
                                                                            IntKind.i64.wrap ((2 : Int) + IntKind.i64.wrap (IntKind.i64.wrap (l.getD (1 : Nat) (0 : Int)) - (128 : Int))) ≤
                                                                              IntKind.i64.wrap
                                                                               (IntKind.i64.wrap ((2 : Int) + IntKind.i64.wrap (IntKind.i64.wrap (l.getD (1 : Nat) (0 : Int)) - (128 : Int))) +
                                                                                IntKind.i64.wrap (IntKind.i64.wrap (IntKind.i64.wrap (l.getD (2 : Nat) (0 : Int)) * (256 : Int)) + IntKind.i64.wrap (l.getD (3 : Nat) (0 : Int)))) ∧
                                                                             IntKind.i64.wrap
                                                                               (IntKind.i64.wrap ((2 : Int) + IntKind.i64.wrap (IntKind.i64.wrap (l.getD (1 : Nat) (0 : Int)) - (128 : Int))) +
                                                                                IntKind.i64.wrap (IntKind.i64.wrap (IntKind.i64.wrap (l.getD (2 : Nat) (0 : Int)) * (256 : Int)) + IntKind.i64.wrap (l.getD (3 : Nat) (0 : Int)))) ≤
                                                                              (↑l.length : Int)) ∧
                                                                           True ∧
                                                                            (false = false ∧ ((0 : Nat) < (2 : Nat) ∧ Sk.one = Sk.one) ∧ false = false ∧ ((1 : Nat) < (2 : Nat) ∧ Sk.one = Sk.one) ∧ True) ∧
                                                                             True ∧
                                                                              (Sk.st [Sk.one, Sk.one] = Sk.st [Sk.one, Sk.one] ∧ (2 : Nat) ≠ (0 : Nat) ∧ (2 : Nat) = (2 : Nat) ∧ false = false) ∧
                                                                               True ∧
                                                                                True ∧
                                                                                 (((2 : Nat) ≠ (0 : Nat) ∧ (2 : Nat) = (2 : Nat) ∧ true = true) ∧ false = false ∧ false = false ∧ True) ∧
                                                                                  D.tup
                                                                                    [D.st
                                                                                      [D.val (Value.int IntKind.u8 (l.getD (0 : Nat) (0 : Int))),
                                                                                       D.ints IntKind.u8
                                                                                        (List.drop (IntKind.i64.wrap ((2 : Int) + IntKind.i64.wrap (IntKind.i64.wrap (l.getD (1 : Nat) (0 : Int)) - (128 : Int)))).toNat
                                                                                         (List.take
                                                                                          (IntKind.i64.wrap
                                                                                            (IntKind.i64.wrap ((2 : Int) + IntKind.i64.wrap (IntKind.i64.wrap (l.getD (1 : Nat) (0 : Int)) - (128 : Int))) +
                                                                                             IntKind.i64.wrap (IntKind.i64.wrap (IntKind.i64.wrap (l.getD (2 : Nat) (0 : Int)) * (256 : Int)) + IntKind.i64.wrap (l.getD (3 : Nat) (0 : Int))))).toNat
                                                                                          l))],
                                                                                     D.val
                                                                                      (Value.int IntKind.i64
                                                                                       (IntKind.i64.wrap
                                                                                        (IntKind.i64.wrap ((2 : Int) + IntKind.i64.wrap (IntKind.i64.wrap (l.getD (1 : Nat) (0 : Int)) - (128 : Int))) +
                                                                                         IntKind.i64.wrap (IntKind.i64.wrap (IntKind.i64.wrap (l.getD (2 : Nat) (0 : Int)) * (256 : Int)) + IntKind.i64.wrap (l.getD (3 : Nat) (0 : Int)))))),
                                                                                     D.val (Value.int IntKind.i64 (0 : Int))] =
                                                                                   F
                                          | false =>
                                           True ∧
                                            True ∧
                                             True ∧
                                              match decide (IntKind.i64.wrap (l.getD (2 : Nat) (0 : Int)) < (128 : Int)) with
                                              | true =>
                                               ((2 : Nat) ≠ (0 : Nat) ∧ (2 : Nat) = (2 : Nat) ∧ true = true) ∧
                                                (Sk.st [Sk.one, Sk.one] = Sk.st [Sk.one, Sk.one] ∧ (2 : Nat) ≠ (0 : Nat) ∧ (2 : Nat) = (2 : Nat) ∧ false = false) ∧
                                                 True ∧ True ∧ (((2 : Nat) ≠ (0 : Nat) ∧ (2 : Nat) = (2 : Nat) ∧ true = true) ∧ false = false ∧ false = false ∧ True) ∧ D.tup [D.st [D.val (Value.int IntKind.u8 (0 : Int)), D.ints IntKind.u8 []], D.val (Value.int IntKind.i64 (0 : Int)), D.val (Value.int IntKind.i64 (4 : Int))] = F
                                              | false =>
                                               True ∧
                                                True ∧
                                                 True ∧
                                                  True ∧
                                                   True ∧
                                                    True ∧
                                                     True ∧
                                                      match decide (IntKind.i64.wrap (l.getD (2 : Nat) (0 : Int)) > (4096 : Int)) with
                                                      | true =>
                                                       ((2 : Nat) ≠ (0 : Nat) ∧ (2 : Nat) = (2 : Nat) ∧ true = true) ∧
                                                        (Sk.st [Sk.one, Sk.one] = Sk.st [Sk.one, Sk.one] ∧ (2 : Nat) ≠ (0 : Nat) ∧ (2 : Nat) = (2 : Nat) ∧ false = false) ∧
                                                         True ∧ True ∧ (((2 : Nat) ≠ (0 : Nat) ∧ (2 : Nat) = (2 : Nat) ∧ true = true) ∧ false = false ∧ false = false ∧ True) ∧ D.tup [D.st [D.val (Value.int IntKind.u8 (0 : Int)), D.ints IntKind.u8 []], D.val (Value.int IntKind.i64 (0 : Int)), D.val (Value.int IntKind.i64 (2 : Int))] = F
                                                      | false =>
                                                       True ∧
                                                        True ∧
                                                         True ∧
                                                          True ∧
                                                           match decide (IntKind.i64.wrap (IntKind.i64.wrap ((2 : Int) + IntKind.i64.wrap (IntKind.i64.wrap (l.getD (1 : Nat) (0 : Int)) - (128 : Int))) + IntKind.i64.wrap (l.getD (2 : Nat) (0 : Int))) > (↑l.length : Int)) with
                                                           | true =>
                                                            ((2 : Nat) ≠ (0 : Nat) ∧ (2 : Nat) = (2 : Nat) ∧ true = true) ∧
                                                             (Sk.st [Sk.one, Sk.one] = Sk.st [Sk.one, Sk.one] ∧ (2 : Nat) ≠ (0 : Nat) ∧ (2 : Nat) = (2 : Nat) ∧ false = false) ∧
                                                              True ∧
                                                               True ∧ (((2 : Nat) ≠ (0 : Nat) ∧ (2 : Nat) = (2 : Nat) ∧ true = true) ∧ false = false ∧ false = false ∧ True) ∧ D.tup [D.st [D.val (Value.int IntKind.u8 (0 : Int)), D.ints IntKind.u8 []], D.val (Value.int IntKind.i64 (0 : Int)), D.val (Value.int IntKind.i64 (3 : Int))] = F
                                                           | false =>
                                                            True ∧
                                                             ((0 : Int) ≤ (0 : Int) ∧ (0 : Int) < (↑l.length : Int)) ∧
                                                              True ∧
                                                               True ∧
                                                                True ∧
                                                                 True ∧
                                                                  ((0 : Int) ≤ IntKind.i64.wrap ((2 : Int) + IntKind.i64.wrap (IntKind.i64.wrap (l.getD (1 : Nat) (0 : Int)) - (128 : Int))) ∧
                                                                    IntKind.i64.wrap ((2 : Int) + IntKind.i64.wrap (IntKind.i64.wrap (l.getD (1 : Nat) (0 : Int)) - (128 : Int))) ≤
                                                                      IntKind.i64.wrap (IntKind.i64.wrap ((2 : Int) + IntKind.i64.wrap (IntKind.i64.wrap (l.getD (1 : Nat) (0 : Int)) - (128 : Int))) + IntKind.i64.wrap (l.getD (2 : Nat) (0 : Int))) ∧
                                                                     IntKind.i64.wrap (IntKind.i64.wrap ((2 : Int) + IntKind.i64.wrap (IntKind.i64.wrap (l.getD (1 : Nat) (0 : Int)) - (128 : Int))) + IntKind.i64.wrap (l.getD (2 : Nat) (0 : Int))) ≤ (↑l.length : Int)) ∧
                                                                   True ∧
                                                                    (false = false ∧ ((0 : Nat) < (2 : Nat) ∧ Sk.one = Sk.one) ∧ false = false ∧ ((1 : Nat) < (2 : Nat) ∧ Sk.one = Sk.one) ∧ True) ∧
                                                                     True ∧
                                                                      (Sk.st [Sk.one, Sk.one] = Sk.st [Sk.one, Sk.one] ∧ (2 : Nat) ≠ (0 : Nat) ∧ (2 : Nat) = (2 : Nat) ∧ false = false) ∧
                                                                       True ∧
                                                                        True ∧
                                                                         (((2 : Nat) ≠ (0 : Nat) ∧ (2 : Nat) = (2 : Nat) ∧ true = true) ∧ false = false ∧ false = false ∧ True) ∧
                                                                          D.tup
                                                                            [D.st
                                                                              [D.val (Value.int IntKind.u8 (l.getD (0 : Nat) (0 : Int))),
                                                                               D.ints IntKind.u8
                                                                                (List.drop (IntKind.i64.wrap ((2 : Int) + IntKind.i64.wrap (IntKind.i64.wrap (l.getD (1 : Nat) (0 : Int)) - (128 : Int)))).toNat
                                                                                 (List.take (IntKind.i64.wrap (IntKind.i64.wrap ((2 : Int) + IntKind.i64.wrap (IntKind.i64.wrap (l.getD (1 : Nat) (0 : Int)) - (128 : Int))) + IntKind.i64.wrap (l.getD (2 : Nat) (0 : Int)))).toNat l))],
                                                                             D.val (Value.int IntKind.i64 (IntKind.i64.wrap (IntKind.i64.wrap ((2 : Int) + IntKind.i64.wrap (IntKind.i64.wrap (l.getD (1 : Nat) (0 : Int)) - (128 : Int))) + IntKind.i64.wrap (l.getD (2 : Nat) (0 : Int))))),
                                                                             D.val (Value.int IntKind.i64 (0 : Int))] =
                                                                           F
                         | false =>
                          True ∧
                           True ∧
                            True ∧
                             True ∧
                              True ∧
                               True ∧
                                True ∧
                                 match decide (IntKind.i64.wrap (l.getD (1 : Nat) (0 : Int)) > (4096 : Int)) with
                                 | true =>
                                  ((2 : Nat) ≠ (0 : Nat) ∧ (2 : Nat) = (2 : Nat) ∧ true = true) ∧
                                   (Sk.st [Sk.one, Sk.one] = Sk.st [Sk.one, Sk.one] ∧ (2 : Nat) ≠ (0 : Nat) ∧ (2 : Nat) = (2 : Nat) ∧ false = false) ∧
                                    True ∧ True ∧ (((2 : Nat) ≠ (0 : Nat) ∧ (2 : Nat) = (2 : Nat) ∧ true = true) ∧ false = false ∧ false = false ∧ True) ∧ D.tup [D.st [D.val (Value.int IntKind.u8 (0 : Int)), D.ints IntKind.u8 []], D.val (Value.int IntKind.i64 (0 : Int)), D.val (Value.int IntKind.i64 (2 : Int))] = F
                                 | false =>
                                  True ∧
                                   True ∧
                                    True ∧
                                     True ∧
                                      match decide (IntKind.i64.wrap (IntKind.i64.wrap ((2 : Int) + (0 : Int)) + IntKind.i64.wrap (l.getD (1 : Nat) (0 : Int))) > (↑l.length : Int)) with
                                      | true =>
                                       ((2 : Nat) ≠ (0 : Nat) ∧ (2 : Nat) = (2 : Nat) ∧ true = true) ∧
                                        (Sk.st [Sk.one, Sk.one] = Sk.st [Sk.one, Sk.one] ∧ (2 : Nat) ≠ (0 : Nat) ∧ (2 : Nat) = (2 : Nat) ∧ false = false) ∧
                                         True ∧ True ∧ (((2 : Nat) ≠ (0 : Nat) ∧ (2 : Nat) = (2 : Nat) ∧ true = true) ∧ false = false ∧ false = false ∧ True) ∧ D.tup [D.st [D.val (Value.int IntKind.u8 (0 : Int)), D.ints IntKind.u8 []], D.val (Value.int IntKind.i64 (0 : Int)), D.val (Value.int IntKind.i64 (3 : Int))] = F
                                      | false =>
                                       True ∧
                                        ((0 : Int) ≤ (0 : Int) ∧ (0 : Int) < (↑l.length : Int)) ∧
                                         True ∧
                                          True ∧
                                           True ∧
                                            True ∧
                                             ((0 : Int) ≤ IntKind.i64.wrap ((2 : Int) + (0 : Int)) ∧
                                               IntKind.i64.wrap ((2 : Int) + (0 : Int)) ≤ IntKind.i64.wrap (IntKind.i64.wrap ((2 : Int) + (0 : Int)) + IntKind.i64.wrap (l.getD (1 : Nat) (0 : Int))) ∧ IntKind.i64.wrap (IntKind.i64.wrap ((2 : Int) + (0 : Int)) + IntKind.i64.wrap (l.getD (1 : Nat) (0 : Int))) ≤ (↑l.length : Int)) ∧
                                              True ∧
                                               (false = false ∧ ((0 : Nat) < (2 : Nat) ∧ Sk.one = Sk.one) ∧ false = false ∧ ((1 : Nat) < (2 : Nat) ∧ Sk.one = Sk.one) ∧ True) ∧
                                                True ∧
                                                 (Sk.st [Sk.one, Sk.one] = Sk.st [Sk.one, Sk.one] ∧ (2 : Nat) ≠ (0 : Nat) ∧ (2 : Nat) = (2 : Nat) ∧ false = false) ∧
                                                  True ∧
                                                   True ∧
                                                    (((2 : Nat) ≠ (0 : Nat) ∧ (2 : Nat) = (2 : Nat) ∧ true = true) ∧ false = false ∧ false = false ∧ True) ∧
                                                     D.tup
                                                       [D.st [D.val (Value.int IntKind.u8 (l.getD (0 : Nat) (0 : Int))), D.ints IntKind.u8 (List.drop (IntKind.i64.wrap ((2 : Int) + (0 : Int))).toNat (List.take (IntKind.i64.wrap (IntKind.i64.wrap ((2 : Int) + (0 : Int)) + IntKind.i64.wrap (l.getD (1 : Nat) (0 : Int)))).toNat l))],
                                                        D.val (Value.int IntKind.i64 (IntKind.i64.wrap (IntKind.i64.wrap ((2 : Int) + (0 : Int)) + IntKind.i64.wrap (l.getD (1 : Nat) (0 : Int))))), D.val (Value.int IntKind.i64 (0 : Int))] =
                                                      F) := by kernel_rfl
set_option maxRecDepth 100000 in
theorem vc47  (l : List Int) (F : D)  :
    (owed c47 (inv47 l) Try.f47 [bs l] F) = (
 True ∧
   True ∧
    True ∧
     True ∧
      True ∧
       match decide ((↑l.length : Int) > (65536 : Int)) with
       | true => True ∧ True ∧ (false = false ∧ false = false ∧ True) ∧ D.tup [D.slc (2 : Nat) [], D.val (Value.int IntKind.i64 (2 : Int))] = F
       | false =>
        (2 : Nat) ≠ (0 : Nat) ∧
         (((AV.d (D.ints IntKind.u8 l) = AV.d (D.ints IntKind.u8 l) ∧ AV.row (4 : Nat) = AV.row (4 : Nat) ∧ True) ∧ (some (Blk.row (78 : TypeId) (D.slc (2 : Nat) [])) = some (Blk.row (78 : TypeId) (D.slc (2 : Nat) [])) ∧ True) ∧ true = true) ∧ (okb l ∧ l.length ≤ (65536 : Nat)) ∧ (isL [] ∧ (0 : Nat) ≤ (200 : Nat)) ∧ rd (200 : Nat) l [] = rd (200 : Nat) l []) ∧
          ∀ (x : List Int × List D),
           (okb x.fst ∧ x.fst.length ≤ (65536 : Nat)) ∧ (isL x.snd ∧ x.snd.length ≤ (200 : Nat)) ∧ rd ((200 : Nat) - x.snd.length) x.fst x.snd = rd (200 : Nat) l [] →
            true = true ∧
             True ∧
              True ∧
               True ∧
                match decide ((↑x.fst.length : Int) > (0 : Int)) with
                | true =>
                 True ∧
                  True ∧
                   True ∧
                    match (↑x.snd.length : Int) == (200 : Int) with
                    | true => True ∧ True ∧ (false = false ∧ false = false ∧ True) ∧ D.tup [D.slc (2 : Nat) [], D.val (Value.int IntKind.i64 (2 : Int))] = F
                    | false =>
                     True ∧
                      (∃ (l : List Int), [D.ints IntKind.u8 x.fst] = [D.ints IntKind.u8 l] ∧ okb l ∧ lenB l) ∧
                       True ∧
                        ((0 : Nat) < (3 : Nat) ∧ false = false) ∧
                         ((1 : Nat) < (3 : Nat) ∧ false = false) ∧
                          ((2 : Nat) < (3 : Nat) ∧ false = false) ∧
                           (True ∧ (2 : Nat) ≠ (0 : Nat)) ∧
                            (Sk.st [Sk.one, Sk.one] = Sk.st [Sk.one, Sk.one] ∧ (2 : Nat) ≠ (0 : Nat) ∧ (2 : Nat) = (2 : Nat) ∧ false = false) ∧
                             True ∧
                              True ∧
                               True ∧
                                True ∧
                                 match (↑(fE x.fst) : Int) != (0 : Int) with
                                 | true => True ∧ True ∧ True ∧ (false = false ∧ false = false ∧ True) ∧ D.tup [D.slc (2 : Nat) [], D.val (Value.int IntKind.i64 (↑(fE x.fst) : Int))] = F
                                 | false =>
                                  True ∧
                                   ((2 : Nat) ≠ (0 : Nat) ∧ (2 : Nat) = (2 : Nat) ∧ true = true) ∧
                                    ((1 : Nat) ≤ (4096 : Nat) ∧ (2 : Nat) ≤ (256 : Nat) ∧ (2 : Nat) ≠ (0 : Nat)) ∧
                                     ((78 : TypeId) = (78 : TypeId) ∧
                                       (34 : Nat) = (34 : Nat) ∧
                                        true = true ∧
                                         (x.snd ++ [D.st [D.val (Value.int IntKind.u8 (↑(fT x.fst) : Int)), D.ints IntKind.u8 (fB x.fst)]]).length ≤ (140737488355328 : Nat) ∧
                                          (x.snd ++ [D.st [D.val (Value.int IntKind.u8 (↑(fT x.fst) : Int)), D.ints IntKind.u8 (fB x.fst)]]).length * (32 : Nat) ≤ (140737488355328 : Nat) ∧ (2 : Nat) ≠ (0 : Nat) ∧ (2 : Nat) = (2 : Nat)) ∧
                                      True ∧
                                       True ∧
                                        True ∧
                                         ((0 : Int) ≤ (↑(fN x.fst) : Int) ∧ (↑(fN x.fst) : Int) ≤ (↑x.fst.length : Int) ∧ (↑x.fst.length : Int) ≤ (↑x.fst.length : Int) ∧ (1 : Nat) = (1 : Nat)) ∧
                                          True ∧
                                           ((AV.d (D.ints IntKind.u8 (List.drop (↑(fN x.fst) : Int).toNat (List.take (↑x.fst.length : Int).toNat x.fst))) = AV.d (D.ints IntKind.u8 (List.drop (↑(fN x.fst) : Int).toNat (List.take (↑x.fst.length : Int).toNat x.fst))) ∧ AV.row (4 : Nat) = AV.row (4 : Nat) ∧ True) ∧
                                             (some (Blk.row (78 : TypeId) (D.slc (2 : Nat) (x.snd ++ [D.st [D.val (Value.int IntKind.u8 (↑(fT x.fst) : Int)), D.ints IntKind.u8 (fB x.fst)]]))) = some (Blk.row (78 : TypeId) (D.slc (2 : Nat) (x.snd ++ [D.st [D.val (Value.int IntKind.u8 (↑(fT x.fst) : Int)), D.ints IntKind.u8 (fB x.fst)]]))) ∧ True) ∧
                                              true = true) ∧
                                            ((okb (List.drop (↑(fN x.fst) : Int).toNat (List.take (↑x.fst.length : Int).toNat x.fst)) ∧ (List.drop (↑(fN x.fst) : Int).toNat (List.take (↑x.fst.length : Int).toNat x.fst)).length ≤ (65536 : Nat)) ∧
                                              (isL (x.snd ++ [D.st [D.val (Value.int IntKind.u8 (↑(fT x.fst) : Int)), D.ints IntKind.u8 (fB x.fst)]]) ∧ (x.snd ++ [D.st [D.val (Value.int IntKind.u8 (↑(fT x.fst) : Int)), D.ints IntKind.u8 (fB x.fst)]]).length ≤ (200 : Nat)) ∧
                                               rd ((200 : Nat) - (x.snd ++ [D.st [D.val (Value.int IntKind.u8 (↑(fT x.fst) : Int)), D.ints IntKind.u8 (fB x.fst)]]).length) (List.drop (↑(fN x.fst) : Int).toNat (List.take (↑x.fst.length : Int).toNat x.fst))
                                                 (x.snd ++ [D.st [D.val (Value.int IntKind.u8 (↑(fT x.fst) : Int)), D.ints IntKind.u8 (fB x.fst)]]) =
                                                rd (200 : Nat) l []) ∧
                                             (201 : Nat) - (x.snd ++ [D.st [D.val (Value.int IntKind.u8 (↑(fT x.fst) : Int)), D.ints IntKind.u8 (fB x.fst)]]).length < (201 : Nat) - x.snd.length
                | false => True ∧ True ∧ True ∧ (false = false ∧ false = false ∧ True) ∧ D.tup [D.slc (2 : Nat) x.snd, D.val (Value.int IntKind.i64 (0 : Int))] = F) := by kernel_rfl
set_option maxRecDepth 100000 in
theorem vc48  (l : List Int) (F : D)  :
    (owed c48 (inv48 l) Try.f48 [.str l] F) = (
 True ∧
   True ∧
    True ∧
     True ∧
      True ∧
       match decide ((↑l.length : Int) > (65536 : Int)) with
       | true => True ∧ True ∧ (false = false ∧ false = false ∧ True) ∧ D.tup [D.slc (2 : Nat) [], D.val (Value.int IntKind.i64 (2 : Int))] = F
       | false =>
        (2 : Nat) ≠ (0 : Nat) ∧
         (((AV.d (D.str l) = AV.d (D.str l) ∧ AV.row (4 : Nat) = AV.row (4 : Nat) ∧ True) ∧ (some (Blk.row (78 : TypeId) (D.slc (2 : Nat) [])) = some (Blk.row (78 : TypeId) (D.slc (2 : Nat) [])) ∧ True) ∧ true = true) ∧ (okb l ∧ l.length ≤ (65536 : Nat)) ∧ (isL [] ∧ (0 : Nat) ≤ (200 : Nat)) ∧ rd (200 : Nat) l [] = rd (200 : Nat) l []) ∧
          ∀ (x : List Int × List D),
           (okb x.fst ∧ x.fst.length ≤ (65536 : Nat)) ∧ (isL x.snd ∧ x.snd.length ≤ (200 : Nat)) ∧ rd ((200 : Nat) - x.snd.length) x.fst x.snd = rd (200 : Nat) l [] →
            true = true ∧
             True ∧
              True ∧
               True ∧
                match decide ((↑x.fst.length : Int) > (0 : Int)) with
                | true =>
                 True ∧
                  True ∧
                   True ∧
                    match decide ((↑x.snd.length : Int) ≥ (200 : Int)) with
                    | true => True ∧ True ∧ (false = false ∧ false = false ∧ True) ∧ D.tup [D.slc (2 : Nat) [], D.val (Value.int IntKind.i64 (2 : Int))] = F
                    | false =>
                     True ∧
                      (∃ (l : List Int), [D.str x.fst] = [D.str l] ∧ okb l ∧ lenB l) ∧
                       True ∧
                        ((0 : Nat) < (3 : Nat) ∧ false = false) ∧
                         ((1 : Nat) < (3 : Nat) ∧ false = false) ∧
                          ((2 : Nat) < (3 : Nat) ∧ false = false) ∧
                           (True ∧ (2 : Nat) ≠ (0 : Nat)) ∧
                            (Sk.st [Sk.one, Sk.one] = Sk.st [Sk.one, Sk.one] ∧ (2 : Nat) ≠ (0 : Nat) ∧ (2 : Nat) = (2 : Nat) ∧ false = false) ∧
                             True ∧
                              True ∧
                               True ∧
                                True ∧
                                 match (↑(fE x.fst) : Int) != (0 : Int) with
                                 | true => True ∧ True ∧ True ∧ (false = false ∧ false = false ∧ True) ∧ D.tup [D.slc (2 : Nat) [], D.val (Value.int IntKind.i64 (↑(fE x.fst) : Int))] = F
                                 | false =>
                                  True ∧
                                   ((2 : Nat) ≠ (0 : Nat) ∧ (2 : Nat) = (2 : Nat) ∧ true = true) ∧
                                    ((1 : Nat) ≤ (4096 : Nat) ∧ (2 : Nat) ≤ (256 : Nat) ∧ (2 : Nat) ≠ (0 : Nat)) ∧
                                     ((78 : TypeId) = (78 : TypeId) ∧
                                       (34 : Nat) = (34 : Nat) ∧
                                        true = true ∧
                                         (x.snd ++ [D.st [D.val (Value.int IntKind.u8 (↑(fT x.fst) : Int)), D.ints IntKind.u8 (fB x.fst)]]).length ≤ (140737488355328 : Nat) ∧
                                          (x.snd ++ [D.st [D.val (Value.int IntKind.u8 (↑(fT x.fst) : Int)), D.ints IntKind.u8 (fB x.fst)]]).length * (32 : Nat) ≤ (140737488355328 : Nat) ∧ (2 : Nat) ≠ (0 : Nat) ∧ (2 : Nat) = (2 : Nat)) ∧
                                      True ∧
                                       True ∧
                                        True ∧
                                         ((0 : Int) ≤ (↑(fN x.fst) : Int) ∧ (↑(fN x.fst) : Int) ≤ (↑x.fst.length : Int) ∧ (↑x.fst.length : Int) ≤ (↑x.fst.length : Int)) ∧
                                          True ∧
                                           ((AV.d (D.str (List.drop (↑(fN x.fst) : Int).toNat (List.take (↑x.fst.length : Int).toNat x.fst))) = AV.d (D.str (List.drop (↑(fN x.fst) : Int).toNat (List.take (↑x.fst.length : Int).toNat x.fst))) ∧ AV.row (4 : Nat) = AV.row (4 : Nat) ∧ True) ∧
                                             (some (Blk.row (78 : TypeId) (D.slc (2 : Nat) (x.snd ++ [D.st [D.val (Value.int IntKind.u8 (↑(fT x.fst) : Int)), D.ints IntKind.u8 (fB x.fst)]]))) = some (Blk.row (78 : TypeId) (D.slc (2 : Nat) (x.snd ++ [D.st [D.val (Value.int IntKind.u8 (↑(fT x.fst) : Int)), D.ints IntKind.u8 (fB x.fst)]]))) ∧ True) ∧
                                              true = true) ∧
                                            ((okb (List.drop (↑(fN x.fst) : Int).toNat (List.take (↑x.fst.length : Int).toNat x.fst)) ∧ (List.drop (↑(fN x.fst) : Int).toNat (List.take (↑x.fst.length : Int).toNat x.fst)).length ≤ (65536 : Nat)) ∧
                                              (isL (x.snd ++ [D.st [D.val (Value.int IntKind.u8 (↑(fT x.fst) : Int)), D.ints IntKind.u8 (fB x.fst)]]) ∧ (x.snd ++ [D.st [D.val (Value.int IntKind.u8 (↑(fT x.fst) : Int)), D.ints IntKind.u8 (fB x.fst)]]).length ≤ (200 : Nat)) ∧
                                               rd ((200 : Nat) - (x.snd ++ [D.st [D.val (Value.int IntKind.u8 (↑(fT x.fst) : Int)), D.ints IntKind.u8 (fB x.fst)]]).length) (List.drop (↑(fN x.fst) : Int).toNat (List.take (↑x.fst.length : Int).toNat x.fst))
                                                 (x.snd ++ [D.st [D.val (Value.int IntKind.u8 (↑(fT x.fst) : Int)), D.ints IntKind.u8 (fB x.fst)]]) =
                                                rd (200 : Nat) l []) ∧
                                             (201 : Nat) - (x.snd ++ [D.st [D.val (Value.int IntKind.u8 (↑(fT x.fst) : Int)), D.ints IntKind.u8 (fB x.fst)]]).length < (201 : Nat) - x.snd.length
                | false => True ∧ True ∧ True ∧ (false = false ∧ false = false ∧ True) ∧ D.tup [D.slc (2 : Nat) x.snd, D.val (Value.int IntKind.i64 (0 : Int))] = F) := by kernel_rfl
set_option maxRecDepth 100000 in
theorem vc51  (xs : List D) (F : D)  :
    (owed c0 (inv51 xs) Try.f51 [.slc 2 xs, .slc 2 xs] F) = (
 True ∧
   True ∧
    True ∧
     True ∧
      True ∧
       True ∧
        match (↑xs.length : Int) != (↑xs.length : Int) with
        | true => True ∧ (false = false ∧ True) ∧ D.val (Value.bool false) = F
        | false =>
         True ∧
          True ∧
           True ∧
            (((AV.d (D.val (Value.int IntKind.i64 (0 : Int))) = AV.d (D.val (Value.int IntKind.i64 (↑(Int.toNat (0 : Int)) : Int))) ∧ True) ∧ True ∧ true = true) ∧ Int.toNat (0 : Int) ≤ xs.length) ∧
             ∀ (x : Nat),
              x ≤ xs.length →
               true = true ∧
                True ∧
                 match decide ((↑x : Int) < (↑xs.length : Int)) with
                 | true =>
                  True ∧
                   True ∧
                    True ∧
                     True ∧
                      ((0 : Int) ≤ (↑x : Int) ∧
                        (↑x : Int) < (↑xs.length : Int) ∧ (2 : Nat) ≠ (0 : Nat) ∧ (2 : Nat) = (2 : Nat) ∧ D.st [D.val (Value.int IntKind.u8 (numOf (fldOf (xs.getD (↑x : Int).toNat (D.val (Value.bool false))) (0 : Nat)))), D.ints IntKind.u8 (intsOf (fldOf (xs.getD (↑x : Int).toNat (D.val (Value.bool false))) (1 : Nat)))] = xs.getD (↑x : Int).toNat (D.val (Value.bool false))) ∧
                       (Sk.st [Sk.one, Sk.one] = Sk.st [Sk.one, Sk.one] ∧ (0 : Nat) < (2 : Nat)) ∧
                        ((1 : Nat) ≠ (0 : Nat) ∧ (1 : Nat) = (1 : Nat) ∧ false = false) ∧
                         True ∧
                          True ∧
                           ((0 : Int) ≤ (↑x : Int) ∧
                             (↑x : Int) < (↑xs.length : Int) ∧
                              (2 : Nat) ≠ (0 : Nat) ∧ (2 : Nat) = (2 : Nat) ∧ D.st [D.val (Value.int IntKind.u8 (numOf (fldOf (xs.getD (↑x : Int).toNat (D.val (Value.bool false))) (0 : Nat)))), D.ints IntKind.u8 (intsOf (fldOf (xs.getD (↑x : Int).toNat (D.val (Value.bool false))) (1 : Nat)))] = xs.getD (↑x : Int).toNat (D.val (Value.bool false))) ∧
                            (Sk.st [Sk.one, Sk.one] = Sk.st [Sk.one, Sk.one] ∧ (0 : Nat) < (2 : Nat)) ∧
                             ((1 : Nat) ≠ (0 : Nat) ∧ (1 : Nat) = (1 : Nat) ∧ false = false) ∧
                              True ∧
                               True ∧
                                match numOf (fldOf (xs.getD (↑x : Int).toNat (D.val (Value.bool false))) (0 : Nat)) != numOf (fldOf (xs.getD (↑x : Int).toNat (D.val (Value.bool false))) (0 : Nat)) with
                                | true => True ∧ True ∧ (false = false ∧ True) ∧ D.val (Value.bool false) = F
                                | false =>
                                 True ∧
                                  True ∧
                                   ((0 : Int) ≤ (↑x : Int) ∧
                                     (↑x : Int) < (↑xs.length : Int) ∧
                                      (2 : Nat) ≠ (0 : Nat) ∧ (2 : Nat) = (2 : Nat) ∧ D.st [D.val (Value.int IntKind.u8 (numOf (fldOf (xs.getD (↑x : Int).toNat (D.val (Value.bool false))) (0 : Nat)))), D.ints IntKind.u8 (intsOf (fldOf (xs.getD (↑x : Int).toNat (D.val (Value.bool false))) (1 : Nat)))] = xs.getD (↑x : Int).toNat (D.val (Value.bool false))) ∧
                                    (Sk.st [Sk.one, Sk.one] = Sk.st [Sk.one, Sk.one] ∧ (1 : Nat) < (2 : Nat)) ∧
                                     ((1 : Nat) ≠ (0 : Nat) ∧ (1 : Nat) = (1 : Nat) ∧ false = false) ∧
                                      isBytes (intsOf (fldOf (xs.getD (↑x : Int).toNat (D.val (Value.bool false))) (1 : Nat))) ∧
                                       True ∧
                                        True ∧
                                         ((0 : Int) ≤ (↑x : Int) ∧
                                           (↑x : Int) < (↑xs.length : Int) ∧
                                            (2 : Nat) ≠ (0 : Nat) ∧
                                             (2 : Nat) = (2 : Nat) ∧ D.st [D.val (Value.int IntKind.u8 (numOf (fldOf (xs.getD (↑x : Int).toNat (D.val (Value.bool false))) (0 : Nat)))), D.ints IntKind.u8 (intsOf (fldOf (xs.getD (↑x : Int).toNat (D.val (Value.bool false))) (1 : Nat)))] = xs.getD (↑x : Int).toNat (D.val (Value.bool false))) ∧
                                          (Sk.st [Sk.one, Sk.one] = Sk.st [Sk.one, Sk.one] ∧ (1 : Nat) < (2 : Nat)) ∧
                                           ((1 : Nat) ≠ (0 : Nat) ∧ (1 : Nat) = (1 : Nat) ∧ false = false) ∧
                                            isBytes (intsOf (fldOf (xs.getD (↑x : Int).toNat (D.val (Value.bool false))) (1 : Nat))) ∧
                                             True ∧
                                              True ∧
                                               match !eqB (intsOf (fldOf (xs.getD (↑x : Int).toNat (D.val (Value.bool false))) (1 : Nat))) (intsOf (fldOf (xs.getD (↑x : Int).toNat (D.val (Value.bool false))) (1 : Nat))) with
                                               | true => True ∧ (false = false ∧ True) ∧ D.val (Value.bool false) = F
                                               | false =>
                                                True ∧
                                                 True ∧
                                                  ((AV.d (D.val (Value.int IntKind.i64 (IntKind.i64.wrap ((↑x : Int) + (1 : Int))))) = AV.d (D.val (Value.int IntKind.i64 (↑(IntKind.i64.wrap ((↑x : Int) + (1 : Int))).toNat : Int))) ∧ True) ∧ True ∧ true = true) ∧
                                                   (IntKind.i64.wrap ((↑x : Int) + (1 : Int))).toNat ≤ xs.length ∧ xs.length - (IntKind.i64.wrap ((↑x : Int) + (1 : Int))).toNat < xs.length - x
                 | false => True ∧ (false = false ∧ True) ∧ D.val (Value.bool true) = F) := by kernel_rfl
set_option maxRecDepth 100000 in
theorem vc9  (l : List Int) (F : D)  :
    (owed c9 (fun _ => none) Try.f9 [bs l] F) = (
 True ∧
   True ∧
    (∃ (l_1 : List Int), [D.ints IntKind.u8 l] = [D.ints IntKind.u8 l_1] ∧ okb l_1 ∧ lenB l_1) ∧
     True ∧
      ((0 : Nat) < (2 : Nat) ∧ false = false) ∧
       ((1 : Nat) < (2 : Nat) ∧ false = false) ∧
        True ∧
         True ∧
          True ∧
           isBytes l ∧
            (∃ (l_1 : List Int), [D.str l] = [D.str l_1] ∧ okb l_1 ∧ lenB l_1) ∧
             True ∧
              ((0 : Nat) < (2 : Nat) ∧ false = false) ∧
               ((1 : Nat) < (2 : Nat) ∧ false = false) ∧
                True ∧
                 True ∧
                  True ∧
                   (∃ (l_1 : List Int), [D.ints IntKind.u8 l] = [D.ints IntKind.u8 l_1] ∧ okb l_1 ∧ lenB l_1) ∧
                    True ∧
                     ((0 : Nat) < (3 : Nat) ∧ false = false) ∧
                      ((1 : Nat) < (3 : Nat) ∧ false = false) ∧
                       ((2 : Nat) < (3 : Nat) ∧ false = false) ∧
                        (True ∧ (2 : Nat) ≠ (0 : Nat)) ∧
                         (Sk.st [Sk.one, Sk.one] = Sk.st [Sk.one, Sk.one] ∧ (2 : Nat) ≠ (0 : Nat) ∧ (2 : Nat) = (2 : Nat) ∧ false = false) ∧
                          True ∧
                           True ∧
                            True ∧
                             isBytes l ∧
                              (∃ (l_1 : List Int), [D.str l] = [D.str l_1] ∧ okb l_1 ∧ lenB l_1) ∧
                               True ∧
                                ((0 : Nat) < (3 : Nat) ∧ false = false) ∧
                                 ((1 : Nat) < (3 : Nat) ∧ false = false) ∧
                                  ((2 : Nat) < (3 : Nat) ∧ false = false) ∧
                                   (True ∧ (2 : Nat) ≠ (0 : Nat)) ∧
                                    (Sk.st [Sk.one, Sk.one] = Sk.st [Sk.one, Sk.one] ∧ (2 : Nat) ≠ (0 : Nat) ∧ (2 : Nat) = (2 : Nat) ∧ false = false) ∧
                                     True ∧
                                      True ∧
                                       True ∧
                                        True ∧
                                         (∃ (xs : List D), [D.slc (2 : Nat) (rL l), D.slc (2 : Nat) (rL l)] = [D.slc (2 : Nat) xs, D.slc (2 : Nat) xs] ∧ isL xs) ∧
                                          True ∧
                                           True ∧
                                            True ∧
                                             True ∧
                                              True ∧
                                               True ∧
                                                match (↑(rE l) : Int) == (↑(rE l) : Int) with
                                                | true =>
                                                 ((2 : Nat) ≠ (0 : Nat) ∧ (2 : Nat) = (2 : Nat) ∧ true = true) ∧
                                                  ((1 : Nat) ≤ (4096 : Nat) ∧ (2 : Nat) ≤ (256 : Nat) ∧ (2 : Nat) ≠ (0 : Nat)) ∧
                                                   ((2 : Nat) ≠ (0 : Nat) ∧ (2 : Nat) = (2 : Nat) ∧ true = true) ∧
                                                    ((1 : Nat) ≤ (4096 : Nat) ∧ (2 : Nat) ≤ (256 : Nat) ∧ (2 : Nat) ≠ (0 : Nat)) ∧
                                                     (∃ (xs : List D), [D.slc (2 : Nat) [D.st [D.val (Value.int IntKind.u8 (↑(fT l) : Int)), D.ints IntKind.u8 (fB l)]], D.slc (2 : Nat) [D.st [D.val (Value.int IntKind.u8 (↑(fT l) : Int)), D.ints IntKind.u8 (fB l)]]] = [D.slc (2 : Nat) xs, D.slc (2 : Nat) xs] ∧ isL xs) ∧
                                                      True ∧
                                                       True ∧
                                                        True ∧
                                                         True ∧
                                                          True ∧
                                                           True ∧
                                                            True ∧
                                                             match (↑(fN l) : Int) == (↑(fN l) : Int) with
                                                             | true => True ∧ True ∧ True ∧ True ∧ True ∧ (false = false ∧ True) ∧ D.val (Value.bool ((↑(fE l) : Int) == (↑(fE l) : Int))) = F
                                                             | false => True ∧ True ∧ (false = false ∧ True) ∧ D.val (Value.bool false) = F
                                                | false => True ∧ True ∧ True ∧ True ∧ True ∧ True ∧ (false = false ∧ True) ∧ D.val (Value.bool false) = F) := by kernel_rfl
set_option maxRecDepth 100000 in
theorem ok28  (d : D)  :
    (OkT tab 8 28 d) = (
 ∃ (l : List Int), d = D.ints IntKind.u8 l ∧ (∀ (z : Int), z ∈ l → (0 : Int) ≤ z ∧ z ≤ IntKind.u8.max) ∧ l.length ≤ (9223372036854775807 : Nat)) := by kernel_rfl

end Go.Proofs.Ytcdjhhepgkcabaa
