import Derived.Test.YtcdjhhepgkcabaaVgS
import Derived.Test.YtcdjhhepgkcabaaTab
/- Items as bytes: what the functions of DerWrites compute. -/
namespace Go.Proofs.Ytcdjhhepgkcabaa
open Go Go.Vg

abbrev It := Int × List Int
def itD (x : It) : D := .st [u8 x.1, bys x.2]
def itOf : D → It
  | .st [.val (.int _ t), .ints _ b] => (t, b)
  | _ => (0, [])
def itsD (L : List It) : D := .slc 2 (L.map itD)
def itsOf : D → List It
  | .slc _ xs => xs.map itOf
  | _ => []
theorem itsOf_D (L : List It) : itsOf (itsD L) = L := by
  simp only [itsOf, itsD, List.map_map]
  induction L with
  | nil => rfl
  | cons x L ih => simp only [List.map_cons, ih]; rfl
def okIts (L : List It) : Prop := L.length ≤ maxLen ∧ ∀ x ∈ L, (0 ≤ x.1 ∧ x.1 < 256) ∧ isBytes x.2 ∧ x.2.length ≤ maxLen
def bigIt (x : It) : Bool := Nat.blt 4096 x.2.length
def items (L : List It) : Int := bif Nat.blt 200 L.length || L.any bigIt then 2 else 0
def itHead (x : It) : List Int :=
  if x.2.length < 128 then [x.1, x.2.length] else if x.2.length < 256 then [x.1, 129, x.2.length] else [x.1, 130, x.2.length / 256, x.2.length % 256]
def wrIts (L : List It) : List Int := L.flatMap fun x => itHead x ++ x.2

def sp16 : Go.Vg.Spec := ⟨fun ds => ∃ L, ds = [itsD L] ∧ okIts L, fun ds => i64 (items (itsOf (ds.headD default))), true, [34]⟩
def sp17 : Go.Vg.Spec := ⟨fun ds => ∃ L, ds = [itsD L] ∧ okIts L ∧ items L = 0, fun ds => .str (wrIts (itsOf (ds.headD default))), true, [34]⟩
def wrB (L : List It) : List Int := bif Nat.blt 200 L.length || L.any bigIt then [] else wrIts L
def wrD (L : List It) : D := .tup [bys (wrB L), i64 (items L)]
def sp15 : Go.Vg.Spec := ⟨fun ds => ∃ L, ds = [itsD L] ∧ okIts L, fun ds => wrD (itsOf (ds.headD default)), false, [34]⟩

def c16 : Ctx := ⟨tab, fun _ => none, [], []⟩
def c15 : Ctx := ⟨tab, fun _ => none, [4], []⟩
def inv16 (L : List It) : Nat → Option Inv
  | 4 => some ⟨Int, fun i => [(10, .d (i64 i))], fun _ => [], fun s => slotN s 10, fun _ i => 0 ≤ i ∧ i ≤ L.length ∧ (L.take i.toNat).any bigIt = false, fun i => (L.length - i).toNat⟩
  | _ => none
def inv17 (L : List It) : Nat → Option Inv
  | 3 => some ⟨Int, fun i => [(10, .d (i64 i)), (3, .d (.str (wrIts (L.take i.toNat))))], fun _ => [], fun s => slotN s 10, fun _ i => 0 ≤ i ∧ i ≤ L.length, fun i => (L.length - i).toNat⟩
  | _ => none
def inv15 (L : List It) : Nat → Option Inv
  | 5 => some ⟨Int, fun i => [(13, .d (i64 i)), (4, .row 4)], fun i => [(4,   .row 5 (bys (wrIts (L.take i.toNat))))], fun s => slotN s 13, fun _ i => 0 ≤ i ∧ i ≤ L.length ∧ (L.take i.toNat).any bigIt = false, fun i => (L.length - i).toNat⟩
  | _ => none

--KEEP okIts wrB itsOf itD wrIts itHead bigIt items
theorem vc16  (L : List It) (F : D)  :
    (owed c16 (inv16 L) Try.f16 [itsD L] F) = (
 True ∧
   True ∧
    True ∧
     True ∧
      match decide ((↑(List.map itD L).length : Int) > (200 : Int)) with
      | true => True ∧ (false = false ∧ True) ∧ D.val (Value.int IntKind.i64 (2 : Int)) = F
      | false =>
       True ∧
        True ∧
         True ∧
          (((AV.d (D.val (Value.int IntKind.i64 (0 : Int))) = AV.d (D.val (Value.int IntKind.i64 (0 : Int))) ∧ True) ∧ True ∧ true = true) ∧ (0 : Int) ≤ (0 : Int) ∧ (0 : Int) ≤ (↑L.length : Int) ∧ (List.take (0 : Nat) L).any bigIt = false) ∧
           ∀ (x : Int),
            (0 : Int) ≤ x ∧ x ≤ (↑L.length : Int) ∧ (List.take x.toNat L).any bigIt = false →
             true = true ∧
              True ∧
               match decide (x < (↑(List.map itD L).length : Int)) with
               | true =>
                ((0 : Int) ≤ x ∧
                  x < (↑(List.map itD L).length : Int) ∧
                   (2 : Nat) ≠ (0 : Nat) ∧ (2 : Nat) = (2 : Nat) ∧ D.st [D.val (Value.int IntKind.u8 (numOf (fldOf ((List.map itD L).getD x.toNat (D.val (Value.bool false))) (0 : Nat)))), D.ints IntKind.u8 (intsOf (fldOf ((List.map itD L).getD x.toNat (D.val (Value.bool false))) (1 : Nat)))] = (List.map itD L).getD x.toNat (D.val (Value.bool false))) ∧
                 ((2 : Nat) ≠ (0 : Nat) ∧ (2 : Nat) = (2 : Nat) ∧ true = true) ∧
                  (True ∧ (2 : Nat) ≠ (0 : Nat)) ∧
                   (Sk.st [Sk.one, Sk.one] = Sk.st [Sk.one, Sk.one] ∧ (2 : Nat) ≠ (0 : Nat) ∧ (2 : Nat) = (2 : Nat) ∧ false = false) ∧
                    (Sk.st [Sk.one, Sk.one] = Sk.st [Sk.one, Sk.one] ∧ (1 : Nat) < (2 : Nat)) ∧
                     ((1 : Nat) ≠ (0 : Nat) ∧ (1 : Nat) = (1 : Nat) ∧ false = false) ∧
                      True ∧
                       True ∧
                        match decide ((↑(intsOf (fldOf ((List.map itD L).getD x.toNat (D.val (Value.bool false))) (1 : Nat))).length : Int) > (4096 : Int)) with
                        | true => True ∧ (false = false ∧ True) ∧ D.val (Value.int IntKind.i64 (2 : Int)) = F
                        | false =>
                         True ∧
                          True ∧
                           ((AV.d (D.val (Value.int IntKind.i64 (IntKind.i64.wrap (x + (1 : Int))))) = AV.d (D.val (Value.int IntKind.i64 (IntKind.i64.wrap (x + (1 : Int))))) ∧ True) ∧ True ∧ true = true) ∧
                            ((0 : Int) ≤ IntKind.i64.wrap (x + (1 : Int)) ∧ IntKind.i64.wrap (x + (1 : Int)) ≤ (↑L.length : Int) ∧ (List.take (IntKind.i64.wrap (x + (1 : Int))).toNat L).any bigIt = false) ∧ ((↑L.length : Int) - IntKind.i64.wrap (x + (1 : Int))).toNat < ((↑L.length : Int) - x).toNat
               | false => True ∧ (false = false ∧ True) ∧ D.val (Value.int IntKind.i64 (0 : Int)) = F) := by kernel_rfl
theorem vc17  (L : List It) (F : D)  :
    (owed c16 (inv17 L) Try.f17 [itsD L] F) = (
 True ∧
   True ∧
    True ∧
     True ∧
      True ∧
       (((AV.d (D.val (Value.int IntKind.i64 (0 : Int))) = AV.d (D.val (Value.int IntKind.i64 (0 : Int))) ∧ AV.d (D.str (ints { data := { toList := [] } })) = AV.d (D.str (wrIts (List.take (0 : Nat) L))) ∧ True) ∧ True ∧ true = true) ∧ (0 : Int) ≤ (0 : Int) ∧ (0 : Int) ≤ (↑L.length : Int)) ∧
        ∀ (x : Int),
         (0 : Int) ≤ x ∧ x ≤ (↑L.length : Int) →
          true = true ∧
           True ∧
            match decide (x < (↑(List.map itD L).length : Int)) with
            | true =>
             ((0 : Int) ≤ x ∧
               x < (↑(List.map itD L).length : Int) ∧
                (2 : Nat) ≠ (0 : Nat) ∧ (2 : Nat) = (2 : Nat) ∧ D.st [D.val (Value.int IntKind.u8 (numOf (fldOf ((List.map itD L).getD x.toNat (D.val (Value.bool false))) (0 : Nat)))), D.ints IntKind.u8 (intsOf (fldOf ((List.map itD L).getD x.toNat (D.val (Value.bool false))) (1 : Nat)))] = (List.map itD L).getD x.toNat (D.val (Value.bool false))) ∧
              ((2 : Nat) ≠ (0 : Nat) ∧ (2 : Nat) = (2 : Nat) ∧ true = true) ∧
               (True ∧ (2 : Nat) ≠ (0 : Nat)) ∧
                (Sk.st [Sk.one, Sk.one] = Sk.st [Sk.one, Sk.one] ∧ (2 : Nat) ≠ (0 : Nat) ∧ (2 : Nat) = (2 : Nat) ∧ false = false) ∧
                 (Sk.st [Sk.one, Sk.one] = Sk.st [Sk.one, Sk.one] ∧ (1 : Nat) < (2 : Nat)) ∧
                  ((1 : Nat) ≠ (0 : Nat) ∧ (1 : Nat) = (1 : Nat) ∧ false = false) ∧
                   True ∧
                    True ∧
                     (Sk.st [Sk.one, Sk.one] = Sk.st [Sk.one, Sk.one] ∧ (0 : Nat) < (2 : Nat)) ∧
                      ((1 : Nat) ≠ (0 : Nat) ∧ (1 : Nat) = (1 : Nat) ∧ false = false) ∧
                       True ∧
                        True ∧
                         ((1 : Nat) = (1 : Nat) ∧ (2 : Nat) ≤ (4096 : Nat)) ∧
                          True ∧
                           True ∧
                            True ∧
                             match decide ((↑(intsOf (fldOf ((List.map itD L).getD x.toNat (D.val (Value.bool false))) (1 : Nat))).length : Int) ≥ (256 : Int)) with
                             | true =>
                              (Sk.st [Sk.one, Sk.one] = Sk.st [Sk.one, Sk.one] ∧ (0 : Nat) < (2 : Nat)) ∧
                               ((1 : Nat) ≠ (0 : Nat) ∧ (1 : Nat) = (1 : Nat) ∧ false = false) ∧
                                True ∧
                                 (256 : Int) ≠ (0 : Int) ∧
                                  True ∧
                                   True ∧
                                    (256 : Int) ≠ (0 : Int) ∧
                                     True ∧
                                      ((1 : Nat) = (1 : Nat) ∧ (4 : Nat) ≤ (4096 : Nat)) ∧
                                       True ∧
                                        True ∧
                                         True ∧
                                          isBytes
                                            [numOf (fldOf ((List.map itD L).getD x.toNat (D.val (Value.bool false))) (0 : Nat)), (130 : Int), IntKind.u8.wrap (IntKind.i64.wrap ((↑(intsOf (fldOf ((List.map itD L).getD x.toNat (D.val (Value.bool false))) (1 : Nat))).length : Int).tdiv (256 : Int))),
                                             IntKind.u8.wrap ((↑(intsOf (fldOf ((List.map itD L).getD x.toNat (D.val (Value.bool false))) (1 : Nat))).length : Int).tmod (256 : Int))] ∧
                                           (Sk.st [Sk.one, Sk.one] = Sk.st [Sk.one, Sk.one] ∧ (1 : Nat) < (2 : Nat)) ∧
                                            ((1 : Nat) ≠ (0 : Nat) ∧ (1 : Nat) = (1 : Nat) ∧ false = false) ∧
                                             isBytes (intsOf (fldOf ((List.map itD L).getD x.toNat (D.val (Value.bool false))) (1 : Nat))) ∧
                                              (↑((4 : Nat) + (intsOf (fldOf ((List.map itD L).getD x.toNat (D.val (Value.bool false))) (1 : Nat))).length) : Int) ≤ (9223372036854775807 : Int) ∧
                                               (↑((wrIts (List.take x.toNat L)).length +
                                                    (numOf (fldOf ((List.map itD L).getD x.toNat (D.val (Value.bool false))) (0 : Nat)) ::
                                                      (130 : Int) ::
                                                       IntKind.u8.wrap (IntKind.i64.wrap ((↑(intsOf (fldOf ((List.map itD L).getD x.toNat (D.val (Value.bool false))) (1 : Nat))).length : Int).tdiv (256 : Int))) ::
                                                        IntKind.u8.wrap ((↑(intsOf (fldOf ((List.map itD L).getD x.toNat (D.val (Value.bool false))) (1 : Nat))).length : Int).tmod (256 : Int)) :: intsOf (fldOf ((List.map itD L).getD x.toNat (D.val (Value.bool false))) (1 : Nat))).length) :
                                                  Int) ≤
                                                 (9223372036854775807 : Int) ∧
                                                True ∧
                                                 True ∧
                                                  True ∧
                                                   ((AV.d (D.val (Value.int IntKind.i64 (IntKind.i64.wrap (x + (1 : Int))))) = AV.d (D.val (Value.int IntKind.i64 (IntKind.i64.wrap (x + (1 : Int))))) ∧
                                                      AV.d
                                                         (D.str
                                                          (wrIts (List.take x.toNat L) ++
                                                           numOf (fldOf ((List.map itD L).getD x.toNat (D.val (Value.bool false))) (0 : Nat)) ::
                                                            (130 : Int) ::
                                                             IntKind.u8.wrap (IntKind.i64.wrap ((↑(intsOf (fldOf ((List.map itD L).getD x.toNat (D.val (Value.bool false))) (1 : Nat))).length : Int).tdiv (256 : Int))) ::
                                                              IntKind.u8.wrap ((↑(intsOf (fldOf ((List.map itD L).getD x.toNat (D.val (Value.bool false))) (1 : Nat))).length : Int).tmod (256 : Int)) :: intsOf (fldOf ((List.map itD L).getD x.toNat (D.val (Value.bool false))) (1 : Nat)))) =
                                                        AV.d (D.str (wrIts (List.take (IntKind.i64.wrap (x + (1 : Int))).toNat L))) ∧
                                                       True) ∧
                                                     True ∧ true = true) ∧
                                                    ((0 : Int) ≤ IntKind.i64.wrap (x + (1 : Int)) ∧ IntKind.i64.wrap (x + (1 : Int)) ≤ (↑L.length : Int)) ∧ ((↑L.length : Int) - IntKind.i64.wrap (x + (1 : Int))).toNat < ((↑L.length : Int) - x).toNat
                             | false =>
                              True ∧
                               True ∧
                                match decide ((↑(intsOf (fldOf ((List.map itD L).getD x.toNat (D.val (Value.bool false))) (1 : Nat))).length : Int) ≥ (128 : Int)) with
                                | true =>
                                 (Sk.st [Sk.one, Sk.one] = Sk.st [Sk.one, Sk.one] ∧ (0 : Nat) < (2 : Nat)) ∧
                                  ((1 : Nat) ≠ (0 : Nat) ∧ (1 : Nat) = (1 : Nat) ∧ false = false) ∧
                                   True ∧
                                    True ∧
                                     ((1 : Nat) = (1 : Nat) ∧ (3 : Nat) ≤ (4096 : Nat)) ∧
                                      True ∧
                                       True ∧
                                        True ∧
                                         isBytes [numOf (fldOf ((List.map itD L).getD x.toNat (D.val (Value.bool false))) (0 : Nat)), (129 : Int), IntKind.u8.wrap (↑(intsOf (fldOf ((List.map itD L).getD x.toNat (D.val (Value.bool false))) (1 : Nat))).length : Int)] ∧
                                          (Sk.st [Sk.one, Sk.one] = Sk.st [Sk.one, Sk.one] ∧ (1 : Nat) < (2 : Nat)) ∧
                                           ((1 : Nat) ≠ (0 : Nat) ∧ (1 : Nat) = (1 : Nat) ∧ false = false) ∧
                                            isBytes (intsOf (fldOf ((List.map itD L).getD x.toNat (D.val (Value.bool false))) (1 : Nat))) ∧
                                             (↑((3 : Nat) + (intsOf (fldOf ((List.map itD L).getD x.toNat (D.val (Value.bool false))) (1 : Nat))).length) : Int) ≤ (9223372036854775807 : Int) ∧
                                              (↑((wrIts (List.take x.toNat L)).length +
                                                   (numOf (fldOf ((List.map itD L).getD x.toNat (D.val (Value.bool false))) (0 : Nat)) ::
                                                     (129 : Int) :: IntKind.u8.wrap (↑(intsOf (fldOf ((List.map itD L).getD x.toNat (D.val (Value.bool false))) (1 : Nat))).length : Int) :: intsOf (fldOf ((List.map itD L).getD x.toNat (D.val (Value.bool false))) (1 : Nat))).length) :
                                                 Int) ≤
                                                (9223372036854775807 : Int) ∧
                                               True ∧
                                                True ∧
                                                 True ∧
                                                  ((AV.d (D.val (Value.int IntKind.i64 (IntKind.i64.wrap (x + (1 : Int))))) = AV.d (D.val (Value.int IntKind.i64 (IntKind.i64.wrap (x + (1 : Int))))) ∧
                                                     AV.d
                                                        (D.str
                                                         (wrIts (List.take x.toNat L) ++
                                                          numOf (fldOf ((List.map itD L).getD x.toNat (D.val (Value.bool false))) (0 : Nat)) ::
                                                           (129 : Int) :: IntKind.u8.wrap (↑(intsOf (fldOf ((List.map itD L).getD x.toNat (D.val (Value.bool false))) (1 : Nat))).length : Int) :: intsOf (fldOf ((List.map itD L).getD x.toNat (D.val (Value.bool false))) (1 : Nat)))) =
                                                       AV.d (D.str (wrIts (List.take (IntKind.i64.wrap (x + (1 : Int))).toNat L))) ∧
                                                      True) ∧
                                                    True ∧ true = true) ∧
                                                   ((0 : Int) ≤ IntKind.i64.wrap (x + (1 : Int)) ∧ IntKind.i64.wrap (x + (1 : Int)) ≤ (↑L.length : Int)) ∧ ((↑L.length : Int) - IntKind.i64.wrap (x + (1 : Int))).toNat < ((↑L.length : Int) - x).toNat
                                | false =>
                                 True ∧
                                  True ∧
                                   isBytes [numOf (fldOf ((List.map itD L).getD x.toNat (D.val (Value.bool false))) (0 : Nat)), IntKind.u8.wrap (↑(intsOf (fldOf ((List.map itD L).getD x.toNat (D.val (Value.bool false))) (1 : Nat))).length : Int)] ∧
                                    (Sk.st [Sk.one, Sk.one] = Sk.st [Sk.one, Sk.one] ∧ (1 : Nat) < (2 : Nat)) ∧
                                     ((1 : Nat) ≠ (0 : Nat) ∧ (1 : Nat) = (1 : Nat) ∧ false = false) ∧
                                      isBytes (intsOf (fldOf ((List.map itD L).getD x.toNat (D.val (Value.bool false))) (1 : Nat))) ∧
                                       (↑((2 : Nat) + (intsOf (fldOf ((List.map itD L).getD x.toNat (D.val (Value.bool false))) (1 : Nat))).length) : Int) ≤ (9223372036854775807 : Int) ∧
                                        (↑((wrIts (List.take x.toNat L)).length +
                                             (numOf (fldOf ((List.map itD L).getD x.toNat (D.val (Value.bool false))) (0 : Nat)) :: IntKind.u8.wrap (↑(intsOf (fldOf ((List.map itD L).getD x.toNat (D.val (Value.bool false))) (1 : Nat))).length : Int) :: intsOf (fldOf ((List.map itD L).getD x.toNat (D.val (Value.bool false))) (1 : Nat))).length) :
                                           Int) ≤
                                          (9223372036854775807 : Int) ∧
                                         True ∧
                                          True ∧
                                           True ∧
                                            ((AV.d (D.val (Value.int IntKind.i64 (IntKind.i64.wrap (x + (1 : Int))))) = AV.d (D.val (Value.int IntKind.i64 (IntKind.i64.wrap (x + (1 : Int))))) ∧
                                               AV.d
                                                  (D.str
                                                   (wrIts (List.take x.toNat L) ++
                                                    numOf (fldOf ((List.map itD L).getD x.toNat (D.val (Value.bool false))) (0 : Nat)) :: IntKind.u8.wrap (↑(intsOf (fldOf ((List.map itD L).getD x.toNat (D.val (Value.bool false))) (1 : Nat))).length : Int) :: intsOf (fldOf ((List.map itD L).getD x.toNat (D.val (Value.bool false))) (1 : Nat)))) =
                                                 AV.d (D.str (wrIts (List.take (IntKind.i64.wrap (x + (1 : Int))).toNat L))) ∧
                                                True) ∧
                                              True ∧ true = true) ∧
                                             ((0 : Int) ≤ IntKind.i64.wrap (x + (1 : Int)) ∧ IntKind.i64.wrap (x + (1 : Int)) ≤ (↑L.length : Int)) ∧ ((↑L.length : Int) - IntKind.i64.wrap (x + (1 : Int))).toNat < ((↑L.length : Int) - x).toNat
            | false => True ∧ True ∧ (false = false ∧ True) ∧ D.str (wrIts (List.take x.toNat L)) = F) := by kernel_rfl
def c5 : Ctx := ⟨tab, lkS [(15, sp15), (16, sp16), (17, sp17)], [], []⟩
theorem ok5  (d : D)  :
    (OkT tab 6 5 d) = (
 ∃ z, d = D.val (Value.int IntKind.u8 z) ∧ (0 : Int) ≤ z ∧ z ≤ IntKind.u8.max) := by kernel_rfl
theorem ok28  (d : D)  :
    (OkT tab 6 28 d) = (
 ∃ l, d = D.ints IntKind.u8 l ∧ (∀ (z : Int), z ∈ l → (0 : Int) ≤ z ∧ z ≤ IntKind.u8.max) ∧ l.length ≤ (9223372036854775807 : Nat)) := by kernel_rfl
theorem ok34  (d : D)  :
    (OkT tab 8 34 d) = (
 ∃ xs, d = D.slc (2 : Nat) xs ∧ (∀ (y : D), y ∈ xs → ∃ ds, y = D.st ds ∧ OkL (OkT tab (6 : Nat)) [((0 : Nat), (5 : TypeId)), ((1 : Nat), (28 : TypeId))] ds) ∧ xs.length ≤ (9223372036854775807 : Nat)) := by kernel_rfl
theorem vc5  (L : List It)  :
    (owed c5 (fun _ => none) Try.f5 [itsD L] (bl true)) = (
 True ∧
   True ∧
    (∃ L_1, [D.slc (2 : Nat) (List.map itD L)] = [D.slc (2 : Nat) (List.map itD L_1)] ∧ okIts L_1) ∧
     True ∧
      ((0 : Nat) < (2 : Nat) ∧ false = false) ∧
       ((1 : Nat) < (2 : Nat) ∧ false = false) ∧
        True ∧
         True ∧
          True ∧
           (∃ L_1, [D.slc (2 : Nat) (List.map itD L)] = [D.slc (2 : Nat) (List.map itD L_1)] ∧ okIts L_1) ∧
            True ∧
             True ∧
              True ∧
               match items (itsOf (D.slc (2 : Nat) (List.map itD L))) != (0 : Int) with
               | true =>
                True ∧
                 True ∧
                  True ∧
                   True ∧
                    match (↑(wrB (itsOf (D.slc (2 : Nat) (List.map itD L)))).length : Int) == (0 : Int) with
                    | true => True ∧ True ∧ True ∧ True ∧ True ∧ (false = false ∧ True) ∧ D.val (Value.bool (items (itsOf (D.slc (2 : Nat) (List.map itD L))) == items (itsOf (D.slc (2 : Nat) (List.map itD L))))) = D.val (Value.bool true)
                    | false => True ∧ True ∧ (false = false ∧ True) ∧ D.val (Value.bool false) = D.val (Value.bool true)
               | false =>
                True ∧
                 True ∧
                  True ∧
                   match items (itsOf (D.slc (2 : Nat) (List.map itD L))) == (0 : Int) with
                   | true =>
                    True ∧
                     isBytes (wrB (itsOf (D.slc (2 : Nat) (List.map itD L)))) ∧
                      True ∧ (∃ L_1, [D.slc (2 : Nat) (List.map itD L)] = [D.slc (2 : Nat) (List.map itD L_1)] ∧ okIts L_1 ∧ items L_1 = (0 : Int)) ∧ True ∧ True ∧ True ∧ (false = false ∧ True) ∧ D.val (Value.bool (decide (wrB (itsOf (D.slc (2 : Nat) (List.map itD L))) = wrIts (itsOf (D.slc (2 : Nat) (List.map itD L)))))) = D.val (Value.bool true)
                   | false => True ∧ True ∧ (false = false ∧ True) ∧ D.val (Value.bool false) = D.val (Value.bool true)) := by kernel_rfl
theorem vc15  (L : List It) (F : D)  :
    (owed c15 (inv15 L) Try.f15 [itsD L] F) = (
 True ∧
   True ∧
    True ∧
     True ∧
      True ∧
       match decide ((↑(List.map itD L).length : Int) > (200 : Int)) with
       | true => True ∧ True ∧ (false = false ∧ false = false ∧ True) ∧ D.tup [D.ints IntKind.u8 [], D.val (Value.int IntKind.i64 (2 : Int))] = F
       | false =>
        (1 : Nat) ≠ (0 : Nat) ∧
         True ∧
          True ∧
           True ∧
            (((AV.d (D.val (Value.int IntKind.i64 (0 : Int))) = AV.d (D.val (Value.int IntKind.i64 (0 : Int))) ∧ AV.row (4 : Nat) = AV.row (4 : Nat) ∧ True) ∧ (some (Blk.row (5 : TypeId) (D.ints IntKind.u8 [])) = some (Blk.row (5 : TypeId) (D.ints IntKind.u8 (wrIts (List.take (0 : Nat) L)))) ∧ True) ∧ true = true) ∧
              (0 : Int) ≤ (0 : Int) ∧ (0 : Int) ≤ (↑L.length : Int) ∧ (List.take (0 : Nat) L).any bigIt = false) ∧
             ∀ (x : Int),
              (0 : Int) ≤ x ∧ x ≤ (↑L.length : Int) ∧ (List.take x.toNat L).any bigIt = false →
               true = true ∧
                True ∧
                 match decide (x < (↑(List.map itD L).length : Int)) with
                 | true =>
                  ((0 : Int) ≤ x ∧
                    x < (↑(List.map itD L).length : Int) ∧
                     (2 : Nat) ≠ (0 : Nat) ∧ (2 : Nat) = (2 : Nat) ∧ D.st [D.val (Value.int IntKind.u8 (numOf (fldOf ((List.map itD L).getD x.toNat (D.val (Value.bool false))) (0 : Nat)))), D.ints IntKind.u8 (intsOf (fldOf ((List.map itD L).getD x.toNat (D.val (Value.bool false))) (1 : Nat)))] = (List.map itD L).getD x.toNat (D.val (Value.bool false))) ∧
                   ((2 : Nat) ≠ (0 : Nat) ∧ (2 : Nat) = (2 : Nat) ∧ true = true) ∧
                    (True ∧ (2 : Nat) ≠ (0 : Nat)) ∧
                     (Sk.st [Sk.one, Sk.one] = Sk.st [Sk.one, Sk.one] ∧ (2 : Nat) ≠ (0 : Nat) ∧ (2 : Nat) = (2 : Nat) ∧ false = false) ∧
                      (Sk.st [Sk.one, Sk.one] = Sk.st [Sk.one, Sk.one] ∧ (1 : Nat) < (2 : Nat)) ∧
                       ((1 : Nat) ≠ (0 : Nat) ∧ (1 : Nat) = (1 : Nat) ∧ false = false) ∧
                        True ∧
                         True ∧
                          True ∧
                           True ∧
                            True ∧
                             match decide ((↑(intsOf (fldOf ((List.map itD L).getD x.toNat (D.val (Value.bool false))) (1 : Nat))).length : Int) > (4096 : Int)) with
                             | true => True ∧ True ∧ (false = false ∧ false = false ∧ True) ∧ D.tup [D.ints IntKind.u8 [], D.val (Value.int IntKind.i64 (2 : Int))] = F
                             | false =>
                              True ∧
                               True ∧
                                True ∧
                                 match decide ((↑(intsOf (fldOf ((List.map itD L).getD x.toNat (D.val (Value.bool false))) (1 : Nat))).length : Int) < (128 : Int)) with
                                 | true =>
                                  True ∧
                                   (Sk.st [Sk.one, Sk.one] = Sk.st [Sk.one, Sk.one] ∧ (0 : Nat) < (2 : Nat)) ∧
                                    ((1 : Nat) ≠ (0 : Nat) ∧ (1 : Nat) = (1 : Nat) ∧ false = false) ∧
                                     True ∧
                                      True ∧
                                       ((1 : Nat) = (1 : Nat) ∧ (2 : Nat) ≤ (4096 : Nat)) ∧
                                        ((5 : TypeId) = (5 : TypeId) ∧
                                          (28 : Nat) = (28 : Nat) ∧
                                           true = true ∧
                                            (wrIts (List.take x.toNat L) ++ [numOf (fldOf ((List.map itD L).getD x.toNat (D.val (Value.bool false))) (0 : Nat)), IntKind.u8.wrap (↑(intsOf (fldOf ((List.map itD L).getD x.toNat (D.val (Value.bool false))) (1 : Nat))).length : Int)]).length ≤ (140737488355328 : Nat) ∧
                                             (wrIts (List.take x.toNat L) ++ [numOf (fldOf ((List.map itD L).getD x.toNat (D.val (Value.bool false))) (0 : Nat)), IntKind.u8.wrap (↑(intsOf (fldOf ((List.map itD L).getD x.toNat (D.val (Value.bool false))) (1 : Nat))).length : Int)]).length * (1 : Nat) ≤ (140737488355328 : Nat) ∧
                                              (1 : Nat) ≠ (0 : Nat) ∧ (1 : Nat) = (1 : Nat)) ∧
                                         True ∧
                                          True ∧
                                           (Sk.st [Sk.one, Sk.one] = Sk.st [Sk.one, Sk.one] ∧ (1 : Nat) < (2 : Nat)) ∧
                                            ((1 : Nat) ≠ (0 : Nat) ∧ (1 : Nat) = (1 : Nat) ∧ false = false) ∧
                                             ((5 : TypeId) = (5 : TypeId) ∧
                                               (28 : Nat) = (28 : Nat) ∧
                                                true = true ∧
                                                 (wrIts (List.take x.toNat L) ++ [numOf (fldOf ((List.map itD L).getD x.toNat (D.val (Value.bool false))) (0 : Nat)), IntKind.u8.wrap (↑(intsOf (fldOf ((List.map itD L).getD x.toNat (D.val (Value.bool false))) (1 : Nat))).length : Int)] ++
                                                     intsOf (fldOf ((List.map itD L).getD x.toNat (D.val (Value.bool false))) (1 : Nat))).length ≤
                                                   (140737488355328 : Nat) ∧
                                                  (wrIts (List.take x.toNat L) ++ [numOf (fldOf ((List.map itD L).getD x.toNat (D.val (Value.bool false))) (0 : Nat)), IntKind.u8.wrap (↑(intsOf (fldOf ((List.map itD L).getD x.toNat (D.val (Value.bool false))) (1 : Nat))).length : Int)] ++
                                                       intsOf (fldOf ((List.map itD L).getD x.toNat (D.val (Value.bool false))) (1 : Nat))).length *
                                                     (1 : Nat) ≤
                                                    (140737488355328 : Nat) ∧
                                                   (1 : Nat) ≠ (0 : Nat) ∧ (1 : Nat) = (1 : Nat)) ∧
                                              True ∧
                                               True ∧
                                                True ∧
                                                 ((AV.d (D.val (Value.int IntKind.i64 (IntKind.i64.wrap (x + (1 : Int))))) = AV.d (D.val (Value.int IntKind.i64 (IntKind.i64.wrap (x + (1 : Int))))) ∧ AV.row (4 : Nat) = AV.row (4 : Nat) ∧ True) ∧
                                                   (some
                                                       (Blk.row (5 : TypeId)
                                                        (D.ints IntKind.u8
                                                         (wrIts (List.take x.toNat L) ++ [numOf (fldOf ((List.map itD L).getD x.toNat (D.val (Value.bool false))) (0 : Nat)), IntKind.u8.wrap (↑(intsOf (fldOf ((List.map itD L).getD x.toNat (D.val (Value.bool false))) (1 : Nat))).length : Int)] ++
                                                          intsOf (fldOf ((List.map itD L).getD x.toNat (D.val (Value.bool false))) (1 : Nat))))) =
                                                      some (Blk.row (5 : TypeId) (D.ints IntKind.u8 (wrIts (List.take (IntKind.i64.wrap (x + (1 : Int))).toNat L)))) ∧
                                                     True) ∧
                                                    true = true) ∧
                                                  ((0 : Int) ≤ IntKind.i64.wrap (x + (1 : Int)) ∧ IntKind.i64.wrap (x + (1 : Int)) ≤ (↑L.length : Int) ∧ (List.take (IntKind.i64.wrap (x + (1 : Int))).toNat L).any bigIt = false) ∧ ((↑L.length : Int) - IntKind.i64.wrap (x + (1 : Int))).toNat < ((↑L.length : Int) - x).toNat
                                 | false =>
                                  True ∧
                                   True ∧
                                    True ∧
                                     match decide ((↑(intsOf (fldOf ((List.map itD L).getD x.toNat (D.val (Value.bool false))) (1 : Nat))).length : Int) < (256 : Int)) with
                                     | true =>
                                      True ∧
                                       (Sk.st [Sk.one, Sk.one] = Sk.st [Sk.one, Sk.one] ∧ (0 : Nat) < (2 : Nat)) ∧
                                        ((1 : Nat) ≠ (0 : Nat) ∧ (1 : Nat) = (1 : Nat) ∧ false = false) ∧
                                         True ∧
                                          True ∧
                                           ((1 : Nat) = (1 : Nat) ∧ (3 : Nat) ≤ (4096 : Nat)) ∧
                                            ((5 : TypeId) = (5 : TypeId) ∧
                                              (28 : Nat) = (28 : Nat) ∧
                                               true = true ∧
                                                (wrIts (List.take x.toNat L) ++ [numOf (fldOf ((List.map itD L).getD x.toNat (D.val (Value.bool false))) (0 : Nat)), (129 : Int), IntKind.u8.wrap (↑(intsOf (fldOf ((List.map itD L).getD x.toNat (D.val (Value.bool false))) (1 : Nat))).length : Int)]).length ≤ (140737488355328 : Nat) ∧
                                                 (wrIts (List.take x.toNat L) ++ [numOf (fldOf ((List.map itD L).getD x.toNat (D.val (Value.bool false))) (0 : Nat)), (129 : Int), IntKind.u8.wrap (↑(intsOf (fldOf ((List.map itD L).getD x.toNat (D.val (Value.bool false))) (1 : Nat))).length : Int)]).length * (1 : Nat) ≤ (140737488355328 : Nat) ∧
                                                  (1 : Nat) ≠ (0 : Nat) ∧ (1 : Nat) = (1 : Nat)) ∧
                                             True ∧
                                              True ∧
                                               (Sk.st [Sk.one, Sk.one] = Sk.st [Sk.one, Sk.one] ∧ (1 : Nat) < (2 : Nat)) ∧
                                                ((1 : Nat) ≠ (0 : Nat) ∧ (1 : Nat) = (1 : Nat) ∧ false = false) ∧
                                                 ((5 : TypeId) = (5 : TypeId) ∧
                                                   (28 : Nat) = (28 : Nat) ∧
                                                    true = true ∧
                                                     (wrIts (List.take x.toNat L) ++ [numOf (fldOf ((List.map itD L).getD x.toNat (D.val (Value.bool false))) (0 : Nat)), (129 : Int), IntKind.u8.wrap (↑(intsOf (fldOf ((List.map itD L).getD x.toNat (D.val (Value.bool false))) (1 : Nat))).length : Int)] ++
                                                         intsOf (fldOf ((List.map itD L).getD x.toNat (D.val (Value.bool false))) (1 : Nat))).length ≤
                                                       (140737488355328 : Nat) ∧
                                                      (wrIts (List.take x.toNat L) ++ [numOf (fldOf ((List.map itD L).getD x.toNat (D.val (Value.bool false))) (0 : Nat)), (129 : Int), IntKind.u8.wrap (↑(intsOf (fldOf ((List.map itD L).getD x.toNat (D.val (Value.bool false))) (1 : Nat))).length : Int)] ++
                                                           intsOf (fldOf ((List.map itD L).getD x.toNat (D.val (Value.bool false))) (1 : Nat))).length *
                                                         (1 : Nat) ≤
                                                        (140737488355328 : Nat) ∧
                                                       (1 : Nat) ≠ (0 : Nat) ∧ (1 : Nat) = (1 : Nat)) ∧
                                                  True ∧
                                                   True ∧
                                                    True ∧
                                                     ((AV.d (D.val (Value.int IntKind.i64 (IntKind.i64.wrap (x + (1 : Int))))) = AV.d (D.val (Value.int IntKind.i64 (IntKind.i64.wrap (x + (1 : Int))))) ∧ AV.row (4 : Nat) = AV.row (4 : Nat) ∧ True) ∧
                                                       (some
                                                           (Blk.row (5 : TypeId)
                                                            (D.ints IntKind.u8
                                                             (wrIts (List.take x.toNat L) ++ [numOf (fldOf ((List.map itD L).getD x.toNat (D.val (Value.bool false))) (0 : Nat)), (129 : Int), IntKind.u8.wrap (↑(intsOf (fldOf ((List.map itD L).getD x.toNat (D.val (Value.bool false))) (1 : Nat))).length : Int)] ++
                                                              intsOf (fldOf ((List.map itD L).getD x.toNat (D.val (Value.bool false))) (1 : Nat))))) =
                                                          some (Blk.row (5 : TypeId) (D.ints IntKind.u8 (wrIts (List.take (IntKind.i64.wrap (x + (1 : Int))).toNat L)))) ∧
                                                         True) ∧
                                                        true = true) ∧
                                                      ((0 : Int) ≤ IntKind.i64.wrap (x + (1 : Int)) ∧ IntKind.i64.wrap (x + (1 : Int)) ≤ (↑L.length : Int) ∧ (List.take (IntKind.i64.wrap (x + (1 : Int))).toNat L).any bigIt = false) ∧ ((↑L.length : Int) - IntKind.i64.wrap (x + (1 : Int))).toNat < ((↑L.length : Int) - x).toNat
                                     | false =>
                                      True ∧
                                       (Sk.st [Sk.one, Sk.one] = Sk.st [Sk.one, Sk.one] ∧ (0 : Nat) < (2 : Nat)) ∧
                                        ((1 : Nat) ≠ (0 : Nat) ∧ (1 : Nat) = (1 : Nat) ∧ false = false) ∧
                                         True ∧
                                          (0 : Int) ≤ (8 : Int) ∧
                                           True ∧
                                            True ∧
                                             True ∧
                                              ((1 : Nat) = (1 : Nat) ∧ (4 : Nat) ≤ (4096 : Nat)) ∧
                                               ((5 : TypeId) = (5 : TypeId) ∧
                                                 (28 : Nat) = (28 : Nat) ∧
                                                  true = true ∧
                                                   (wrIts (List.take x.toNat L) ++
                                                       [numOf (fldOf ((List.map itD L).getD x.toNat (D.val (Value.bool false))) (0 : Nat)), (130 : Int), IntKind.u8.wrap (ishr IntKind.i64 (↑(intsOf (fldOf ((List.map itD L).getD x.toNat (D.val (Value.bool false))) (1 : Nat))).length : Int) (8 : Int)),
                                                        IntKind.u8.wrap (↑(intsOf (fldOf ((List.map itD L).getD x.toNat (D.val (Value.bool false))) (1 : Nat))).length : Int)]).length ≤
                                                     (140737488355328 : Nat) ∧
                                                    (wrIts (List.take x.toNat L) ++
                                                         [numOf (fldOf ((List.map itD L).getD x.toNat (D.val (Value.bool false))) (0 : Nat)), (130 : Int), IntKind.u8.wrap (ishr IntKind.i64 (↑(intsOf (fldOf ((List.map itD L).getD x.toNat (D.val (Value.bool false))) (1 : Nat))).length : Int) (8 : Int)),
                                                          IntKind.u8.wrap (↑(intsOf (fldOf ((List.map itD L).getD x.toNat (D.val (Value.bool false))) (1 : Nat))).length : Int)]).length *
                                                       (1 : Nat) ≤
                                                      (140737488355328 : Nat) ∧
                                                     (1 : Nat) ≠ (0 : Nat) ∧ (1 : Nat) = (1 : Nat)) ∧
                                                True ∧
                                                 True ∧
                                                  (Sk.st [Sk.one, Sk.one] = Sk.st [Sk.one, Sk.one] ∧ (1 : Nat) < (2 : Nat)) ∧
                                                   ((1 : Nat) ≠ (0 : Nat) ∧ (1 : Nat) = (1 : Nat) ∧ false = false) ∧
                                                    ((5 : TypeId) = (5 : TypeId) ∧
                                                      (28 : Nat) = (28 : Nat) ∧
                                                       true = true ∧
                                                        (wrIts (List.take x.toNat L) ++
                                                             [numOf (fldOf ((List.map itD L).getD x.toNat (D.val (Value.bool false))) (0 : Nat)), (130 : Int), IntKind.u8.wrap (ishr IntKind.i64 (↑(intsOf (fldOf ((List.map itD L).getD x.toNat (D.val (Value.bool false))) (1 : Nat))).length : Int) (8 : Int)),
                                                              IntKind.u8.wrap (↑(intsOf (fldOf ((List.map itD L).getD x.toNat (D.val (Value.bool false))) (1 : Nat))).length : Int)] ++
                                                            intsOf (fldOf ((List.map itD L).getD x.toNat (D.val (Value.bool false))) (1 : Nat))).length ≤
                                                          (140737488355328 : Nat) ∧
                                                         (wrIts (List.take x.toNat L) ++
                                                               [numOf (fldOf ((List.map itD L).getD x.toNat (D.val (Value.bool false))) (0 : Nat)), (130 : Int), IntKind.u8.wrap (ishr IntKind.i64 (↑(intsOf (fldOf ((List.map itD L).getD x.toNat (D.val (Value.bool false))) (1 : Nat))).length : Int) (8 : Int)),
                                                                IntKind.u8.wrap (↑(intsOf (fldOf ((List.map itD L).getD x.toNat (D.val (Value.bool false))) (1 : Nat))).length : Int)] ++
                                                              intsOf (fldOf ((List.map itD L).getD x.toNat (D.val (Value.bool false))) (1 : Nat))).length *
                                                            (1 : Nat) ≤
                                                           (140737488355328 : Nat) ∧
                                                          (1 : Nat) ≠ (0 : Nat) ∧ (1 : Nat) = (1 : Nat)) ∧
                                                     True ∧
                                                      True ∧
                                                       True ∧
                                                        ((AV.d (D.val (Value.int IntKind.i64 (IntKind.i64.wrap (x + (1 : Int))))) = AV.d (D.val (Value.int IntKind.i64 (IntKind.i64.wrap (x + (1 : Int))))) ∧ AV.row (4 : Nat) = AV.row (4 : Nat) ∧ True) ∧
                                                          (some
                                                              (Blk.row (5 : TypeId)
                                                               (D.ints IntKind.u8
                                                                (wrIts (List.take x.toNat L) ++
                                                                  [numOf (fldOf ((List.map itD L).getD x.toNat (D.val (Value.bool false))) (0 : Nat)), (130 : Int), IntKind.u8.wrap (ishr IntKind.i64 (↑(intsOf (fldOf ((List.map itD L).getD x.toNat (D.val (Value.bool false))) (1 : Nat))).length : Int) (8 : Int)),
                                                                   IntKind.u8.wrap (↑(intsOf (fldOf ((List.map itD L).getD x.toNat (D.val (Value.bool false))) (1 : Nat))).length : Int)] ++
                                                                 intsOf (fldOf ((List.map itD L).getD x.toNat (D.val (Value.bool false))) (1 : Nat))))) =
                                                             some (Blk.row (5 : TypeId) (D.ints IntKind.u8 (wrIts (List.take (IntKind.i64.wrap (x + (1 : Int))).toNat L)))) ∧
                                                            True) ∧
                                                           true = true) ∧
                                                         ((0 : Int) ≤ IntKind.i64.wrap (x + (1 : Int)) ∧ IntKind.i64.wrap (x + (1 : Int)) ≤ (↑L.length : Int) ∧ (List.take (IntKind.i64.wrap (x + (1 : Int))).toNat L).any bigIt = false) ∧ ((↑L.length : Int) - IntKind.i64.wrap (x + (1 : Int))).toNat < ((↑L.length : Int) - x).toNat
                 | false => True ∧ True ∧ True ∧ (false = false ∧ false = false ∧ True) ∧ D.tup [D.ints IntKind.u8 (wrIts (List.take x.toNat L)), D.val (Value.int IntKind.i64 (0 : Int))] = F) := by kernel_rfl

theorem itD_t (e : It) : numOf (fldOf (itD e) 0) = e.1 := rfl
theorem itD_b (e : It) : intsOf (fldOf (itD e) 1) = e.2 := rfl
theorem itD_r (e : It) : D.st [D.val (Value.int IntKind.u8 e.1), D.ints IntKind.u8 e.2] = itD e := rfl

theorem any_push {L M : List It} {e : It} (h : L = M ++ [e]) : L.any bigIt = (M.any bigIt || bigIt e) := by
  subst h
  simp

theorem m16 : Meets Try.prog 16 sp16 := by
  refine meets_of_owed (C := c16) ⟨tab_ok, fun f s h => by cases h⟩ (by kernel_rfl) (by kernel_rfl : Try.prog.funcs[16]? = some Try.f16) (by kernel_rfl) (by kernel_rfl) (by kernel_rfl) _ ?_
  rintro _ ⟨L, rfl, hL⟩
  refine ⟨fun _ => rfl, inv16 L, ?_⟩
  show owed c16 (inv16 L) Try.f16 [itsD L] (i64 (items (itsOf (itsD L))))
  rw [itsOf_D, vc16]
  simp only [eq_self, true_and, and_true, ne_eq, List.length_map]
  have hm := hL.1
  simp only [maxLen] at hm
  have fin2 : items L = 2 ∨ (L.length ≤ 200 ∧ L.any bigIt = false ∧ items L = 0) := by
    unfold items
    cases h1 : Nat.blt 200 L.length
    · cases h2 : L.any bigIt
      · right
        refine ⟨?_, rfl, rfl⟩
        have : ¬ 200 < L.length := by rw [← Nat.blt_eq, h1]; simp
        omega
      · left; rfl
    · left; rfl
  split
  · rename_i h
    have h := of_decide_eq_true h
    rcases fin2 with h2 | h2
    · rw [h2]
    · omega
  · rename_i h
    have h := of_decide_eq_false h
    refine ⟨⟨by omega, by omega, rfl⟩, fun x hx => ?_⟩
    split
    · rename_i h1
      have h1 := of_decide_eq_true h1
      obtain ⟨e, he, e1, e2⟩ := getD_map itD L x hx.1 h1 (D.val (.bool false))
      rw [wi (by omega) (by omega)]
      simp only [e1, itD_t, itD_b, itD_r, true_and, and_true]
      refine ⟨⟨hx.1, h1, by decide⟩, by decide, by decide, by decide, by decide, by decide, ?_⟩
      split
      · rename_i h3
        have h3 := of_decide_eq_true h3
        rcases fin2 with h2 | h2
        · rw [h2]
        · exfalso
          have := h2.2.1
          rw [List.any_eq_false] at this
          have := this e he
          simp only [bigIt, Nat.blt_eq] at this
          omega
      · rename_i h3
        have h3 := of_decide_eq_false h3
        refine ⟨⟨by omega, by omega, ?_⟩, by omega⟩
        rw [any_push e2, hx.2.2]
        simp only [Bool.false_or, bigIt]
        cases hb : Nat.blt 4096 e.2.length
        · rfl
        · rw [Nat.blt_eq] at hb
          omega
    · rename_i h1
      have h1 := of_decide_eq_false h1
      have hx2 := hx.2.2
      rw [List.take_of_length_le (by omega)] at hx2
      rcases fin2 with h2 | h2
      · exfalso
        unfold items at h2
        have : Nat.blt 200 L.length = false := by
          cases hb : Nat.blt 200 L.length
          · rfl
          · rw [Nat.blt_eq] at hb
            omega
        rw [this, hx2] at h2
        cases h2
      · rw [h2.2.2]


theorem wr_push {L M : List It} {e : It} (h : L = M ++ [e]) : wrIts L = wrIts M ++ (itHead e ++ e.2) := by
  subst h
  simp [wrIts]

theorem hd_len (e : It) : (itHead e).length ≤ 4 := by
  unfold itHead
  split
  · simp
  · split <;> simp

theorem wr_len : ∀ (M : List It), (∀ e ∈ M, e.2.length ≤ 4096) → (wrIts M).length ≤ 4100 * M.length
  | [], _ => by simp [wrIts]
  | e :: M, h => by
    have h1 := wr_len M fun x hx => h x (List.mem_cons_of_mem _ hx)
    have h2 := h e (by simp)
    have h3 := hd_len e
    simp only [wrIts, List.flatMap_cons, List.length_append, List.length_cons] at h1 ⊢
    omega

theorem hd1 {e : It} (h : e.2.length < 128) : itHead e = [e.1, IntKind.u8.wrap (e.2.length : Int)] := by
  unfold itHead
  rw [if_pos h, w8]
  congr 2
  omega

theorem hd2 {e : It} (h0 : ¬ e.2.length < 128) (h : e.2.length < 256) : itHead e = [e.1, 129, IntKind.u8.wrap (e.2.length : Int)] := by
  unfold itHead
  rw [if_neg h0, if_pos h, w8]
  congr 3
  omega

theorem hd3 {e : It} (h0 : ¬ e.2.length < 256) (h : e.2.length ≤ 4096) : itHead e = [e.1, 130, IntKind.u8.wrap (IntKind.i64.wrap ((e.2.length : Int).tdiv 256)), IntKind.u8.wrap ((e.2.length : Int).tmod 256)] := by
  unfold itHead
  rw [if_neg (by omega), if_neg h0, w8, w8, show (256 : Int) = (256 : Nat) from rfl, tdivN, tmodN, wi (by omega) (by omega)]
  simp only [List.cons.injEq, and_true, true_and]
  omega

theorem hd4 {e : It} (h0 : ¬ e.2.length < 256) (h : e.2.length ≤ 4096) : itHead e = [e.1, 130, IntKind.u8.wrap (ishr IntKind.i64 (e.2.length : Int) 8), IntKind.u8.wrap (e.2.length : Int)] := by
  unfold itHead
  rw [if_neg (by omega), if_neg h0, w8, w8, show (8 : Int) = ((8 : Nat) : Int) from rfl, ishr_eq _ _ _ (by decide)]
  congr 4
  · omega

theorem small_of {L : List It} (h : items L = 0) : L.length ≤ 200 ∧ ∀ e ∈ L, e.2.length ≤ 4096 := by
  unfold items at h
  cases h1 : Nat.blt 200 L.length
  · cases h2 : L.any bigIt
    · refine ⟨?_, fun e he => ?_⟩
      · have : ¬ 200 < L.length := by rw [← Nat.blt_eq, h1]; simp
        omega
      · rw [List.any_eq_false] at h2
        have := h2 e he
        simp only [bigIt, Nat.blt_eq] at this
        omega
    · rw [h1, h2] at h; cases h
  · rw [h1] at h; cases h

theorem bytes2 {a b : Int} (h : 0 ≤ a ∧ a < 256) : isBytes [a, IntKind.u8.wrap b] := by
  intro x hx
  simp only [List.mem_cons, List.not_mem_nil, or_false] at hx
  rcases hx with rfl | rfl
  · exact h
  · rw [w8]; omega
theorem bytes3 {a b : Int} (h : 0 ≤ a ∧ a < 256) : isBytes [a, 129, IntKind.u8.wrap b] := by
  intro x hx
  simp only [List.mem_cons, List.not_mem_nil, or_false] at hx
  rcases hx with rfl | rfl | rfl
  · exact h
  · decide
  · rw [w8]; omega
theorem bytes4 {a b c : Int} (h : 0 ≤ a ∧ a < 256) : isBytes [a, 130, IntKind.u8.wrap b, IntKind.u8.wrap c] := by
  intro x hx
  simp only [List.mem_cons, List.not_mem_nil, or_false] at hx
  rcases hx with rfl | rfl | rfl | rfl
  · exact h
  · decide
  · rw [w8]; omega
  · rw [w8]; omega

theorem m17 : Meets Try.prog 17 sp17 := by
  refine meets_of_owed (C := c16) ⟨tab_ok, fun f s h => by cases h⟩ (by kernel_rfl) (by kernel_rfl : Try.prog.funcs[17]? = some Try.f17) (by kernel_rfl) (by kernel_rfl) (by kernel_rfl) _ ?_
  rintro _ ⟨L, rfl, hL, hz⟩
  refine ⟨fun _ => rfl, inv17 L, ?_⟩
  show owed c16 (inv17 L) Try.f17 [itsD L] (.str (wrIts (itsOf (itsD L))))
  rw [itsOf_D, vc17]
  obtain ⟨s1, s2⟩ := small_of hz
  simp (decide := true) only [eq_self, true_and, and_true, ne_eq, List.length_map, not_false_eq_true]
  refine ⟨⟨rfl, by omega⟩, fun x hx => ?_⟩
  split
  · rename_i h1
    have h1 := of_decide_eq_true h1
    obtain ⟨e, he, e1, e2⟩ := getD_map itD L x hx.1 h1 (D.val (.bool false))
    have hlen := wr_len (L.take x.toNat) fun e' he' => s2 e' (List.mem_of_mem_take he')
    have hlen2 : (L.take x.toNat).length ≤ 200 := by rw [List.length_take]; omega
    have s3 := s2 e he
    obtain ⟨b1, b2, b3⟩ := hL.2 e he
    rw [wi (n := x + 1) (by omega) (by omega)]
    simp only [e1, itD_t, itD_b, itD_r, true_and, and_true, wr_push e2]
    refine ⟨⟨hx.1, h1⟩, ?_⟩
    split
    · rename_i h3
      have h3 := of_decide_eq_true h3
      have hh := hd3 (e := e) (by omega) s3
      refine ⟨bytes4 b1, b2, by omega, ?_, ?_, by omega, by omega⟩
      · simp only [List.length_cons]; omega
      · rw [hh]; simp
    · rename_i h3
      have h3 := of_decide_eq_false h3
      split
      · rename_i h4
        have h4 := of_decide_eq_true h4
        have hh := hd2 (e := e) (by omega) (by omega)
        refine ⟨bytes3 b1, b2, by omega, ?_, ?_, by omega, by omega⟩
        · simp only [List.length_cons]; omega
        · rw [hh]; simp
      · rename_i h4
        have h4 := of_decide_eq_false h4
        have hh := hd1 (e := e) (by omega)
        refine ⟨bytes2 b1, b2, by omega, ?_, ?_, by omega, by omega⟩
        · simp only [List.length_cons]; omega
        · rw [hh]; simp
  · rename_i h1
    have h1 := of_decide_eq_false h1
    rw [List.take_of_length_le (by omega)]


set_option maxRecDepth 100000 in
theorem m15 : Meets Try.prog 15 sp15 := by
  refine meets_of_owed (C := c15) ⟨tab_ok, fun f s h => by cases h⟩ (by kernel_rfl) (by kernel_rfl : Try.prog.funcs[15]? = some Try.f15) (by kernel_rfl) (by kernel_rfl) (by kernel_rfl) _ ?_
  rintro _ ⟨L, rfl, hL⟩
  refine ⟨fun h => (by cases h), inv15 L, ?_⟩
  show owed c15 (inv15 L) Try.f15 [itsD L] (wrD (itsOf (itsD L)))
  rw [itsOf_D, vc15]
  have hm := hL.1
  simp only [maxLen] at hm
  simp (decide := true) only [eq_self, true_and, and_true, ne_eq, List.length_map, not_false_eq_true]
  have big : 200 < L.length → wrD L = .tup [bys [], i64 2] := fun h => by
    unfold wrD wrB items
    rw [show Nat.blt 200 L.length = true by rw [Nat.blt_eq]; exact h]
    rfl
  have big2 : L.any bigIt = true → wrD L = .tup [bys [], i64 2] := fun h => by
    unfold wrD wrB items
    rw [h, Bool.or_true]
    rfl
  split
  · rename_i h
    have h := of_decide_eq_true h
    rw [big (by omega)]
  · rename_i h
    have h := of_decide_eq_false h
    refine ⟨⟨rfl, by omega, rfl⟩, fun x hx => ?_⟩
    have hsm : ∀ e' ∈ L.take x.toNat, e'.2.length ≤ 4096 := fun e' he' => by
      have := hx.2.2
      rw [List.any_eq_false] at this
      have := this e' he'
      simp only [bigIt, Nat.blt_eq] at this
      omega
    have hlen := wr_len (L.take x.toNat) hsm
    have hlen2 : (L.take x.toNat).length ≤ 200 := by rw [List.length_take]; omega
    split
    · rename_i h1
      have h1 := of_decide_eq_true h1
      obtain ⟨e, he, e1, e2⟩ := getD_map itD L x hx.1 h1 (D.val (.bool false))
      obtain ⟨b1, b2, b3⟩ := hL.2 e he
      rw [wi (n := x + 1) (by omega) (by omega)]
      simp only [e1, itD_t, itD_b, itD_r, true_and, and_true, wr_push e2, any_push e2]
      refine ⟨⟨hx.1, h1⟩, ?_⟩
      split
      · rename_i h3
        have h3 := of_decide_eq_true h3
        rw [big2]
        rw [List.any_eq_true]
        exact ⟨e, he, by simp only [bigIt, Nat.blt_eq]; omega⟩
      · rename_i h3
        have h3 := of_decide_eq_false h3
        have hne : bigIt e = false := by
          cases hb : Nat.blt 4096 e.2.length
          · exact hb
          · rw [Nat.blt_eq] at hb
            omega
        have hor : ((L.take x.toNat).any bigIt || bigIt e) = false := Bool.or_eq_false_iff.2 ⟨hx.2.2, hne⟩
        split
        · rename_i h4
          have h4 := of_decide_eq_true h4
          have hh := hd1 (e := e) (by omega)
          rw [hh]
          simp only [List.length_append, List.length_cons, List.length_nil, List.append_assoc]
          and_intros <;> first | omega | exact hor | trivial | rfl
        · rename_i h4
          have h4 := of_decide_eq_false h4
          split
          · rename_i h5
            have h5 := of_decide_eq_true h5
            have hh := hd2 (e := e) (by omega) (by omega)
            rw [hh]
            simp only [List.length_append, List.length_cons, List.length_nil, List.append_assoc]
            and_intros <;> first | omega | exact hor | trivial | rfl
          · rename_i h5
            have h5 := of_decide_eq_false h5
            have hh := hd4 (e := e) (by omega) (by omega)
            rw [hh]
            simp only [List.length_append, List.length_cons, List.length_nil, List.append_assoc]
            and_intros <;> first | omega | exact hor | trivial | rfl
    · rename_i h1
      have h1 := of_decide_eq_false h1
      have hx2 := hx.2.2
      rw [List.take_of_length_le (by omega)] at hx2 ⊢
      unfold wrD wrB items
      have : Nat.blt 200 L.length = false := by
        cases hb : Nat.blt 200 L.length
        · rfl
        · rw [Nat.blt_eq] at hb
          omega
      rw [this, hx2]
      rfl

theorem ok_it {x : D} (h : ∃ ds, x = D.st ds ∧ OkL (OkT tab 6) [(0, 5), (1, 28)] ds) : ∃ e : It, x = itD e ∧ (0 ≤ e.1 ∧ e.1 < 256) ∧ isBytes e.2 ∧ e.2.length ≤ maxLen := by
  obtain ⟨ds, rfl, h⟩ := h
  match ds, h with
  | [a, b], h =>
    obtain ⟨h1, h2, _⟩ := h
    rw [ok5] at h1
    rw [ok28] at h2
    obtain ⟨z, rfl, hz1, hz2⟩ := h1
    obtain ⟨l, rfl, hl, hl2⟩ := h2
    refine ⟨(z, l), rfl, ⟨by exact hz1, ?_⟩, fun x hx => ?_, hl2⟩
    · exact Int.lt_of_le_of_lt hz2 (by decide)
    · exact ⟨(hl x hx).1, Int.lt_of_le_of_lt (hl x hx).2 (by decide)⟩

theorem its_of (P : It → Prop) : ∀ (xs : List D), (∀ y ∈ xs, ∃ e, y = itD e ∧ P e) → ∃ L : List It, xs = L.map itD ∧ ∀ e ∈ L, P e
  | [], _ => ⟨[], rfl, fun e he => by simp at he⟩
  | y :: xs, h => by
    obtain ⟨e, rfl, he⟩ := h y (by simp)
    obtain ⟨L, rfl, hL⟩ := its_of P xs fun z hz => h z (List.mem_cons_of_mem _ hz)
    refine ⟨e :: L, rfl, fun x hx => ?_⟩
    simp only [List.mem_cons] at hx
    rcases hx with rfl | hx
    · exact he
    · exact hL x hx

theorem ok_its {d : D} (h : OkT tab 8 34 d) : ∃ L, d = itsD L ∧ okIts L := by
  rw [ok34] at h
  obtain ⟨xs, rfl, h1, h2⟩ := h
  obtain ⟨L, rfl, hL⟩ := its_of _ xs fun y hy => ok_it (h1 y hy)
  exact ⟨L, rfl, by simpa [maxLen] using h2, hL⟩

theorem m5 : Meets Try.prog 5 (lawSpec tab Try.f5.params.toList) := by
  refine meets_of_owed (C := c5) ⟨tab_ok, lkS_ok ⟨m15, m16, m17, trivial⟩⟩ (by kernel_rfl) (by kernel_rfl : Try.prog.funcs[5]? = some Try.f5) (by kernel_rfl) (by kernel_rfl) (by kernel_rfl) _ ?_
  intro ds hds
  obtain ⟨L, rfl, hL⟩ : ∃ L, ds = [itsD L] ∧ okIts L := by
    match ds, hds with
    | [d], h =>
      obtain ⟨L, rfl, hL⟩ := ok_its h.1
      exact ⟨L, rfl, hL⟩
  refine ⟨fun _ => rfl, fun _ => none, ?_⟩
  show owed c5 (fun _ => none) Try.f5 [itsD L] (bl true)
  rw [vc5]
  simp (decide := true) only [eq_self, true_and, and_true, ne_eq, List.length_map, not_false_eq_true]
  have hi : itsOf (D.slc 2 (List.map itD L)) = L := itsOf_D L
  rw [hi]
  refine ⟨⟨L, rfl, hL⟩, ⟨L, rfl, hL⟩, ?_⟩
  have hz : items L = 0 ∨ (items L ≠ 0 ∧ wrB L = []) := by
    unfold wrB items
    cases Nat.blt 200 L.length || L.any bigIt
    · exact .inl rfl
    · exact .inr ⟨by decide, rfl⟩
  rcases hz with hz | ⟨hz, hw⟩
  · rw [hz]
    have hw : wrB L = wrIts L := by
      unfold wrB
      unfold items at hz
      generalize (Nat.blt 200 L.length || L.any bigIt) = b at hz
      cases b
      · rfl
      · cases hz
    rw [hw]
    obtain ⟨s1, s2⟩ := small_of hz
    refine ⟨?_, ⟨L, rfl, hL, hz⟩, by simp⟩
    intro x hx
    simp only [wrIts, List.mem_flatMap, List.mem_append] at hx
    obtain ⟨e, he, hx | hx⟩ := hx
    · obtain ⟨b1, b2, b3⟩ := hL.2 e he
      have := s2 e he
      unfold itHead at hx
      split at hx
      · simp only [List.mem_cons, List.not_mem_nil, or_false] at hx
        rcases hx with rfl | rfl
        · exact b1
        · omega
      · split at hx
        · simp only [List.mem_cons, List.not_mem_nil, or_false] at hx
          rcases hx with rfl | rfl | rfl
          · exact b1
          · omega
          · omega
        · simp only [List.mem_cons, List.not_mem_nil, or_false] at hx
          rcases hx with rfl | rfl | rfl | rfl
          · exact b1
          · omega
          · omega
          · omega
    · exact (hL.2 e he).2.1 x hx
  · have h1 : (items L != 0) = true := by simpa using hz
    rw [h1, hw]
    simp

end Go.Proofs.Ytcdjhhepgkcabaa
