/- package tree and its reference: Root, Path, leaves, floor, Equal: what they owe. -/
import Derived.Test.YtkicjckhkefnpaaDoorZb12
namespace Go.Proofs.YtkicjckhkefnpaaDoor
open Go Go.Vg

abbrev LD (ls : List (List Int)) : D := .slc 1 (ls.map bys)
abbrev PD (qs : List (List Int)) : D := .slc 32 (qs.map d32)
def lsOf (d : D) : List (List Int) := (Go.Vg.xsOf d).map intsOf
def qsOf (d : D) : List (List Int) := (Go.Vg.xsOf d).map arrOf
def okLs (ls : List (List Int)) : Prop := (∀ l ∈ ls, isBytes l ∧ l.length ≤ 140737488351232) ∧ ls.length ≤ 60
def okQs (qs : List (List Int)) : Prop := (∀ l ∈ qs, isD l) ∧ qs.length ≤ 60
def inN (n : Nat) (i : Int) : Bool := decide (0 ≤ i) && decide (i < n)
def pthL (ls : List (List Int)) (i : Int) : List (List Int) := if inN ls.length i = true then ptR (ls.map leafL) i.toNat else []
def pthE (ls : List (List Int)) (i : Int) : Int := if inN ls.length i = true then 0 else 1
noncomputable def eqQ (a b : List (List Int)) : Bool := @decide (a = b) (Classical.propDecidable _)
def rowQ (s : Go.Vg.St) (i : Nat) : List (List Int) := match Go.Vg.look s.M i with
  | some (.row _ d) => qsOf d
  | _ => []
def slotQ (s : Go.Vg.St) (i : Nat) : List (List Int) := match s.T.getD i .any with
  | .d d => qsOf d
  | _ => []
def sp72 : Go.Vg.Spec := ⟨fun ds => ∃ ls, ds = [LD ls] ∧ okLs ls, fun ds => PD ((lsOf (ds.headD default)).map leafL), false, [22]⟩
def sp73 : Go.Vg.Spec := ⟨fun ds => ∃ qs, ds = [PD qs] ∧ okQs qs, fun ds => PD (flL (qsOf (ds.headD default))), false, [23]⟩
def sp13 : Go.Vg.Spec := ⟨fun ds => ∃ ls, ds = [LD ls] ∧ okLs ls, fun ds => d32 (rtL (lsOf (ds.headD default))), true, [22]⟩
def sp24n (n : Nat) : Go.Vg.Spec := ⟨fun ds => ∃ ls, ds = [LD ls] ∧ okLs ls ∧ ls.length < n, fun ds => d32 (rtL (lsOf (ds.headD default))), true, [22]⟩
def sp24 : Go.Vg.Spec := ⟨fun ds => ∃ ls, ds = [LD ls] ∧ okLs ls, fun ds => d32 (rtL (lsOf (ds.headD default))), true, [22]⟩
def sp18n (n : Nat) : Go.Vg.Spec := ⟨fun ds => ∃ ls i, ds = [LD ls, i64 i] ∧ okLs ls ∧ ls.length < n ∧ -9223372036854775808 ≤ i ∧ i ≤ 9223372036854775807, fun ds => .tup [PD (pthL (lsOf (ds.headD default)) (numOf (ds.getD 1 default))), i64 (pthE (lsOf (ds.headD default)) (numOf (ds.getD 1 default)))], false, [22, 3, 8500028]⟩
def sp18 : Go.Vg.Spec := ⟨fun ds => ∃ ls i, ds = [LD ls, i64 i] ∧ okLs ls ∧ -9223372036854775808 ≤ i ∧ i ≤ 9223372036854775807, fun ds => .tup [PD (pthL (lsOf (ds.headD default)) (numOf (ds.getD 1 default))), i64 (pthE (lsOf (ds.headD default)) (numOf (ds.getD 1 default)))], false, [22, 3, 8500028]⟩
def sp19 : Go.Vg.Spec := ⟨fun ds => ∃ ls i, ds = [LD ls, i64 i] ∧ okLs ls ∧ -9223372036854775808 ≤ i ∧ i ≤ 9223372036854775807, fun ds => .tup [PD (pthL (lsOf (ds.headD default)) (numOf (ds.getD 1 default))), i64 (pthE (lsOf (ds.headD default)) (numOf (ds.getD 1 default)))], false, [22, 3]⟩
noncomputable def sp14 : Go.Vg.Spec := ⟨fun ds => ∃ a b, ds = [PD a, PD b] ∧ okQs a ∧ okQs b, fun ds => bl (eqQ (qsOf (ds.headD default)) (qsOf (ds.getD 1 default))), true, [23, 23]⟩
def c72 : Ctx := ⟨tab, lkS [(21, sp21)], [3], []⟩
def c73 : Ctx := ⟨tab, lkS [(23, sp22)], [3], []⟩
def c13 : Ctx := ⟨tab, lkS [(71, sp71), (72, sp72), (73, sp73)], [], []⟩
def c24 (n : Nat) : Ctx := ⟨tab, lkS [(24, sp24n n), (70, sp70), (20, sp20), (22, sp22), (74, sp74)], [], []⟩
def c18 (n : Nat) : Ctx := ⟨tab, lkS [(18, sp18n n), (24, sp24), (74, sp74)], [], []⟩
def c19 : Ctx := ⟨tab, lkS [(72, sp72), (73, sp73)], [6], []⟩
def inv72 (ls : List (List Int)) : Nat → Option Inv
  | 3 => some ⟨Nat, fun k => [(8, .d (i64 ((k : Nat) : Int))), (3, .row 3)], fun k => [(3, .row 28 (PD ((ls.take k).map leafL)))], fun s => (slotN s 8).toNat, fun _ k => k ≤ ls.length, fun k => ls.length - k⟩
  | _ => none
def inv73 (qs : List (List Int)) : Nat → Option Inv
  | 3 => some ⟨Nat, fun k => [(4, .d (i64 ((2 * k : Nat) : Int))), (3, .row 3)], fun k => [(3, .row 28 (PD (flL (qs.take (2 * k)))))], fun s => (slotN s 4).toNat / 2, fun _ k => 2 * k ≤ qs.length + 1, fun k => qs.length + 1 - 2 * k⟩
  | _ => none
def inv13 (ls : List (List Int)) : Nat → Option Inv
  | 4 => some ⟨List (List Int), fun qs => [(3, .d (PD qs))], fun _ => [], fun s => slotQ s 3, fun _ qs => okQs qs ∧ 1 ≤ qs.length ∧ trR qs = trR (ls.map leafL), fun qs => qs.length⟩
  | _ => none
def inv19 (ls : List (List Int)) (i : Int) : Nat → Option Inv
  | 5 => some ⟨List (List Int) × Nat × List (List Int), fun x => [(7, .d (PD x.1)), (1, .d (i64 ((x.2.1 : Nat) : Int))), (6, .row 6)], fun x => [(6, .row 28 (PD x.2.2))], fun s => (slotQ s 7, (slotN s 1).toNat, rowQ s 6),
      fun _ x => okQs x.1 ∧ 1 ≤ x.1.length ∧ x.2.1 < x.1.length ∧ x.2.2.length ≤ 60 - x.1.length ∧ (∀ l ∈ x.2.2, isD l) ∧ x.2.2 ++ pfR x.1 x.2.1 = pthL ls i, fun x => x.1.length⟩
  | _ => none
def inv14 (a b : List (List Int)) : Nat → Option Inv
  | 4 => some ⟨Nat, fun k => [(13, .d (i64 ((k : Nat) : Int)))], fun _ => [], fun s => (slotN s 13).toNat, fun _ k => k ≤ a.length ∧ a.take k = b.take k, fun k => a.length - k⟩
  | _ => none
--KEEP ofR BitVec.toNat prL pr Go.Proofs.YtkicjckhkefnpaaDoor.R8.l wrS ofS okS padL fhK outL sumL fromL digL iv st0 Go.Vg.eqB nodeL leafL hf restB chkB clD clB isP isD okR lsOf qsOf okLs okQs pthL pthE eqQ trR flL ptR pfR rtL
set_option maxRecDepth 100000 in
theorem vc72  (ls : List (List Int)) (F : D)  :
    (owed c72 (inv72 ls) Tryd.f72 [LD ls] F) = (
 True ∧
   (32 : Nat) ≠ (0 : Nat) ∧
    True ∧
     True ∧
      True ∧
       (((AV.d (D.val (Value.int IntKind.i64 (0 : Int))) = AV.d (D.val (Value.int IntKind.i64 (↑(Int.toNat (0 : Int)) : Int))) ∧ AV.row (3 : Nat) = AV.row (3 : Nat) ∧ True) ∧
          (some (Blk.row (28 : TypeId) (D.slc (32 : Nat) [])) = some (Blk.row (28 : TypeId) (D.slc (32 : Nat) (List.map (fun (l : List Int) => D.arr IntKind.u8 (32 : Nat) l) (List.map leafL (List.take (Int.toNat (0 : Int)) ls))))) ∧ True) ∧ true = true) ∧
         Int.toNat (0 : Int) ≤ ls.length) ∧
        ∀ (x : Nat),
         x ≤ ls.length →
          true = true ∧
           True ∧
            match decide ((↑x : Int) < (↑(List.map (fun (l : List Int) => D.ints IntKind.u8 l) ls).length : Int)) with
            | true =>
             ((0 : Int) ≤ (↑x : Int) ∧
               (↑x : Int) < (↑(List.map (fun (l : List Int) => D.ints IntKind.u8 l) ls).length : Int) ∧
                (1 : Nat) ≠ (0 : Nat) ∧ (1 : Nat) = (1 : Nat) ∧ D.ints IntKind.u8 (intsOf ((List.map (fun (l : List Int) => D.ints IntKind.u8 l) ls).getD (↑x : Int).toNat (D.val (Value.bool false)))) = (List.map (fun (l : List Int) => D.ints IntKind.u8 l) ls).getD (↑x : Int).toNat (D.val (Value.bool false))) ∧
              ((1 : Nat) ≠ (0 : Nat) ∧ (1 : Nat) = (1 : Nat) ∧ false = false) ∧
               True ∧
                True ∧
                 True ∧
                  isBytes (intsOf ((List.map (fun (l : List Int) => D.ints IntKind.u8 l) ls).getD (↑x : Int).toNat (D.val (Value.bool false)))) ∧
                   (∃ (p : List Int), [D.str (intsOf ((List.map (fun (l : List Int) => D.ints IntKind.u8 l) ls).getD (↑x : Int).toNat (D.val (Value.bool false))))] = [D.str p] ∧ isBytes p ∧ p.length ≤ (900000000000000 : Nat)) ∧
                    ((1 : Nat) ≤ (4096 : Nat) ∧ (32 : Nat) ≤ (256 : Nat) ∧ (32 : Nat) ≠ (0 : Nat)) ∧
                     ((28 : TypeId) = (28 : TypeId) ∧
                       (23 : Nat) = (23 : Nat) ∧
                        true = true ∧
                         (List.map (fun (l : List Int) => D.arr IntKind.u8 (32 : Nat) l) (List.map leafL (List.take x ls)) ++ [D.arr IntKind.u8 (32 : Nat) (leafL (intsOf ((List.map (fun (l : List Int) => D.ints IntKind.u8 l) ls).getD (↑x : Int).toNat (D.val (Value.bool false)))))]).length ≤ (140737488355328 : Nat) ∧
                          (List.map (fun (l : List Int) => D.arr IntKind.u8 (32 : Nat) l) (List.map leafL (List.take x ls)) ++ [D.arr IntKind.u8 (32 : Nat) (leafL (intsOf ((List.map (fun (l : List Int) => D.ints IntKind.u8 l) ls).getD (↑x : Int).toNat (D.val (Value.bool false)))))]).length * (32 : Nat) ≤ (140737488355328 : Nat) ∧
                           (32 : Nat) ≠ (0 : Nat) ∧ (32 : Nat) = (32 : Nat)) ∧
                      True ∧
                       True ∧
                        True ∧
                         ((AV.d (D.val (Value.int IntKind.i64 (IntKind.i64.wrap ((↑x : Int) + (1 : Int))))) = AV.d (D.val (Value.int IntKind.i64 (↑(IntKind.i64.wrap ((↑x : Int) + (1 : Int))).toNat : Int))) ∧ AV.row (3 : Nat) = AV.row (3 : Nat) ∧ True) ∧
                           (some (Blk.row (28 : TypeId) (D.slc (32 : Nat) (List.map (fun (l : List Int) => D.arr IntKind.u8 (32 : Nat) l) (List.map leafL (List.take x ls)) ++ [D.arr IntKind.u8 (32 : Nat) (leafL (intsOf ((List.map (fun (l : List Int) => D.ints IntKind.u8 l) ls).getD (↑x : Int).toNat (D.val (Value.bool false)))))]))) =
                              some (Blk.row (28 : TypeId) (D.slc (32 : Nat) (List.map (fun (l : List Int) => D.arr IntKind.u8 (32 : Nat) l) (List.map leafL (List.take (IntKind.i64.wrap ((↑x : Int) + (1 : Int))).toNat ls))))) ∧
                             True) ∧
                            true = true) ∧
                          (IntKind.i64.wrap ((↑x : Int) + (1 : Int))).toNat ≤ ls.length ∧ ls.length - (IntKind.i64.wrap ((↑x : Int) + (1 : Int))).toNat < ls.length - x
            | false => True ∧ True ∧ (false = false ∧ True) ∧ D.slc (32 : Nat) (List.map (fun (l : List Int) => D.arr IntKind.u8 (32 : Nat) l) (List.map leafL (List.take x ls))) = F) := by kernel_rfl
set_option maxRecDepth 100000 in
theorem vc73  (qs : List (List Int)) (F : D)  :
    (owed c73 (inv73 qs) Tryd.f73 [PD qs] F) = (
 True ∧
   (32 : Nat) ≠ (0 : Nat) ∧
    True ∧
     (((AV.d (D.val (Value.int IntKind.i64 (0 : Int))) = AV.d (D.val (Value.int IntKind.i64 (↑(0 : Nat) : Int))) ∧ AV.row (3 : Nat) = AV.row (3 : Nat) ∧ True) ∧ (some (Blk.row (28 : TypeId) (D.slc (32 : Nat) [])) = some (Blk.row (28 : TypeId) (D.slc (32 : Nat) (List.map (fun (l : List Int) => D.arr IntKind.u8 (32 : Nat) l) (flL (List.take (0 : Nat) qs))))) ∧ True) ∧ true = true) ∧
       (0 : Nat) ≤ qs.length + (1 : Nat)) ∧
      ∀ (x : Nat),
       (2 : Nat) * x ≤ qs.length + (1 : Nat) →
        true = true ∧
         True ∧
          True ∧
           True ∧
            True ∧
             match decide ((↑((2 : Nat) * x) : Int) < (↑(List.map (fun (l : List Int) => D.arr IntKind.u8 (32 : Nat) l) qs).length : Int)) with
             | true =>
              True ∧
               True ∧
                True ∧
                 True ∧
                  True ∧
                   match decide (IntKind.i64.wrap ((↑((2 : Nat) * x) : Int) + (1 : Int)) < (↑(List.map (fun (l : List Int) => D.arr IntKind.u8 (32 : Nat) l) qs).length : Int)) with
                   | true =>
                    True ∧
                     True ∧
                      True ∧
                       ((0 : Int) ≤ (↑((2 : Nat) * x) : Int) ∧
                         (↑((2 : Nat) * x) : Int) < (↑(List.map (fun (l : List Int) => D.arr IntKind.u8 (32 : Nat) l) qs).length : Int) ∧
                          (32 : Nat) ≠ (0 : Nat) ∧
                           (32 : Nat) = (32 : Nat) ∧ D.arr IntKind.u8 (32 : Nat) (arrOf ((List.map (fun (l : List Int) => D.arr IntKind.u8 (32 : Nat) l) qs).getD (↑((2 : Nat) * x) : Int).toNat (D.val (Value.bool false)))) = (List.map (fun (l : List Int) => D.arr IntKind.u8 (32 : Nat) l) qs).getD (↑((2 : Nat) * x) : Int).toNat (D.val (Value.bool false))) ∧
                        ((32 : Nat) ≠ (0 : Nat) ∧ (32 : Nat) = (32 : Nat) ∧ true = true) ∧
                         True ∧
                          True ∧
                           True ∧
                            ((0 : Int) ≤ IntKind.i64.wrap ((↑((2 : Nat) * x) : Int) + (1 : Int)) ∧
                              IntKind.i64.wrap ((↑((2 : Nat) * x) : Int) + (1 : Int)) < (↑(List.map (fun (l : List Int) => D.arr IntKind.u8 (32 : Nat) l) qs).length : Int) ∧
                               (32 : Nat) ≠ (0 : Nat) ∧
                                (32 : Nat) = (32 : Nat) ∧
                                 D.arr IntKind.u8 (32 : Nat) (arrOf ((List.map (fun (l : List Int) => D.arr IntKind.u8 (32 : Nat) l) qs).getD (IntKind.i64.wrap ((↑((2 : Nat) * x) : Int) + (1 : Int))).toNat (D.val (Value.bool false)))) =
                                  (List.map (fun (l : List Int) => D.arr IntKind.u8 (32 : Nat) l) qs).getD (IntKind.i64.wrap ((↑((2 : Nat) * x) : Int) + (1 : Int))).toNat (D.val (Value.bool false))) ∧
                             ((32 : Nat) ≠ (0 : Nat) ∧ (32 : Nat) = (32 : Nat) ∧ true = true) ∧
                              (∃ (a : List Int),
                                ∃ (b : List Int),
                                 [D.arr IntKind.u8 (32 : Nat) (arrOf ((List.map (fun (l : List Int) => D.arr IntKind.u8 (32 : Nat) l) qs).getD (↑((2 : Nat) * x) : Int).toNat (D.val (Value.bool false)))),
                                    D.arr IntKind.u8 (32 : Nat) (arrOf ((List.map (fun (l : List Int) => D.arr IntKind.u8 (32 : Nat) l) qs).getD (IntKind.i64.wrap ((↑((2 : Nat) * x) : Int) + (1 : Int))).toNat (D.val (Value.bool false))))] =
                                   [D.arr IntKind.u8 (32 : Nat) a, D.arr IntKind.u8 (32 : Nat) b] ∧
                                  isD a ∧ isD b) ∧
                               ((1 : Nat) ≤ (4096 : Nat) ∧ (32 : Nat) ≤ (256 : Nat) ∧ (32 : Nat) ≠ (0 : Nat)) ∧
                                ((28 : TypeId) = (28 : TypeId) ∧
                                  (23 : Nat) = (23 : Nat) ∧
                                   true = true ∧
                                    (List.map (fun (l : List Int) => D.arr IntKind.u8 (32 : Nat) l) (flL (List.take ((2 : Nat) * x) qs)) ++
                                        [D.arr IntKind.u8 (32 : Nat)
                                          (nodeL (arrOf ((List.map (fun (l : List Int) => D.arr IntKind.u8 (32 : Nat) l) qs).getD (↑((2 : Nat) * x) : Int).toNat (D.val (Value.bool false))))
                                           (arrOf ((List.map (fun (l : List Int) => D.arr IntKind.u8 (32 : Nat) l) qs).getD (IntKind.i64.wrap ((↑((2 : Nat) * x) : Int) + (1 : Int))).toNat (D.val (Value.bool false)))))]).length ≤
                                      (140737488355328 : Nat) ∧
                                     (List.map (fun (l : List Int) => D.arr IntKind.u8 (32 : Nat) l) (flL (List.take ((2 : Nat) * x) qs)) ++
                                          [D.arr IntKind.u8 (32 : Nat)
                                            (nodeL (arrOf ((List.map (fun (l : List Int) => D.arr IntKind.u8 (32 : Nat) l) qs).getD (↑((2 : Nat) * x) : Int).toNat (D.val (Value.bool false))))
                                             (arrOf ((List.map (fun (l : List Int) => D.arr IntKind.u8 (32 : Nat) l) qs).getD (IntKind.i64.wrap ((↑((2 : Nat) * x) : Int) + (1 : Int))).toNat (D.val (Value.bool false)))))]).length *
                                        (32 : Nat) ≤
                                       (140737488355328 : Nat) ∧
                                      (32 : Nat) ≠ (0 : Nat) ∧ (32 : Nat) = (32 : Nat)) ∧
                                 True ∧
                                  True ∧
                                   True ∧
                                    True ∧
                                     ((AV.d (D.val (Value.int IntKind.i64 (IntKind.i64.wrap ((↑((2 : Nat) * x) : Int) + (2 : Int))))) = AV.d (D.val (Value.int IntKind.i64 (↑((2 : Nat) * ((IntKind.i64.wrap ((↑((2 : Nat) * x) : Int) + (2 : Int))).toNat / (2 : Nat))) : Int))) ∧ AV.row (3 : Nat) = AV.row (3 : Nat) ∧ True) ∧
                                       (some
                                           (Blk.row (28 : TypeId)
                                            (D.slc (32 : Nat)
                                             (List.map (fun (l : List Int) => D.arr IntKind.u8 (32 : Nat) l) (flL (List.take ((2 : Nat) * x) qs)) ++
                                              [D.arr IntKind.u8 (32 : Nat)
                                                (nodeL (arrOf ((List.map (fun (l : List Int) => D.arr IntKind.u8 (32 : Nat) l) qs).getD (↑((2 : Nat) * x) : Int).toNat (D.val (Value.bool false))))
                                                 (arrOf ((List.map (fun (l : List Int) => D.arr IntKind.u8 (32 : Nat) l) qs).getD (IntKind.i64.wrap ((↑((2 : Nat) * x) : Int) + (1 : Int))).toNat (D.val (Value.bool false)))))]))) =
                                          some (Blk.row (28 : TypeId) (D.slc (32 : Nat) (List.map (fun (l : List Int) => D.arr IntKind.u8 (32 : Nat) l) (flL (List.take ((2 : Nat) * ((IntKind.i64.wrap ((↑((2 : Nat) * x) : Int) + (2 : Int))).toNat / (2 : Nat))) qs))))) ∧
                                         True) ∧
                                        true = true) ∧
                                      (2 : Nat) * ((IntKind.i64.wrap ((↑((2 : Nat) * x) : Int) + (2 : Int))).toNat / (2 : Nat)) ≤ qs.length + (1 : Nat) ∧ qs.length + (1 : Nat) - (2 : Nat) * ((IntKind.i64.wrap ((↑((2 : Nat) * x) : Int) + (2 : Int))).toNat / (2 : Nat)) < qs.length + (1 : Nat) - (2 : Nat) * x
                   | false =>
                    True ∧
                     True ∧
                      True ∧
                       ((0 : Int) ≤ (↑((2 : Nat) * x) : Int) ∧
                         (↑((2 : Nat) * x) : Int) < (↑(List.map (fun (l : List Int) => D.arr IntKind.u8 (32 : Nat) l) qs).length : Int) ∧
                          (32 : Nat) ≠ (0 : Nat) ∧
                           (32 : Nat) = (32 : Nat) ∧ D.arr IntKind.u8 (32 : Nat) (arrOf ((List.map (fun (l : List Int) => D.arr IntKind.u8 (32 : Nat) l) qs).getD (↑((2 : Nat) * x) : Int).toNat (D.val (Value.bool false)))) = (List.map (fun (l : List Int) => D.arr IntKind.u8 (32 : Nat) l) qs).getD (↑((2 : Nat) * x) : Int).toNat (D.val (Value.bool false))) ∧
                        ((32 : Nat) ≠ (0 : Nat) ∧ (32 : Nat) = (32 : Nat) ∧ true = true) ∧
                         ((1 : Nat) ≤ (4096 : Nat) ∧ (32 : Nat) ≤ (256 : Nat) ∧ (32 : Nat) ≠ (0 : Nat)) ∧
                          ((28 : TypeId) = (28 : TypeId) ∧
                            (23 : Nat) = (23 : Nat) ∧
                             true = true ∧
                              (List.map (fun (l : List Int) => D.arr IntKind.u8 (32 : Nat) l) (flL (List.take ((2 : Nat) * x) qs)) ++ [D.arr IntKind.u8 (32 : Nat) (arrOf ((List.map (fun (l : List Int) => D.arr IntKind.u8 (32 : Nat) l) qs).getD (↑((2 : Nat) * x) : Int).toNat (D.val (Value.bool false))))]).length ≤ (140737488355328 : Nat) ∧
                               (List.map (fun (l : List Int) => D.arr IntKind.u8 (32 : Nat) l) (flL (List.take ((2 : Nat) * x) qs)) ++ [D.arr IntKind.u8 (32 : Nat) (arrOf ((List.map (fun (l : List Int) => D.arr IntKind.u8 (32 : Nat) l) qs).getD (↑((2 : Nat) * x) : Int).toNat (D.val (Value.bool false))))]).length * (32 : Nat) ≤ (140737488355328 : Nat) ∧
                                (32 : Nat) ≠ (0 : Nat) ∧ (32 : Nat) = (32 : Nat)) ∧
                           True ∧
                            True ∧
                             True ∧
                              True ∧
                               ((AV.d (D.val (Value.int IntKind.i64 (IntKind.i64.wrap ((↑((2 : Nat) * x) : Int) + (2 : Int))))) = AV.d (D.val (Value.int IntKind.i64 (↑((2 : Nat) * ((IntKind.i64.wrap ((↑((2 : Nat) * x) : Int) + (2 : Int))).toNat / (2 : Nat))) : Int))) ∧ AV.row (3 : Nat) = AV.row (3 : Nat) ∧ True) ∧
                                 (some (Blk.row (28 : TypeId) (D.slc (32 : Nat) (List.map (fun (l : List Int) => D.arr IntKind.u8 (32 : Nat) l) (flL (List.take ((2 : Nat) * x) qs)) ++ [D.arr IntKind.u8 (32 : Nat) (arrOf ((List.map (fun (l : List Int) => D.arr IntKind.u8 (32 : Nat) l) qs).getD (↑((2 : Nat) * x) : Int).toNat (D.val (Value.bool false))))]))) =
                                    some (Blk.row (28 : TypeId) (D.slc (32 : Nat) (List.map (fun (l : List Int) => D.arr IntKind.u8 (32 : Nat) l) (flL (List.take ((2 : Nat) * ((IntKind.i64.wrap ((↑((2 : Nat) * x) : Int) + (2 : Int))).toNat / (2 : Nat))) qs))))) ∧
                                   True) ∧
                                  true = true) ∧
                                (2 : Nat) * ((IntKind.i64.wrap ((↑((2 : Nat) * x) : Int) + (2 : Int))).toNat / (2 : Nat)) ≤ qs.length + (1 : Nat) ∧ qs.length + (1 : Nat) - (2 : Nat) * ((IntKind.i64.wrap ((↑((2 : Nat) * x) : Int) + (2 : Int))).toNat / (2 : Nat)) < qs.length + (1 : Nat) - (2 : Nat) * x
             | false => True ∧ True ∧ (false = false ∧ True) ∧ D.slc (32 : Nat) (List.map (fun (l : List Int) => D.arr IntKind.u8 (32 : Nat) l) (flL (List.take ((2 : Nat) * x) qs))) = F) := by kernel_rfl
set_option maxRecDepth 100000 in
theorem vc13  (ls : List (List Int)) (F : D)  :
    (owed c13 (inv13 ls) Tryd.f13 [LD ls] F) = (
 (True ∧ (32 : Nat) ≠ (0 : Nat)) ∧
   True ∧
    True ∧
     True ∧
      match (↑(List.map (fun (l : List Int) => D.ints IntKind.u8 l) ls).length : Int) == (0 : Int) with
      | true =>
       (∃ (p : List Int), [D.str (ints { data := { toList := [] } })] = [D.str p] ∧ isBytes p ∧ p.length ≤ (1000000000000000 : Nat)) ∧ (Sk.arr (32 : Nat) = Sk.arr (32 : Nat) ∧ (32 : Nat) ≠ (0 : Nat) ∧ (32 : Nat) = (32 : Nat) ∧ false = false) ∧ (((32 : Nat) ≠ (0 : Nat) ∧ (32 : Nat) = (32 : Nat) ∧ true = true) ∧ True) ∧ D.arr IntKind.u8 (32 : Nat) (digL (ints { data := { toList := [] } })) = F
      | false =>
       True ∧
        (∃ (ls_1 : List (List Int)), [D.slc (1 : Nat) (List.map (fun (l : List Int) => D.ints IntKind.u8 l) ls)] = [D.slc (1 : Nat) (List.map (fun (l : List Int) => D.ints IntKind.u8 l) ls_1)] ∧ okLs ls_1) ∧
         True ∧
          (((AV.d (D.slc (32 : Nat) (List.map (fun (l : List Int) => D.arr IntKind.u8 (32 : Nat) l) (List.map leafL (lsOf (D.slc (1 : Nat) (List.map (fun (l : List Int) => D.ints IntKind.u8 l) ls)))))) =
               AV.d (D.slc (32 : Nat) (List.map (fun (l : List Int) => D.arr IntKind.u8 (32 : Nat) l) (qsOf (D.slc (32 : Nat) (List.map (fun (l : List Int) => D.arr IntKind.u8 (32 : Nat) l) (List.map leafL (lsOf (D.slc (1 : Nat) (List.map (fun (l : List Int) => D.ints IntKind.u8 l) ls))))))))) ∧
              True) ∧
             (some
                 (Blk.fix
                  (D.arr IntKind.u8 (32 : Nat)
                   [(0 : Int), (0 : Int), (0 : Int), (0 : Int), (0 : Int), (0 : Int), (0 : Int), (0 : Int), (0 : Int), (0 : Int), (0 : Int), (0 : Int), (0 : Int), (0 : Int), (0 : Int), (0 : Int), (0 : Int), (0 : Int), (0 : Int), (0 : Int), (0 : Int), (0 : Int), (0 : Int), (0 : Int), (0 : Int), (0 : Int), (0 : Int), (0 : Int), (0 : Int), (0 : Int), (0 : Int), (0 : Int)])) =
                some
                 (Blk.fix
                  (D.arr IntKind.u8 (32 : Nat)
                   [(0 : Int), (0 : Int), (0 : Int), (0 : Int), (0 : Int), (0 : Int), (0 : Int), (0 : Int), (0 : Int), (0 : Int), (0 : Int), (0 : Int), (0 : Int), (0 : Int), (0 : Int), (0 : Int), (0 : Int), (0 : Int), (0 : Int), (0 : Int), (0 : Int), (0 : Int), (0 : Int), (0 : Int), (0 : Int), (0 : Int), (0 : Int), (0 : Int), (0 : Int), (0 : Int), (0 : Int), (0 : Int)])) ∧
               True) ∧
              true = true) ∧
            okQs (qsOf (D.slc (32 : Nat) (List.map (fun (l : List Int) => D.arr IntKind.u8 (32 : Nat) l) (List.map leafL (lsOf (D.slc (1 : Nat) (List.map (fun (l : List Int) => D.ints IntKind.u8 l) ls))))))) ∧
             (1 : Nat) ≤ (qsOf (D.slc (32 : Nat) (List.map (fun (l : List Int) => D.arr IntKind.u8 (32 : Nat) l) (List.map leafL (lsOf (D.slc (1 : Nat) (List.map (fun (l : List Int) => D.ints IntKind.u8 l) ls))))))).length ∧
              trR (qsOf (D.slc (32 : Nat) (List.map (fun (l : List Int) => D.arr IntKind.u8 (32 : Nat) l) (List.map leafL (lsOf (D.slc (1 : Nat) (List.map (fun (l : List Int) => D.ints IntKind.u8 l) ls))))))) = trR (List.map leafL ls)) ∧
           ∀ (x : List (List Int)),
            okQs x ∧ (1 : Nat) ≤ x.length ∧ trR x = trR (List.map leafL ls) →
             true = true ∧
              True ∧
               True ∧
                True ∧
                 match decide ((↑(List.map (fun (l : List Int) => D.arr IntKind.u8 (32 : Nat) l) x).length : Int) > (1 : Int)) with
                 | true =>
                  True ∧
                   (∃ (qs : List (List Int)), [D.slc (32 : Nat) (List.map (fun (l : List Int) => D.arr IntKind.u8 (32 : Nat) l) x)] = [D.slc (32 : Nat) (List.map (fun (l : List Int) => D.arr IntKind.u8 (32 : Nat) l) qs)] ∧ okQs qs) ∧
                    True ∧
                     ((AV.d (D.slc (32 : Nat) (List.map (fun (l : List Int) => D.arr IntKind.u8 (32 : Nat) l) (flL (qsOf (D.slc (32 : Nat) (List.map (fun (l : List Int) => D.arr IntKind.u8 (32 : Nat) l) x)))))) =
                         AV.d (D.slc (32 : Nat) (List.map (fun (l : List Int) => D.arr IntKind.u8 (32 : Nat) l) (qsOf (D.slc (32 : Nat) (List.map (fun (l : List Int) => D.arr IntKind.u8 (32 : Nat) l) (flL (qsOf (D.slc (32 : Nat) (List.map (fun (l : List Int) => D.arr IntKind.u8 (32 : Nat) l) x))))))))) ∧
                        True) ∧
                       (some
                           (Blk.fix
                            (D.arr IntKind.u8 (32 : Nat)
                             [(0 : Int), (0 : Int), (0 : Int), (0 : Int), (0 : Int), (0 : Int), (0 : Int), (0 : Int), (0 : Int), (0 : Int), (0 : Int), (0 : Int), (0 : Int), (0 : Int), (0 : Int), (0 : Int), (0 : Int), (0 : Int), (0 : Int), (0 : Int), (0 : Int), (0 : Int), (0 : Int), (0 : Int), (0 : Int), (0 : Int), (0 : Int), (0 : Int), (0 : Int), (0 : Int), (0 : Int),
                              (0 : Int)])) =
                          some
                           (Blk.fix
                            (D.arr IntKind.u8 (32 : Nat)
                             [(0 : Int), (0 : Int), (0 : Int), (0 : Int), (0 : Int), (0 : Int), (0 : Int), (0 : Int), (0 : Int), (0 : Int), (0 : Int), (0 : Int), (0 : Int), (0 : Int), (0 : Int), (0 : Int), (0 : Int), (0 : Int), (0 : Int), (0 : Int), (0 : Int), (0 : Int), (0 : Int), (0 : Int), (0 : Int), (0 : Int), (0 : Int), (0 : Int), (0 : Int), (0 : Int), (0 : Int),
                              (0 : Int)])) ∧
                         True) ∧
                        true = true) ∧
                      (okQs (qsOf (D.slc (32 : Nat) (List.map (fun (l : List Int) => D.arr IntKind.u8 (32 : Nat) l) (flL (qsOf (D.slc (32 : Nat) (List.map (fun (l : List Int) => D.arr IntKind.u8 (32 : Nat) l) x))))))) ∧
                        (1 : Nat) ≤ (qsOf (D.slc (32 : Nat) (List.map (fun (l : List Int) => D.arr IntKind.u8 (32 : Nat) l) (flL (qsOf (D.slc (32 : Nat) (List.map (fun (l : List Int) => D.arr IntKind.u8 (32 : Nat) l) x))))))).length ∧
                         trR (qsOf (D.slc (32 : Nat) (List.map (fun (l : List Int) => D.arr IntKind.u8 (32 : Nat) l) (flL (qsOf (D.slc (32 : Nat) (List.map (fun (l : List Int) => D.arr IntKind.u8 (32 : Nat) l) x))))))) = trR (List.map leafL ls)) ∧
                       (qsOf (D.slc (32 : Nat) (List.map (fun (l : List Int) => D.arr IntKind.u8 (32 : Nat) l) (flL (qsOf (D.slc (32 : Nat) (List.map (fun (l : List Int) => D.arr IntKind.u8 (32 : Nat) l) x))))))).length < x.length
                 | false =>
                  True ∧
                   ((0 : Int) ≤ (0 : Int) ∧
                     (0 : Int) < (↑(List.map (fun (l : List Int) => D.arr IntKind.u8 (32 : Nat) l) x).length : Int) ∧
                      (32 : Nat) ≠ (0 : Nat) ∧ (32 : Nat) = (32 : Nat) ∧ D.arr IntKind.u8 (32 : Nat) (arrOf ((List.map (fun (l : List Int) => D.arr IntKind.u8 (32 : Nat) l) x).getD (0 : Nat) (D.val (Value.bool false)))) = (List.map (fun (l : List Int) => D.arr IntKind.u8 (32 : Nat) l) x).getD (0 : Nat) (D.val (Value.bool false))) ∧
                    ((32 : Nat) ≠ (0 : Nat) ∧ (32 : Nat) = (32 : Nat) ∧ true = true) ∧
                     (Sk.arr (32 : Nat) = Sk.arr (32 : Nat) ∧ (32 : Nat) ≠ (0 : Nat) ∧ (32 : Nat) = (32 : Nat) ∧ false = false) ∧ (((32 : Nat) ≠ (0 : Nat) ∧ (32 : Nat) = (32 : Nat) ∧ true = true) ∧ True) ∧ D.arr IntKind.u8 (32 : Nat) (arrOf ((List.map (fun (l : List Int) => D.arr IntKind.u8 (32 : Nat) l) x).getD (0 : Nat) (D.val (Value.bool false)))) = F) := by kernel_rfl
set_option maxRecDepth 100000 in
theorem vc24  (n : Nat) (ls : List (List Int)) (F : D)  :
    (owed (c24 n) (fun _ => none) Tryd.f24 [LD ls] F) = (
 (True ∧ (32 : Nat) ≠ (0 : Nat)) ∧
   True ∧
    True ∧
     True ∧
      True ∧
       True ∧
        True ∧
         match (↑(List.map (fun (l : List Int) => D.ints IntKind.u8 l) ls).length : Int) == (0 : Int) with
         | true => (∃ (p : List Int), [D.ints IntKind.u8 []] = [D.ints IntKind.u8 p] ∧ isBytes p ∧ p.length ≤ (1000000000000000 : Nat)) ∧ (Sk.arr (32 : Nat) = Sk.arr (32 : Nat) ∧ (32 : Nat) ≠ (0 : Nat) ∧ (32 : Nat) = (32 : Nat) ∧ false = false) ∧ (((32 : Nat) ≠ (0 : Nat) ∧ (32 : Nat) = (32 : Nat) ∧ true = true) ∧ True) ∧ D.arr IntKind.u8 (32 : Nat) (digL []) = F
         | false =>
          True ∧
           True ∧
            match (↑(List.map (fun (l : List Int) => D.ints IntKind.u8 l) ls).length : Int) == (1 : Int) with
            | true =>
             True ∧
              ((0 : Int) ≤ (0 : Int) ∧
                (0 : Int) < (↑(List.map (fun (l : List Int) => D.ints IntKind.u8 l) ls).length : Int) ∧ (1 : Nat) ≠ (0 : Nat) ∧ (1 : Nat) = (1 : Nat) ∧ D.ints IntKind.u8 (intsOf ((List.map (fun (l : List Int) => D.ints IntKind.u8 l) ls).getD (0 : Nat) (D.val (Value.bool false)))) = (List.map (fun (l : List Int) => D.ints IntKind.u8 l) ls).getD (0 : Nat) (D.val (Value.bool false))) ∧
               ((1 : Nat) ≠ (0 : Nat) ∧ (1 : Nat) = (1 : Nat) ∧ false = false) ∧
                (∃ (p : List Int), [D.ints IntKind.u8 (intsOf ((List.map (fun (l : List Int) => D.ints IntKind.u8 l) ls).getD (0 : Nat) (D.val (Value.bool false))))] = [D.ints IntKind.u8 p] ∧ isBytes p ∧ p.length ≤ (900000000000000 : Nat)) ∧
                 (Sk.arr (32 : Nat) = Sk.arr (32 : Nat) ∧ (32 : Nat) ≠ (0 : Nat) ∧ (32 : Nat) = (32 : Nat) ∧ false = false) ∧ (((32 : Nat) ≠ (0 : Nat) ∧ (32 : Nat) = (32 : Nat) ∧ true = true) ∧ True) ∧ D.arr IntKind.u8 (32 : Nat) (leafL (intsOf ((List.map (fun (l : List Int) => D.ints IntKind.u8 l) ls).getD (0 : Nat) (D.val (Value.bool false))))) = F
            | false =>
             True ∧
              (∃ (m : Nat), [D.val (Value.int IntKind.i64 (↑(List.map (fun (l : List Int) => D.ints IntKind.u8 l) ls).length : Int))] = [D.val (Value.int IntKind.i64 (↑m : Int))] ∧ (2 : Nat) ≤ m ∧ m ≤ (65536 : Nat)) ∧
               True ∧
                True ∧
                 True ∧
                  ((0 : Int) ≤ (0 : Int) ∧ (0 : Int) ≤ (↑(hf (↑(List.map (fun (l : List Int) => D.ints IntKind.u8 l) ls).length : Int).toNat) : Int) ∧ (↑(hf (↑(List.map (fun (l : List Int) => D.ints IntKind.u8 l) ls).length : Int).toNat) : Int) ≤ (↑(List.map (fun (l : List Int) => D.ints IntKind.u8 l) ls).length : Int) ∧ (1 : Nat) ≠ (0 : Nat) ∧ (1 : Nat) = (1 : Nat)) ∧
                   (∃ (ls_1 : List (List Int)), [D.slc (1 : Nat) (List.drop (0 : Nat) (List.take (↑(hf (↑(List.map (fun (l : List Int) => D.ints IntKind.u8 l) ls).length : Int).toNat) : Int).toNat (List.map (fun (l : List Int) => D.ints IntKind.u8 l) ls)))] = [D.slc (1 : Nat) (List.map (fun (l : List Int) => D.ints IntKind.u8 l) ls_1)] ∧ okLs ls_1 ∧ ls_1.length < n) ∧
                    True ∧
                     True ∧
                      ((0 : Int) ≤ (↑(hf (↑(List.map (fun (l : List Int) => D.ints IntKind.u8 l) ls).length : Int).toNat) : Int) ∧
                        (↑(hf (↑(List.map (fun (l : List Int) => D.ints IntKind.u8 l) ls).length : Int).toNat) : Int) ≤ (↑(List.map (fun (l : List Int) => D.ints IntKind.u8 l) ls).length : Int) ∧
                         (↑(List.map (fun (l : List Int) => D.ints IntKind.u8 l) ls).length : Int) ≤ (↑(List.map (fun (l : List Int) => D.ints IntKind.u8 l) ls).length : Int) ∧ (1 : Nat) ≠ (0 : Nat) ∧ (1 : Nat) = (1 : Nat)) ∧
                       (∃ (ls_1 : List (List Int)),
                         [D.slc (1 : Nat) (List.drop (↑(hf (↑(List.map (fun (l : List Int) => D.ints IntKind.u8 l) ls).length : Int).toNat) : Int).toNat (List.take (↑(List.map (fun (l : List Int) => D.ints IntKind.u8 l) ls).length : Int).toNat (List.map (fun (l : List Int) => D.ints IntKind.u8 l) ls)))] =
                           [D.slc (1 : Nat) (List.map (fun (l : List Int) => D.ints IntKind.u8 l) ls_1)] ∧
                          okLs ls_1 ∧ ls_1.length < n) ∧
                        (∃ (a : List Int),
                          ∃ (b : List Int),
                           [D.arr IntKind.u8 (32 : Nat) (rtL (lsOf (D.slc (1 : Nat) (List.drop (0 : Nat) (List.take (↑(hf (↑(List.map (fun (l : List Int) => D.ints IntKind.u8 l) ls).length : Int).toNat) : Int).toNat (List.map (fun (l : List Int) => D.ints IntKind.u8 l) ls)))))),
                              D.arr IntKind.u8 (32 : Nat) (rtL (lsOf (D.slc (1 : Nat) (List.drop (↑(hf (↑(List.map (fun (l : List Int) => D.ints IntKind.u8 l) ls).length : Int).toNat) : Int).toNat (List.take (↑(List.map (fun (l : List Int) => D.ints IntKind.u8 l) ls).length : Int).toNat (List.map (fun (l : List Int) => D.ints IntKind.u8 l) ls))))))] =
                             [D.arr IntKind.u8 (32 : Nat) a, D.arr IntKind.u8 (32 : Nat) b] ∧
                            isD a ∧ isD b) ∧
                         (Sk.arr (32 : Nat) = Sk.arr (32 : Nat) ∧ (32 : Nat) ≠ (0 : Nat) ∧ (32 : Nat) = (32 : Nat) ∧ false = false) ∧
                          (((32 : Nat) ≠ (0 : Nat) ∧ (32 : Nat) = (32 : Nat) ∧ true = true) ∧ True) ∧
                           D.arr IntKind.u8 (32 : Nat)
                             (nodeL (rtL (lsOf (D.slc (1 : Nat) (List.drop (0 : Nat) (List.take (↑(hf (↑(List.map (fun (l : List Int) => D.ints IntKind.u8 l) ls).length : Int).toNat) : Int).toNat (List.map (fun (l : List Int) => D.ints IntKind.u8 l) ls))))))
                              (rtL (lsOf (D.slc (1 : Nat) (List.drop (↑(hf (↑(List.map (fun (l : List Int) => D.ints IntKind.u8 l) ls).length : Int).toNat) : Int).toNat (List.take (↑(List.map (fun (l : List Int) => D.ints IntKind.u8 l) ls).length : Int).toNat (List.map (fun (l : List Int) => D.ints IntKind.u8 l) ls))))))) =
                            F) := by kernel_rfl
set_option maxRecDepth 100000 in
theorem vc18  (n : Nat) (ls : List (List Int)) (i : Int) (F : D)  :
    (owedRw (c18 n) (fun _ => none) Tryd.f18 28 [LD ls, i64 i] F) = (
 True ∧
   True ∧
    True ∧
     True ∧
      True ∧
       match decide (i < (0 : Int)) with
       | true => True ∧ True ∧ True ∧ (false = false ∧ True) ∧ true = true ∧ D.tup [D.slc (32 : Nat) [], D.val (Value.int IntKind.i64 (1 : Int))] = F
       | false =>
        True ∧
         True ∧
          True ∧
           True ∧
            True ∧
             match decide (i ≥ (↑(List.map (fun (l : List Int) => D.ints IntKind.u8 l) ls).length : Int)) with
             | true => True ∧ True ∧ (false = false ∧ True) ∧ true = true ∧ D.tup [D.slc (32 : Nat) [], D.val (Value.int IntKind.i64 (1 : Int))] = F
             | false =>
              True ∧
               True ∧
                True ∧
                 match (↑(List.map (fun (l : List Int) => D.ints IntKind.u8 l) ls).length : Int) == (1 : Int) with
                 | true => True ∧ True ∧ (false = false ∧ True) ∧ true = true ∧ D.tup [D.slc (32 : Nat) [], D.val (Value.int IntKind.i64 (0 : Int))] = F
                 | false =>
                  True ∧
                   True ∧
                    (∃ (m : Nat), [D.val (Value.int IntKind.i64 (↑(List.map (fun (l : List Int) => D.ints IntKind.u8 l) ls).length : Int))] = [D.val (Value.int IntKind.i64 (↑m : Int))] ∧ (2 : Nat) ≤ m ∧ m ≤ (65536 : Nat)) ∧
                     True ∧
                      True ∧
                       True ∧
                        True ∧
                         match decide (i < (↑(hf (↑(List.map (fun (l : List Int) => D.ints IntKind.u8 l) ls).length : Int).toNat) : Int)) with
                         | true =>
                          True ∧
                           True ∧
                            ((0 : Int) ≤ (0 : Int) ∧
                              (0 : Int) ≤ (↑(hf (↑(List.map (fun (l : List Int) => D.ints IntKind.u8 l) ls).length : Int).toNat) : Int) ∧ (↑(hf (↑(List.map (fun (l : List Int) => D.ints IntKind.u8 l) ls).length : Int).toNat) : Int) ≤ (↑(List.map (fun (l : List Int) => D.ints IntKind.u8 l) ls).length : Int) ∧ (1 : Nat) ≠ (0 : Nat) ∧ (1 : Nat) = (1 : Nat)) ∧
                             True ∧
                              (∃ (ls_1 : List (List Int)),
                                ∃ (i_1 : Int),
                                 [D.slc (1 : Nat) (List.drop (0 : Nat) (List.take (↑(hf (↑(List.map (fun (l : List Int) => D.ints IntKind.u8 l) ls).length : Int).toNat) : Int).toNat (List.map (fun (l : List Int) => D.ints IntKind.u8 l) ls))), D.val (Value.int IntKind.i64 i)] =
                                   [D.slc (1 : Nat) (List.map (fun (l : List Int) => D.ints IntKind.u8 l) ls_1), D.val (Value.int IntKind.i64 i_1)] ∧
                                  okLs ls_1 ∧ ls_1.length < n ∧ (-9223372036854775808 : Int) ≤ i_1 ∧ i_1 ≤ (9223372036854775807 : Int)) ∧
                               True ∧
                                True ∧
                                 ((0 : Nat) < (1 : Nat) ∧ false = false) ∧
                                  True ∧
                                   True ∧
                                    True ∧
                                     True ∧
                                      True ∧
                                       ((0 : Int) ≤ (↑(hf (↑(List.map (fun (l : List Int) => D.ints IntKind.u8 l) ls).length : Int).toNat) : Int) ∧
                                         (↑(hf (↑(List.map (fun (l : List Int) => D.ints IntKind.u8 l) ls).length : Int).toNat) : Int) ≤ (↑(List.map (fun (l : List Int) => D.ints IntKind.u8 l) ls).length : Int) ∧
                                          (↑(List.map (fun (l : List Int) => D.ints IntKind.u8 l) ls).length : Int) ≤ (↑(List.map (fun (l : List Int) => D.ints IntKind.u8 l) ls).length : Int) ∧ (1 : Nat) ≠ (0 : Nat) ∧ (1 : Nat) = (1 : Nat)) ∧
                                        (∃ (ls_1 : List (List Int)),
                                          [D.slc (1 : Nat) (List.drop (↑(hf (↑(List.map (fun (l : List Int) => D.ints IntKind.u8 l) ls).length : Int).toNat) : Int).toNat (List.take (↑(List.map (fun (l : List Int) => D.ints IntKind.u8 l) ls).length : Int).toNat (List.map (fun (l : List Int) => D.ints IntKind.u8 l) ls)))] =
                                            [D.slc (1 : Nat) (List.map (fun (l : List Int) => D.ints IntKind.u8 l) ls_1)] ∧
                                           okLs ls_1) ∧
                                         ((1 : Nat) ≤ (4096 : Nat) ∧ (32 : Nat) ≤ (256 : Nat) ∧ (32 : Nat) ≠ (0 : Nat)) ∧
                                          ((8500028 : TypeId) - (8500000 : TypeId) = (28 : TypeId) ∧
                                            (23 : Nat) = (23 : Nat) ∧
                                             true = true ∧
                                              (List.map (fun (l : List Int) => D.arr IntKind.u8 (32 : Nat) l) (pthL (lsOf (D.slc (1 : Nat) (List.drop (0 : Nat) (List.take (↑(hf (↑(List.map (fun (l : List Int) => D.ints IntKind.u8 l) ls).length : Int).toNat) : Int).toNat (List.map (fun (l : List Int) => D.ints IntKind.u8 l) ls))))) i) ++
                                                  [D.arr IntKind.u8 (32 : Nat)
                                                    (rtL
                                                     (lsOf
                                                      (D.slc (1 : Nat) (List.drop (↑(hf (↑(List.map (fun (l : List Int) => D.ints IntKind.u8 l) ls).length : Int).toNat) : Int).toNat (List.take (↑(List.map (fun (l : List Int) => D.ints IntKind.u8 l) ls).length : Int).toNat (List.map (fun (l : List Int) => D.ints IntKind.u8 l) ls))))))]).length ≤
                                                (140737488355328 : Nat) ∧
                                               (List.map (fun (l : List Int) => D.arr IntKind.u8 (32 : Nat) l) (pthL (lsOf (D.slc (1 : Nat) (List.drop (0 : Nat) (List.take (↑(hf (↑(List.map (fun (l : List Int) => D.ints IntKind.u8 l) ls).length : Int).toNat) : Int).toNat (List.map (fun (l : List Int) => D.ints IntKind.u8 l) ls))))) i) ++
                                                    [D.arr IntKind.u8 (32 : Nat)
                                                      (rtL
                                                       (lsOf
                                                        (D.slc (1 : Nat)
                                                         (List.drop (↑(hf (↑(List.map (fun (l : List Int) => D.ints IntKind.u8 l) ls).length : Int).toNat) : Int).toNat (List.take (↑(List.map (fun (l : List Int) => D.ints IntKind.u8 l) ls).length : Int).toNat (List.map (fun (l : List Int) => D.ints IntKind.u8 l) ls))))))]).length *
                                                  (32 : Nat) ≤
                                                 (140737488355328 : Nat) ∧
                                                (32 : Nat) ≠ (0 : Nat) ∧ (32 : Nat) = (32 : Nat)) ∧
                                           True ∧
                                            True ∧
                                             (false = false ∧ True) ∧
                                              (28 : TypeId) = (28 : TypeId) ∧
                                               True ∧
                                                D.tup
                                                  [D.slc (32 : Nat)
                                                    (List.map (fun (l : List Int) => D.arr IntKind.u8 (32 : Nat) l) (pthL (lsOf (D.slc (1 : Nat) (List.drop (0 : Nat) (List.take (↑(hf (↑(List.map (fun (l : List Int) => D.ints IntKind.u8 l) ls).length : Int).toNat) : Int).toNat (List.map (fun (l : List Int) => D.ints IntKind.u8 l) ls))))) i) ++
                                                     [D.arr IntKind.u8 (32 : Nat)
                                                       (rtL
                                                        (lsOf (D.slc (1 : Nat) (List.drop (↑(hf (↑(List.map (fun (l : List Int) => D.ints IntKind.u8 l) ls).length : Int).toNat) : Int).toNat (List.take (↑(List.map (fun (l : List Int) => D.ints IntKind.u8 l) ls).length : Int).toNat (List.map (fun (l : List Int) => D.ints IntKind.u8 l) ls))))))]),
                                                   D.val (Value.int IntKind.i64 (0 : Int))] =
                                                 F
                         | false =>
                          True ∧
                           True ∧
                            ((0 : Int) ≤ (↑(hf (↑(List.map (fun (l : List Int) => D.ints IntKind.u8 l) ls).length : Int).toNat) : Int) ∧
                              (↑(hf (↑(List.map (fun (l : List Int) => D.ints IntKind.u8 l) ls).length : Int).toNat) : Int) ≤ (↑(List.map (fun (l : List Int) => D.ints IntKind.u8 l) ls).length : Int) ∧
                               (↑(List.map (fun (l : List Int) => D.ints IntKind.u8 l) ls).length : Int) ≤ (↑(List.map (fun (l : List Int) => D.ints IntKind.u8 l) ls).length : Int) ∧ (1 : Nat) ≠ (0 : Nat) ∧ (1 : Nat) = (1 : Nat)) ∧
                             True ∧
                              True ∧
                               True ∧
                                (∃ (ls_1 : List (List Int)),
                                  ∃ (i_1 : Int),
                                   [D.slc (1 : Nat) (List.drop (↑(hf (↑(List.map (fun (l : List Int) => D.ints IntKind.u8 l) ls).length : Int).toNat) : Int).toNat (List.take (↑(List.map (fun (l : List Int) => D.ints IntKind.u8 l) ls).length : Int).toNat (List.map (fun (l : List Int) => D.ints IntKind.u8 l) ls))),
                                      D.val (Value.int IntKind.i64 (IntKind.i64.wrap (i - (↑(hf (↑(List.map (fun (l : List Int) => D.ints IntKind.u8 l) ls).length : Int).toNat) : Int))))] =
                                     [D.slc (1 : Nat) (List.map (fun (l : List Int) => D.ints IntKind.u8 l) ls_1), D.val (Value.int IntKind.i64 i_1)] ∧
                                    okLs ls_1 ∧ ls_1.length < n ∧ (-9223372036854775808 : Int) ≤ i_1 ∧ i_1 ≤ (9223372036854775807 : Int)) ∧
                                 True ∧
                                  True ∧
                                   ((0 : Nat) < (1 : Nat) ∧ false = false) ∧
                                    True ∧
                                     True ∧
                                      True ∧
                                       True ∧
                                        True ∧
                                         ((0 : Int) ≤ (0 : Int) ∧
                                           (0 : Int) ≤ (↑(hf (↑(List.map (fun (l : List Int) => D.ints IntKind.u8 l) ls).length : Int).toNat) : Int) ∧
                                            (↑(hf (↑(List.map (fun (l : List Int) => D.ints IntKind.u8 l) ls).length : Int).toNat) : Int) ≤ (↑(List.map (fun (l : List Int) => D.ints IntKind.u8 l) ls).length : Int) ∧ (1 : Nat) ≠ (0 : Nat) ∧ (1 : Nat) = (1 : Nat)) ∧
                                          (∃ (ls_1 : List (List Int)),
                                            [D.slc (1 : Nat) (List.drop (0 : Nat) (List.take (↑(hf (↑(List.map (fun (l : List Int) => D.ints IntKind.u8 l) ls).length : Int).toNat) : Int).toNat (List.map (fun (l : List Int) => D.ints IntKind.u8 l) ls)))] = [D.slc (1 : Nat) (List.map (fun (l : List Int) => D.ints IntKind.u8 l) ls_1)] ∧ okLs ls_1) ∧
                                           ((1 : Nat) ≤ (4096 : Nat) ∧ (32 : Nat) ≤ (256 : Nat) ∧ (32 : Nat) ≠ (0 : Nat)) ∧
                                            ((8500028 : TypeId) - (8500000 : TypeId) = (28 : TypeId) ∧
                                              (23 : Nat) = (23 : Nat) ∧
                                               true = true ∧
                                                (List.map (fun (l : List Int) => D.arr IntKind.u8 (32 : Nat) l)
                                                     (pthL (lsOf (D.slc (1 : Nat) (List.drop (↑(hf (↑(List.map (fun (l : List Int) => D.ints IntKind.u8 l) ls).length : Int).toNat) : Int).toNat (List.take (↑(List.map (fun (l : List Int) => D.ints IntKind.u8 l) ls).length : Int).toNat (List.map (fun (l : List Int) => D.ints IntKind.u8 l) ls)))))
                                                      (IntKind.i64.wrap (i - (↑(hf (↑(List.map (fun (l : List Int) => D.ints IntKind.u8 l) ls).length : Int).toNat) : Int)))) ++
                                                    [D.arr IntKind.u8 (32 : Nat) (rtL (lsOf (D.slc (1 : Nat) (List.drop (0 : Nat) (List.take (↑(hf (↑(List.map (fun (l : List Int) => D.ints IntKind.u8 l) ls).length : Int).toNat) : Int).toNat (List.map (fun (l : List Int) => D.ints IntKind.u8 l) ls))))))]).length ≤
                                                  (140737488355328 : Nat) ∧
                                                 (List.map (fun (l : List Int) => D.arr IntKind.u8 (32 : Nat) l)
                                                       (pthL (lsOf (D.slc (1 : Nat) (List.drop (↑(hf (↑(List.map (fun (l : List Int) => D.ints IntKind.u8 l) ls).length : Int).toNat) : Int).toNat (List.take (↑(List.map (fun (l : List Int) => D.ints IntKind.u8 l) ls).length : Int).toNat (List.map (fun (l : List Int) => D.ints IntKind.u8 l) ls)))))
                                                        (IntKind.i64.wrap (i - (↑(hf (↑(List.map (fun (l : List Int) => D.ints IntKind.u8 l) ls).length : Int).toNat) : Int)))) ++
                                                      [D.arr IntKind.u8 (32 : Nat) (rtL (lsOf (D.slc (1 : Nat) (List.drop (0 : Nat) (List.take (↑(hf (↑(List.map (fun (l : List Int) => D.ints IntKind.u8 l) ls).length : Int).toNat) : Int).toNat (List.map (fun (l : List Int) => D.ints IntKind.u8 l) ls))))))]).length *
                                                    (32 : Nat) ≤
                                                   (140737488355328 : Nat) ∧
                                                  (32 : Nat) ≠ (0 : Nat) ∧ (32 : Nat) = (32 : Nat)) ∧
                                             True ∧
                                              True ∧
                                               (false = false ∧ True) ∧
                                                (28 : TypeId) = (28 : TypeId) ∧
                                                 True ∧
                                                  D.tup
                                                    [D.slc (32 : Nat)
                                                      (List.map (fun (l : List Int) => D.arr IntKind.u8 (32 : Nat) l)
                                                        (pthL
                                                         (lsOf (D.slc (1 : Nat) (List.drop (↑(hf (↑(List.map (fun (l : List Int) => D.ints IntKind.u8 l) ls).length : Int).toNat) : Int).toNat (List.take (↑(List.map (fun (l : List Int) => D.ints IntKind.u8 l) ls).length : Int).toNat (List.map (fun (l : List Int) => D.ints IntKind.u8 l) ls)))))
                                                         (IntKind.i64.wrap (i - (↑(hf (↑(List.map (fun (l : List Int) => D.ints IntKind.u8 l) ls).length : Int).toNat) : Int)))) ++
                                                       [D.arr IntKind.u8 (32 : Nat) (rtL (lsOf (D.slc (1 : Nat) (List.drop (0 : Nat) (List.take (↑(hf (↑(List.map (fun (l : List Int) => D.ints IntKind.u8 l) ls).length : Int).toNat) : Int).toNat (List.map (fun (l : List Int) => D.ints IntKind.u8 l) ls))))))]),
                                                     D.val (Value.int IntKind.i64 (0 : Int))] =
                                                   F) := by kernel_rfl
set_option maxRecDepth 100000 in
theorem vc19  (ls : List (List Int)) (i : Int) (F : D)  :
    (owed c19 (inv19 ls i) Tryd.f19 [LD ls, i64 i] F) = (
 True ∧
   True ∧
    True ∧
     True ∧
      True ∧
       match decide (i < (0 : Int)) with
       | true => True ∧ True ∧ True ∧ (false = false ∧ false = false ∧ True) ∧ D.tup [D.slc (32 : Nat) [], D.val (Value.int IntKind.i64 (1 : Int))] = F
       | false =>
        True ∧
         True ∧
          True ∧
           True ∧
            True ∧
             match decide (i ≥ (↑(List.map (fun (l : List Int) => D.ints IntKind.u8 l) ls).length : Int)) with
             | true => True ∧ True ∧ (false = false ∧ false = false ∧ True) ∧ D.tup [D.slc (32 : Nat) [], D.val (Value.int IntKind.i64 (1 : Int))] = F
             | false =>
              (32 : Nat) ≠ (0 : Nat) ∧
               True ∧
                (∃ (ls_1 : List (List Int)), [D.slc (1 : Nat) (List.map (fun (l : List Int) => D.ints IntKind.u8 l) ls)] = [D.slc (1 : Nat) (List.map (fun (l : List Int) => D.ints IntKind.u8 l) ls_1)] ∧ okLs ls_1) ∧
                 True ∧
                  (((AV.d (D.slc (32 : Nat) (List.map (fun (l : List Int) => D.arr IntKind.u8 (32 : Nat) l) (List.map leafL (lsOf (D.slc (1 : Nat) (List.map (fun (l : List Int) => D.ints IntKind.u8 l) ls)))))) =
                       AV.d (D.slc (32 : Nat) (List.map (fun (l : List Int) => D.arr IntKind.u8 (32 : Nat) l) (qsOf (D.slc (32 : Nat) (List.map (fun (l : List Int) => D.arr IntKind.u8 (32 : Nat) l) (List.map leafL (lsOf (D.slc (1 : Nat) (List.map (fun (l : List Int) => D.ints IntKind.u8 l) ls))))))))) ∧
                      AV.d (D.val (Value.int IntKind.i64 i)) = AV.d (D.val (Value.int IntKind.i64 (↑i.toNat : Int))) ∧ AV.row (6 : Nat) = AV.row (6 : Nat) ∧ True) ∧
                     (some (Blk.row (28 : TypeId) (D.slc (32 : Nat) [])) = some (Blk.row (28 : TypeId) (D.slc (32 : Nat) (List.map (fun (l : List Int) => D.arr IntKind.u8 (32 : Nat) l) (qsOf (D.slc (32 : Nat) []))))) ∧ True) ∧ true = true) ∧
                    okQs (qsOf (D.slc (32 : Nat) (List.map (fun (l : List Int) => D.arr IntKind.u8 (32 : Nat) l) (List.map leafL (lsOf (D.slc (1 : Nat) (List.map (fun (l : List Int) => D.ints IntKind.u8 l) ls))))))) ∧
                     (1 : Nat) ≤ (qsOf (D.slc (32 : Nat) (List.map (fun (l : List Int) => D.arr IntKind.u8 (32 : Nat) l) (List.map leafL (lsOf (D.slc (1 : Nat) (List.map (fun (l : List Int) => D.ints IntKind.u8 l) ls))))))).length ∧
                      i.toNat < (qsOf (D.slc (32 : Nat) (List.map (fun (l : List Int) => D.arr IntKind.u8 (32 : Nat) l) (List.map leafL (lsOf (D.slc (1 : Nat) (List.map (fun (l : List Int) => D.ints IntKind.u8 l) ls))))))).length ∧
                       (qsOf (D.slc (32 : Nat) [])).length ≤ (60 : Nat) - (qsOf (D.slc (32 : Nat) (List.map (fun (l : List Int) => D.arr IntKind.u8 (32 : Nat) l) (List.map leafL (lsOf (D.slc (1 : Nat) (List.map (fun (l : List Int) => D.ints IntKind.u8 l) ls))))))).length ∧
                        (∀ (l : List Int), l ∈ qsOf (D.slc (32 : Nat) []) → isD l) ∧ qsOf (D.slc (32 : Nat) []) ++ pfR (qsOf (D.slc (32 : Nat) (List.map (fun (l : List Int) => D.arr IntKind.u8 (32 : Nat) l) (List.map leafL (lsOf (D.slc (1 : Nat) (List.map (fun (l : List Int) => D.ints IntKind.u8 l) ls))))))) i.toNat = pthL ls i) ∧
                   ∀ (x : List (List Int) × Nat × List (List Int)),
                    okQs x.fst ∧ (1 : Nat) ≤ x.fst.length ∧ x.snd.fst < x.fst.length ∧ x.snd.snd.length ≤ (60 : Nat) - x.fst.length ∧ (∀ (l : List Int), l ∈ x.snd.snd → isD l) ∧ x.snd.snd ++ pfR x.fst x.snd.fst = pthL ls i →
                     true = true ∧
                      True ∧
                       True ∧
                        True ∧
                         match decide ((↑(List.map (fun (l : List Int) => D.arr IntKind.u8 (32 : Nat) l) x.fst).length : Int) > (1 : Int)) with
                         | true =>
                          True ∧
                           True ∧
                            True ∧
                             True ∧
                              True ∧
                               True ∧
                                True ∧
                                 match decide (ixor IntKind.i64 (↑x.snd.fst : Int) (1 : Int) < (↑(List.map (fun (l : List Int) => D.arr IntKind.u8 (32 : Nat) l) x.fst).length : Int)) with
                                 | true =>
                                  True ∧
                                   True ∧
                                    True ∧
                                     ((0 : Int) ≤ ixor IntKind.i64 (↑x.snd.fst : Int) (1 : Int) ∧
                                       ixor IntKind.i64 (↑x.snd.fst : Int) (1 : Int) < (↑(List.map (fun (l : List Int) => D.arr IntKind.u8 (32 : Nat) l) x.fst).length : Int) ∧
                                        (32 : Nat) ≠ (0 : Nat) ∧
                                         (32 : Nat) = (32 : Nat) ∧
                                          D.arr IntKind.u8 (32 : Nat) (arrOf ((List.map (fun (l : List Int) => D.arr IntKind.u8 (32 : Nat) l) x.fst).getD (ixor IntKind.i64 (↑x.snd.fst : Int) (1 : Int)).toNat (D.val (Value.bool false)))) =
                                           (List.map (fun (l : List Int) => D.arr IntKind.u8 (32 : Nat) l) x.fst).getD (ixor IntKind.i64 (↑x.snd.fst : Int) (1 : Int)).toNat (D.val (Value.bool false))) ∧
                                      ((32 : Nat) ≠ (0 : Nat) ∧ (32 : Nat) = (32 : Nat) ∧ true = true) ∧
                                       ((1 : Nat) ≤ (4096 : Nat) ∧ (32 : Nat) ≤ (256 : Nat) ∧ (32 : Nat) ≠ (0 : Nat)) ∧
                                        ((28 : TypeId) = (28 : TypeId) ∧
                                          (23 : Nat) = (23 : Nat) ∧
                                           true = true ∧
                                            (List.map (fun (l : List Int) => D.arr IntKind.u8 (32 : Nat) l) x.snd.snd ++ [D.arr IntKind.u8 (32 : Nat) (arrOf ((List.map (fun (l : List Int) => D.arr IntKind.u8 (32 : Nat) l) x.fst).getD (ixor IntKind.i64 (↑x.snd.fst : Int) (1 : Int)).toNat (D.val (Value.bool false))))]).length ≤ (140737488355328 : Nat) ∧
                                             (List.map (fun (l : List Int) => D.arr IntKind.u8 (32 : Nat) l) x.snd.snd ++ [D.arr IntKind.u8 (32 : Nat) (arrOf ((List.map (fun (l : List Int) => D.arr IntKind.u8 (32 : Nat) l) x.fst).getD (ixor IntKind.i64 (↑x.snd.fst : Int) (1 : Int)).toNat (D.val (Value.bool false))))]).length * (32 : Nat) ≤
                                               (140737488355328 : Nat) ∧
                                              (32 : Nat) ≠ (0 : Nat) ∧ (32 : Nat) = (32 : Nat)) ∧
                                         True ∧
                                          True ∧
                                           (2 : Int) ≠ (0 : Int) ∧
                                            True ∧
                                             True ∧
                                              (∃ (qs : List (List Int)), [D.slc (32 : Nat) (List.map (fun (l : List Int) => D.arr IntKind.u8 (32 : Nat) l) x.fst)] = [D.slc (32 : Nat) (List.map (fun (l : List Int) => D.arr IntKind.u8 (32 : Nat) l) qs)] ∧ okQs qs) ∧
                                               True ∧
                                                ((AV.d (D.slc (32 : Nat) (List.map (fun (l : List Int) => D.arr IntKind.u8 (32 : Nat) l) (flL (qsOf (D.slc (32 : Nat) (List.map (fun (l : List Int) => D.arr IntKind.u8 (32 : Nat) l) x.fst)))))) =
                                                    AV.d (D.slc (32 : Nat) (List.map (fun (l : List Int) => D.arr IntKind.u8 (32 : Nat) l) (qsOf (D.slc (32 : Nat) (List.map (fun (l : List Int) => D.arr IntKind.u8 (32 : Nat) l) (flL (qsOf (D.slc (32 : Nat) (List.map (fun (l : List Int) => D.arr IntKind.u8 (32 : Nat) l) x.fst))))))))) ∧
                                                   AV.d (D.val (Value.int IntKind.i64 (IntKind.i64.wrap ((↑x.snd.fst : Int).tdiv (2 : Int))))) = AV.d (D.val (Value.int IntKind.i64 (↑(IntKind.i64.wrap ((↑x.snd.fst : Int).tdiv (2 : Int))).toNat : Int))) ∧ AV.row (6 : Nat) = AV.row (6 : Nat) ∧ True) ∧
                                                  (some
                                                      (Blk.row (28 : TypeId)
                                                       (D.slc (32 : Nat)
                                                        (List.map (fun (l : List Int) => D.arr IntKind.u8 (32 : Nat) l) x.snd.snd ++ [D.arr IntKind.u8 (32 : Nat) (arrOf ((List.map (fun (l : List Int) => D.arr IntKind.u8 (32 : Nat) l) x.fst).getD (ixor IntKind.i64 (↑x.snd.fst : Int) (1 : Int)).toNat (D.val (Value.bool false))))]))) =
                                                     some
                                                      (Blk.row (28 : TypeId)
                                                       (D.slc (32 : Nat)
                                                        (List.map (fun (l : List Int) => D.arr IntKind.u8 (32 : Nat) l)
                                                         (qsOf
                                                          (D.slc (32 : Nat)
                                                           (List.map (fun (l : List Int) => D.arr IntKind.u8 (32 : Nat) l) x.snd.snd ++ [D.arr IntKind.u8 (32 : Nat) (arrOf ((List.map (fun (l : List Int) => D.arr IntKind.u8 (32 : Nat) l) x.fst).getD (ixor IntKind.i64 (↑x.snd.fst : Int) (1 : Int)).toNat (D.val (Value.bool false))))])))))) ∧
                                                    True) ∧
                                                   true = true) ∧
                                                 (okQs (qsOf (D.slc (32 : Nat) (List.map (fun (l : List Int) => D.arr IntKind.u8 (32 : Nat) l) (flL (qsOf (D.slc (32 : Nat) (List.map (fun (l : List Int) => D.arr IntKind.u8 (32 : Nat) l) x.fst))))))) ∧
                                                   (1 : Nat) ≤ (qsOf (D.slc (32 : Nat) (List.map (fun (l : List Int) => D.arr IntKind.u8 (32 : Nat) l) (flL (qsOf (D.slc (32 : Nat) (List.map (fun (l : List Int) => D.arr IntKind.u8 (32 : Nat) l) x.fst))))))).length ∧
                                                    (IntKind.i64.wrap ((↑x.snd.fst : Int).tdiv (2 : Int))).toNat < (qsOf (D.slc (32 : Nat) (List.map (fun (l : List Int) => D.arr IntKind.u8 (32 : Nat) l) (flL (qsOf (D.slc (32 : Nat) (List.map (fun (l : List Int) => D.arr IntKind.u8 (32 : Nat) l) x.fst))))))).length ∧
                                                     (qsOf
                                                         (D.slc (32 : Nat)
                                                          (List.map (fun (l : List Int) => D.arr IntKind.u8 (32 : Nat) l) x.snd.snd ++ [D.arr IntKind.u8 (32 : Nat) (arrOf ((List.map (fun (l : List Int) => D.arr IntKind.u8 (32 : Nat) l) x.fst).getD (ixor IntKind.i64 (↑x.snd.fst : Int) (1 : Int)).toNat (D.val (Value.bool false))))]))).length ≤
                                                       (60 : Nat) - (qsOf (D.slc (32 : Nat) (List.map (fun (l : List Int) => D.arr IntKind.u8 (32 : Nat) l) (flL (qsOf (D.slc (32 : Nat) (List.map (fun (l : List Int) => D.arr IntKind.u8 (32 : Nat) l) x.fst))))))).length ∧
                                                      (∀ (l : List Int),
                                                        l ∈
                                                          qsOf
                                                           (D.slc (32 : Nat)
                                                            (List.map (fun (l : List Int) => D.arr IntKind.u8 (32 : Nat) l) x.snd.snd ++ [D.arr IntKind.u8 (32 : Nat) (arrOf ((List.map (fun (l : List Int) => D.arr IntKind.u8 (32 : Nat) l) x.fst).getD (ixor IntKind.i64 (↑x.snd.fst : Int) (1 : Int)).toNat (D.val (Value.bool false))))])) →
                                                         isD l) ∧
                                                       qsOf
                                                          (D.slc (32 : Nat)
                                                           (List.map (fun (l : List Int) => D.arr IntKind.u8 (32 : Nat) l) x.snd.snd ++ [D.arr IntKind.u8 (32 : Nat) (arrOf ((List.map (fun (l : List Int) => D.arr IntKind.u8 (32 : Nat) l) x.fst).getD (ixor IntKind.i64 (↑x.snd.fst : Int) (1 : Int)).toNat (D.val (Value.bool false))))])) ++
                                                         pfR (qsOf (D.slc (32 : Nat) (List.map (fun (l : List Int) => D.arr IntKind.u8 (32 : Nat) l) (flL (qsOf (D.slc (32 : Nat) (List.map (fun (l : List Int) => D.arr IntKind.u8 (32 : Nat) l) x.fst))))))) (IntKind.i64.wrap ((↑x.snd.fst : Int).tdiv (2 : Int))).toNat =
                                                        pthL ls i) ∧
                                                  (qsOf (D.slc (32 : Nat) (List.map (fun (l : List Int) => D.arr IntKind.u8 (32 : Nat) l) (flL (qsOf (D.slc (32 : Nat) (List.map (fun (l : List Int) => D.arr IntKind.u8 (32 : Nat) l) x.fst))))))).length < x.fst.length
                                 | false =>
                                  True ∧
                                   (2 : Int) ≠ (0 : Int) ∧
                                    True ∧
                                     True ∧
                                      (∃ (qs : List (List Int)), [D.slc (32 : Nat) (List.map (fun (l : List Int) => D.arr IntKind.u8 (32 : Nat) l) x.fst)] = [D.slc (32 : Nat) (List.map (fun (l : List Int) => D.arr IntKind.u8 (32 : Nat) l) qs)] ∧ okQs qs) ∧
                                       True ∧
                                        ((AV.d (D.slc (32 : Nat) (List.map (fun (l : List Int) => D.arr IntKind.u8 (32 : Nat) l) (flL (qsOf (D.slc (32 : Nat) (List.map (fun (l : List Int) => D.arr IntKind.u8 (32 : Nat) l) x.fst)))))) =
                                            AV.d (D.slc (32 : Nat) (List.map (fun (l : List Int) => D.arr IntKind.u8 (32 : Nat) l) (qsOf (D.slc (32 : Nat) (List.map (fun (l : List Int) => D.arr IntKind.u8 (32 : Nat) l) (flL (qsOf (D.slc (32 : Nat) (List.map (fun (l : List Int) => D.arr IntKind.u8 (32 : Nat) l) x.fst))))))))) ∧
                                           AV.d (D.val (Value.int IntKind.i64 (IntKind.i64.wrap ((↑x.snd.fst : Int).tdiv (2 : Int))))) = AV.d (D.val (Value.int IntKind.i64 (↑(IntKind.i64.wrap ((↑x.snd.fst : Int).tdiv (2 : Int))).toNat : Int))) ∧ AV.row (6 : Nat) = AV.row (6 : Nat) ∧ True) ∧
                                          (some (Blk.row (28 : TypeId) (D.slc (32 : Nat) (List.map (fun (l : List Int) => D.arr IntKind.u8 (32 : Nat) l) x.snd.snd))) =
                                             some (Blk.row (28 : TypeId) (D.slc (32 : Nat) (List.map (fun (l : List Int) => D.arr IntKind.u8 (32 : Nat) l) (qsOf (D.slc (32 : Nat) (List.map (fun (l : List Int) => D.arr IntKind.u8 (32 : Nat) l) x.snd.snd)))))) ∧
                                            True) ∧
                                           true = true) ∧
                                         (okQs (qsOf (D.slc (32 : Nat) (List.map (fun (l : List Int) => D.arr IntKind.u8 (32 : Nat) l) (flL (qsOf (D.slc (32 : Nat) (List.map (fun (l : List Int) => D.arr IntKind.u8 (32 : Nat) l) x.fst))))))) ∧
                                           (1 : Nat) ≤ (qsOf (D.slc (32 : Nat) (List.map (fun (l : List Int) => D.arr IntKind.u8 (32 : Nat) l) (flL (qsOf (D.slc (32 : Nat) (List.map (fun (l : List Int) => D.arr IntKind.u8 (32 : Nat) l) x.fst))))))).length ∧
                                            (IntKind.i64.wrap ((↑x.snd.fst : Int).tdiv (2 : Int))).toNat < (qsOf (D.slc (32 : Nat) (List.map (fun (l : List Int) => D.arr IntKind.u8 (32 : Nat) l) (flL (qsOf (D.slc (32 : Nat) (List.map (fun (l : List Int) => D.arr IntKind.u8 (32 : Nat) l) x.fst))))))).length ∧
                                             (qsOf (D.slc (32 : Nat) (List.map (fun (l : List Int) => D.arr IntKind.u8 (32 : Nat) l) x.snd.snd))).length ≤
                                               (60 : Nat) - (qsOf (D.slc (32 : Nat) (List.map (fun (l : List Int) => D.arr IntKind.u8 (32 : Nat) l) (flL (qsOf (D.slc (32 : Nat) (List.map (fun (l : List Int) => D.arr IntKind.u8 (32 : Nat) l) x.fst))))))).length ∧
                                              (∀ (l : List Int), l ∈ qsOf (D.slc (32 : Nat) (List.map (fun (l : List Int) => D.arr IntKind.u8 (32 : Nat) l) x.snd.snd)) → isD l) ∧
                                               qsOf (D.slc (32 : Nat) (List.map (fun (l : List Int) => D.arr IntKind.u8 (32 : Nat) l) x.snd.snd)) ++
                                                 pfR (qsOf (D.slc (32 : Nat) (List.map (fun (l : List Int) => D.arr IntKind.u8 (32 : Nat) l) (flL (qsOf (D.slc (32 : Nat) (List.map (fun (l : List Int) => D.arr IntKind.u8 (32 : Nat) l) x.fst))))))) (IntKind.i64.wrap ((↑x.snd.fst : Int).tdiv (2 : Int))).toNat =
                                                pthL ls i) ∧
                                          (qsOf (D.slc (32 : Nat) (List.map (fun (l : List Int) => D.arr IntKind.u8 (32 : Nat) l) (flL (qsOf (D.slc (32 : Nat) (List.map (fun (l : List Int) => D.arr IntKind.u8 (32 : Nat) l) x.fst))))))).length < x.fst.length
                         | false => True ∧ True ∧ True ∧ (false = false ∧ false = false ∧ True) ∧ D.tup [D.slc (32 : Nat) (List.map (fun (l : List Int) => D.arr IntKind.u8 (32 : Nat) l) x.snd.snd), D.val (Value.int IntKind.i64 (0 : Int))] = F) := by kernel_rfl
set_option maxRecDepth 100000 in
theorem vc14  (a b : List (List Int)) (F : D)  :
    (owed c0 (inv14 a b) Tryd.f14 [PD a, PD b] F) = (
 True ∧
   True ∧
    True ∧
     True ∧
      True ∧
       True ∧
        match (↑(List.map (fun (l : List Int) => D.arr IntKind.u8 (32 : Nat) l) a).length : Int) != (↑(List.map (fun (l : List Int) => D.arr IntKind.u8 (32 : Nat) l) b).length : Int) with
        | true => True ∧ (false = false ∧ True) ∧ D.val (Value.bool false) = F
        | false =>
         True ∧
          True ∧
           True ∧
            (((AV.d (D.val (Value.int IntKind.i64 (0 : Int))) = AV.d (D.val (Value.int IntKind.i64 (↑(Int.toNat (0 : Int)) : Int))) ∧ True) ∧ True ∧ true = true) ∧ Int.toNat (0 : Int) ≤ a.length ∧ List.take (Int.toNat (0 : Int)) a = List.take (Int.toNat (0 : Int)) b) ∧
             ∀ (x : Nat),
              x ≤ a.length ∧ List.take x a = List.take x b →
               true = true ∧
                True ∧
                 match decide ((↑x : Int) < (↑(List.map (fun (l : List Int) => D.arr IntKind.u8 (32 : Nat) l) a).length : Int)) with
                 | true =>
                  True ∧
                   True ∧
                    True ∧
                     True ∧
                      ((0 : Int) ≤ (↑x : Int) ∧
                        (↑x : Int) < (↑(List.map (fun (l : List Int) => D.arr IntKind.u8 (32 : Nat) l) a).length : Int) ∧
                         (32 : Nat) ≠ (0 : Nat) ∧ (32 : Nat) = (32 : Nat) ∧ D.arr IntKind.u8 (32 : Nat) (arrOf ((List.map (fun (l : List Int) => D.arr IntKind.u8 (32 : Nat) l) a).getD (↑x : Int).toNat (D.val (Value.bool false)))) = (List.map (fun (l : List Int) => D.arr IntKind.u8 (32 : Nat) l) a).getD (↑x : Int).toNat (D.val (Value.bool false))) ∧
                       ((32 : Nat) ≠ (0 : Nat) ∧ (32 : Nat) = (32 : Nat) ∧ true = true) ∧
                        True ∧
                         True ∧
                          ((0 : Int) ≤ (↑x : Int) ∧
                            (↑x : Int) < (↑(List.map (fun (l : List Int) => D.arr IntKind.u8 (32 : Nat) l) b).length : Int) ∧
                             (32 : Nat) ≠ (0 : Nat) ∧ (32 : Nat) = (32 : Nat) ∧ D.arr IntKind.u8 (32 : Nat) (arrOf ((List.map (fun (l : List Int) => D.arr IntKind.u8 (32 : Nat) l) b).getD (↑x : Int).toNat (D.val (Value.bool false)))) = (List.map (fun (l : List Int) => D.arr IntKind.u8 (32 : Nat) l) b).getD (↑x : Int).toNat (D.val (Value.bool false))) ∧
                           ((32 : Nat) ≠ (0 : Nat) ∧ (32 : Nat) = (32 : Nat) ∧ true = true) ∧
                            (IntKind.u8 = IntKind.u8 ∧ IntKind.u8 = IntKind.u8 ∧ (32 : Nat) = (32 : Nat) ∧ (32 : Nat) = (32 : Nat) ∧ (1 : Nat) = (1 : Nat)) ∧
                             match !eqB (arrOf ((List.map (fun (l : List Int) => D.arr IntKind.u8 (32 : Nat) l) a).getD (↑x : Int).toNat (D.val (Value.bool false)))) (arrOf ((List.map (fun (l : List Int) => D.arr IntKind.u8 (32 : Nat) l) b).getD (↑x : Int).toNat (D.val (Value.bool false)))) with
                             | true => True ∧ (false = false ∧ True) ∧ D.val (Value.bool false) = F
                             | false =>
                              True ∧
                               True ∧
                                ((AV.d (D.val (Value.int IntKind.i64 (IntKind.i64.wrap ((↑x : Int) + (1 : Int))))) = AV.d (D.val (Value.int IntKind.i64 (↑(IntKind.i64.wrap ((↑x : Int) + (1 : Int))).toNat : Int))) ∧ True) ∧ True ∧ true = true) ∧
                                 ((IntKind.i64.wrap ((↑x : Int) + (1 : Int))).toNat ≤ a.length ∧ List.take (IntKind.i64.wrap ((↑x : Int) + (1 : Int))).toNat a = List.take (IntKind.i64.wrap ((↑x : Int) + (1 : Int))).toNat b) ∧ a.length - (IntKind.i64.wrap ((↑x : Int) + (1 : Int))).toNat < a.length - x
                 | false => True ∧ (false = false ∧ True) ∧ D.val (Value.bool true) = F) := by kernel_rfl
end Go.Proofs.YtkicjckhkefnpaaDoor
/- package tree and its reference: Root, Path, leaves, floor, Equal: the proofs. -/
namespace Go.Proofs.YtkicjckhkefnpaaDoor
open Go Go.Vg

theorem lsOf_LD (ls : List (List Int)) : lsOf (.slc 1 (ls.map fun l => D.ints .u8 l)) = ls := by
  unfold lsOf Go.Vg.xsOf
  simp only [List.map_map]
  rw [show (intsOf ∘ fun l => D.ints .u8 l) = id from rfl, List.map_id]
theorem qsOf_PD (qs : List (List Int)) : qsOf (.slc 32 (qs.map fun l => D.arr .u8 32 l)) = qs := by
  unfold qsOf Go.Vg.xsOf
  simp only [List.map_map]
  rw [show (arrOf ∘ fun l => D.arr .u8 32 l) = id from rfl, List.map_id]
theorem getL {ls : List (List Int)} {k : Nat} (h : k < ls.length) : (ls.map fun l => D.ints .u8 l).getD k (.val (.bool false)) = .ints .u8 (ls.getD k []) := by
  rw [List.getD_eq_getElem?_getD, List.getElem?_map, List.getD_eq_getElem?_getD, List.getElem?_eq_getElem h]
  rfl
theorem getQ {qs : List (List Int)} {k : Nat} (h : k < qs.length) : (qs.map fun l => D.arr .u8 32 l).getD k (.val (.bool false)) = .arr .u8 32 (qs.getD k []) := by
  rw [List.getD_eq_getElem?_getD, List.getElem?_map, List.getD_eq_getElem?_getD, List.getElem?_eq_getElem h]
  rfl
theorem mem_getD {ls : List (List Int)} {k : Nat} (h : k < ls.length) : ls.getD k [] ∈ ls := by
  rw [List.getD_eq_getElem?_getD, List.getElem?_eq_getElem h]
  exact List.getElem_mem h
theorem take_succ' (ls : List (List Int)) {k : Nat} (h : k < ls.length) : ls.take (k + 1) = ls.take k ++ [ls.getD k []] := by
  rw [List.take_add_one, List.getD_eq_getElem?_getD, List.getElem?_eq_getElem h]
  rfl
theorem okQs_leaves {ls : List (List Int)} (h : okLs ls) : okQs (ls.map leafL) := by
  refine ⟨fun q hq => ?_, by rw [List.length_map]; exact h.2⟩
  obtain ⟨p, _, rfl⟩ := List.mem_map.1 hq
  exact leafL_D p
theorem flL_D : ∀ (n : Nat) (qs : List (List Int)), qs.length ≤ n → (∀ q ∈ qs, isD q) → ∀ q ∈ flL qs, isD q
  | _, [], _, _ => by simp [flL]
  | _, [a], _, h => by simpa [flL] using h
  | 0, _ :: _ :: _, h, _ => by simp at h
  | n + 1, a :: b :: t, h, hd => by
    intro q hq
    simp only [flL] at hq
    rcases List.mem_cons.1 hq with rfl | hq
    · exact nodeL_D _ _
    · exact flL_D n t (by simp at h; omega) (fun x hx => hd x (by simp [hx])) q hq
theorem okQs_fl {qs : List (List Int)} (h : okQs qs) : okQs (flL qs) := ⟨flL_D _ qs (Nat.le_refl _) h.1, by have := flL_len qs; have := h.2; omega⟩
theorem okLs_take {ls : List (List Int)} (h : okLs ls) (n : Nat) : okLs (ls.take n) := ⟨fun l hl => h.1 l (List.mem_of_mem_take hl), by have := h.2; rw [List.length_take]; omega⟩
theorem okLs_drop {ls : List (List Int)} (h : okLs ls) (n : Nat) : okLs (ls.drop n) := ⟨fun l hl => h.1 l (List.mem_of_mem_drop hl), by have := h.2; rw [List.length_drop]; omega⟩
theorem trR_D : ∀ (n : Nat) (qs : List (List Int)), qs.length ≤ n → 1 ≤ qs.length → (∀ q ∈ qs, isD q) → isD (trR qs)
  | 0, qs, h, h1, _ => by omega
  | n + 1, qs, h, h1, hd => by
    by_cases h2 : qs.length = 1
    · rw [trR_one h2]
      cases qs with
      | nil => simp at h2
      | cons a t => exact hd a (by simp)
    · rw [trR_step (by omega)]
      exact nodeL_D _ _

set_option maxRecDepth 100000 in
theorem m72 : Meets Tryd.prog 72 sp72 := by
  refine meets_of_owed (C := c72) ⟨tab_ok, lkS_ok ⟨m21, trivial⟩⟩ (by kernel_rfl) (by kernel_rfl : Tryd.prog.funcs[72]? = some Tryd.f72) (by kernel_rfl) (by kernel_rfl) (by kernel_rfl) _ ?_
  rintro _ ⟨ls, rfl, hl, h60⟩
  refine ⟨(by intro h; cases h), inv72 ls, ?_⟩
  show owed c72 (inv72 ls) Tryd.f72 [LD ls] (PD ((lsOf (LD ls)).map leafL))
  rw [vc72, lsOf_LD]
  simp (decide := true) only [Int.toNat_natCast, Int.toNat_zero, List.take_zero, List.map_nil, List.length_map, eq_self, true_and, and_true, ne_eq, not_false_eq_true, Nat.zero_le, show Int.toNat 0 = 0 from rfl]
  refine ⟨by and_intros <;> first | rfl | trivial | omega, fun k hk => ?_⟩
  split
  · rename_i h
    have h : k < ls.length := by have := of_decide_eq_true h; omega
    have e2 : IntKind.i64.wrap ((k : Int) + 1) = ((k + 1 : Nat) : Int) := by rw [wi (by omega) (by omega)]; omega
    have hb := hl _ (mem_getD h)
    rw [getL h, e2, Int.toNat_natCast, take_succ' ls h]
    have ei : intsOf (D.ints .u8 (ls.getD k [])) = ls.getD k [] := rfl
    simp only [ei, List.length_append, List.length_map, List.length_take, List.length_cons, List.length_nil, List.map_append, List.map_cons, List.map_nil]
    refine ⟨by and_intros <;> first | rfl | trivial | omega, hb.1, ⟨_, rfl, hb.1, by omega⟩, by and_intros <;> first | rfl | trivial | omega, by and_intros <;> first | rfl | trivial | omega, by and_intros <;> first | rfl | trivial | omega⟩
  · rename_i h
    have h : ¬ k < ls.length := by have := of_decide_eq_false h; omega
    rw [List.take_of_length_le (by omega)]

theorem take2 (qs : List (List Int)) {k : Nat} (h : 2 * k + 1 < qs.length) : flL (qs.take (2 * (k + 1))) = flL (qs.take (2 * k)) ++ [nodeL (qs.getD (2 * k) []) (qs.getD (2 * k + 1) [])] := by
  have e : qs.take (2 * (k + 1)) = qs.take (2 * k) ++ [qs.getD (2 * k) [], qs.getD (2 * k + 1) []] := by
    rw [show 2 * (k + 1) = 2 * k + 1 + 1 by omega, take_succ' qs h, take_succ' qs (by omega)]
    simp
  rw [e]
  have key : ∀ (m : Nat) (l : List (List Int)) (a b : List Int), l.length = 2 * m → flL (l ++ [a, b]) = flL l ++ [nodeL a b] := by
    intro m
    induction m with
    | zero =>
      intro l a b h
      obtain rfl := List.length_eq_zero_iff.1 (by omega : l.length = 0)
      simp [flL]
    | succ m ih =>
      intro l a b h
      match l, h with
      | x :: y :: t, h =>
        simp only [List.cons_append, flL]
        rw [ih t a b (by simp at h; omega)]
      | [x], h => simp at h; omega
      | [], h => simp at h
  exact key k _ _ _ (by rw [List.length_take]; omega)
theorem take1 (qs : List (List Int)) {k : Nat} (h : 2 * k + 1 = qs.length) : flL (qs.take (2 * (k + 1))) = flL (qs.take (2 * k)) ++ [qs.getD (2 * k) []] := by
  have e : qs.take (2 * (k + 1)) = qs.take (2 * k) ++ [qs.getD (2 * k) []] := by
    rw [List.take_of_length_le (by omega), ← take_succ' qs (by omega), List.take_of_length_le (by omega)]
  rw [e]
  have key : ∀ (m : Nat) (l : List (List Int)) (a : List Int), l.length = 2 * m → flL (l ++ [a]) = flL l ++ [a] := by
    intro m
    induction m with
    | zero =>
      intro l a h
      obtain rfl := List.length_eq_zero_iff.1 (by omega : l.length = 0)
      simp [flL]
    | succ m ih =>
      intro l a h
      match l, h with
      | x :: y :: t, h =>
        simp only [List.cons_append, flL]
        rw [ih t a (by simp at h; omega)]
      | [x], h => simp at h; omega
      | [], h => simp at h
  exact key k _ _ (by rw [List.length_take]; omega)

set_option maxRecDepth 100000 in
theorem m73 : Meets Tryd.prog 73 sp73 := by
  refine meets_of_owed (C := c73) ⟨tab_ok, lkS_ok ⟨m23, trivial⟩⟩ (by kernel_rfl) (by kernel_rfl : Tryd.prog.funcs[73]? = some Tryd.f73) (by kernel_rfl) (by kernel_rfl) (by kernel_rfl) _ ?_
  rintro _ ⟨qs, rfl, hq, h60⟩
  refine ⟨(by intro h; cases h), inv73 qs, ?_⟩
  show owed c73 (inv73 qs) Tryd.f73 [PD qs] (PD (flL (qsOf (PD qs))))
  rw [vc73, qsOf_PD]
  simp (decide := true) only [Int.toNat_natCast, Int.toNat_zero, List.take_zero, List.map_nil, List.length_map, eq_self, true_and, and_true, ne_eq, not_false_eq_true, Nat.zero_le, show Int.toNat 0 = 0 from rfl, flL]
  refine ⟨by and_intros <;> first | rfl | trivial | omega, fun k hk => ?_⟩
  have e1 : IntKind.i64.wrap (((2 * k : Nat) : Int) + 1) = ((2 * k + 1 : Nat) : Int) := by rw [wi (by omega) (by omega)]; omega
  have e2 : IntKind.i64.wrap (((2 * k : Nat) : Int) + 2) = ((2 * (k + 1) : Nat) : Int) := by rw [wi (by omega) (by omega)]; omega
  have hfl : (flL (qs.take (2 * k))).length ≤ 60 := by rw [flL_len, List.length_take]; omega
  simp only [e1, e2, Int.toNat_natCast]
  split
  · rename_i h
    have h : 2 * k < qs.length := by have := of_decide_eq_true h; omega
    have ei : ∀ l, arrOf (D.arr .u8 32 l) = l := fun l => rfl
    have e3 : (2 * (k + 1)) / 2 = k + 1 := by omega
    split
    · rename_i h2
      have h2 : 2 * k + 1 < qs.length := by have := of_decide_eq_true h2; omega
      rw [getQ h, getQ h2]
      simp only [ei, e3, take2 qs h2, List.length_append, List.length_map, List.length_cons, List.length_nil, List.map_append, List.map_cons, List.map_nil]
      and_intros <;> first | rfl | trivial | omega | exact ⟨_, _, rfl, hq _ (mem_getD h), hq _ (mem_getD h2)⟩
    · rename_i h2
      have h2 : 2 * k + 1 = qs.length := by have := of_decide_eq_false h2; omega
      rw [getQ h]
      simp only [ei, e3, take1 qs h2, List.length_append, List.length_map, List.length_cons, List.length_nil, List.map_append, List.map_cons, List.map_nil]
      and_intros <;> first | rfl | trivial | omega
  · rename_i h
    have h : ¬ 2 * k < qs.length := by have := of_decide_eq_false h; omega
    rw [List.take_of_length_le (by omega)]

end Go.Proofs.YtkicjckhkefnpaaDoor
/- package tree and its reference: Root, Path, Equal: the proofs. -/
namespace Go.Proofs.YtkicjckhkefnpaaDoor
open Go Go.Vg

theorem snocQ (qs : List (List Int)) (y : List Int) : (qs.map fun l => D.arr .u8 32 l) ++ [D.arr .u8 32 y] = (qs ++ [y]).map fun l => D.arr .u8 32 l := by simp
theorem beq_nat0 (n k : Nat) : ((n : Int) == (k : Int)) = (n == k) := by
  rw [Bool.eq_iff_iff, beq_iff_eq, beq_iff_eq]
  omega
theorem xor_i64 {k : Nat} (h : k < 2 ^ 62) : ixor .i64 (k : Int) 1 = ((k ^^^ 1 : Nat) : Int) := by
  unfold ixor
  have h1 : (BitVec.ofInt IntKind.i64.bits (k : Int) ^^^ BitVec.ofInt IntKind.i64.bits 1).toNat = k ^^^ 1 := by
    rw [BitVec.toNat_xor]
    have a1 : (BitVec.ofInt IntKind.i64.bits (k : Int)).toNat = k := by
      rw [BitVec.toNat_ofInt]
      show ((k : Int) % ((2 ^ 64 : Nat) : Int)).toNat = k
      omega
    have a2 : (BitVec.ofInt IntKind.i64.bits 1).toNat = 1 := rfl
    rw [a1, a2]
  rw [h1]
  have hx := xor1 k
  have : k ^^^ 1 ≤ k + 1 := by rw [hx]; split <;> omega
  rw [wi (by omega) (by omega)]
theorem rtL_pos {ls : List (List Int)} (h : ls.length ≠ 0) : rtL ls = trR (ls.map leafL) := by unfold rtL; rw [if_neg h]

set_option maxRecDepth 100000 in
theorem m13 : Meets Tryd.prog 13 sp13 := by
  refine meets_of_owed (C := c13) ⟨tab_ok, lkS_ok ⟨m71, m72, m73, trivial⟩⟩ (by kernel_rfl) (by kernel_rfl : Tryd.prog.funcs[13]? = some Tryd.f13) (by kernel_rfl) (by kernel_rfl) (by kernel_rfl) _ ?_
  rintro _ ⟨ls, rfl, hls⟩
  have hl := hls.1
  have h60 := hls.2
  refine ⟨fun _ => rfl, inv13 ls, ?_⟩
  show owed c13 (inv13 ls) Tryd.f13 [LD ls] (d32 (rtL (lsOf (LD ls))))
  rw [vc13]
  simp (decide := true) only [lsOf_LD, qsOf_PD, List.length_map, eq_self, true_and, and_true, ne_eq, not_false_eq_true]
  split
  · rename_i h
    have h : ls.length = 0 := by have := eq_of_beq h; omega
    unfold rtL
    rw [if_pos h]
    exact ⟨⟨[], rfl, (fun x hx => by cases hx), by decide⟩, rfl⟩
  · rename_i h
    have h : ls.length ≠ 0 := by
      intro h3
      rw [h3] at h
      cases h
    rw [rtL_pos h]
    refine ⟨⟨ls, rfl, hls⟩, ⟨okQs_leaves hls, by omega⟩, ?_⟩
    rintro qs ⟨hq, h1, ht⟩
    have hfl := flL_len qs
    split
    · rename_i h2
      have h2 : 1 < qs.length := by have := of_decide_eq_true h2; omega
      exact ⟨⟨qs, rfl, hq⟩, ⟨okQs_fl hq, by omega, by rw [trR_fl _ qs (Nat.le_refl _) (by omega), ht]⟩, by omega⟩
    · rename_i h2
      have h2 : qs.length = 1 := by have := of_decide_eq_false h2; omega
      have e0 : arrOf ((qs.map fun l => D.arr .u8 32 l).getD 0 (.val (.bool false))) = qs.getD 0 [] := by rw [getQ (by omega)]; rfl
      have e1 := getQ (qs := qs) (k := 0) (by omega)
      rw [← ht, trR_one h2]
      have e2 : qs.headD [] = qs.getD 0 [] := by cases qs <;> rfl
      rw [e2]
      simp only [e1]
      have ei : arrOf (D.arr .u8 32 (qs.getD 0 [])) = qs.getD 0 [] := rfl
      simp only [ei]
      and_intros <;> first | rfl | trivial | omega

theorem m24n : ∀ n, Meets Tryd.prog 24 (sp24n n)
  | 0 => by
    rintro _ ⟨ls, rfl, _, h⟩
    exact absurd h (Nat.not_lt_zero _)
  | n + 1 => by
    have ih := m24n n
    refine meets_of_owed (C := c24 n) ⟨tab_ok, lkS_ok ⟨ih, m70, m20, m22, m74, trivial⟩⟩ (by kernel_rfl) (by kernel_rfl : Tryd.prog.funcs[24]? = some Tryd.f24) (by kernel_rfl) (by kernel_rfl) (by kernel_rfl) _ ?_
    rintro _ ⟨ls, rfl, hls, hn⟩
    have hl := hls.1
    have h60 := hls.2
    refine ⟨fun _ => rfl, fun _ => none, ?_⟩
    show owed (c24 n) (fun _ => none) Tryd.f24 [LD ls] (d32 (rtL (lsOf (LD ls))))
    rw [vc24]
    simp (decide := true) only [lsOf_LD, qsOf_PD, List.length_map, Int.toNat_natCast, eq_self, true_and, and_true, ne_eq, not_false_eq_true, List.drop_zero, ← List.map_take, ← List.map_drop]
    split
    · rename_i h
      have h : ls.length = 0 := by have := eq_of_beq h; omega
      unfold rtL
      rw [if_pos h]
      exact ⟨⟨[], rfl, (fun x hx => by cases hx), by decide⟩, rfl⟩
    · rename_i h
      have h : ls.length ≠ 0 := by
        intro h3
        rw [h3] at h
        cases h
      rw [rtL_pos h]
      split
      · rename_i h2
        have h2 : ls.length = 1 := by have := eq_of_beq h2; omega
        have e1 := getL (ls := ls) (k := 0) (by omega)
        have hb := hl _ (mem_getD (ls := ls) (k := 0) (by omega))
        have e3 : trR (ls.map leafL) = leafL (ls.getD 0 []) := by
          rw [trR_one (by rw [List.length_map]; exact h2)]
          cases ls with
          | nil => simp at h2
          | cons a t => rfl
        rw [e3]
        simp only [show Int.toNat 0 = 0 from rfl, e1]
        have ei : intsOf (D.ints .u8 (ls.getD 0 [])) = ls.getD 0 [] := rfl
        simp only [ei]
        and_intros <;> first | rfl | trivial | omega | exact ⟨_, rfl, hb.1, by omega⟩
      · rename_i h2
        have h2 : ls.length ≠ 1 := by
          intro h3
          rw [h3] at h2
          cases h2
        have hlt := hf_lt (n := ls.length) (by omega)
        have hp := hf_pos ls.length
        have l1 : (ls.take (hf ls.length)).length = hf ls.length := by rw [List.length_take]; omega
        have l2 : (ls.drop (hf ls.length)).length = ls.length - hf ls.length := List.length_drop
        have tt : List.take ls.length ls = ls := List.take_of_length_le (Nat.le_refl _)
        have s1 := trR_step (ds := ls.map leafL) (by rw [List.length_map]; omega)
        rw [List.length_map, ← List.map_take, ← List.map_drop, ← rtL_pos (ls := ls.take (hf ls.length)) (by omega), ← rtL_pos (ls := ls.drop (hf ls.length)) (by omega)] at s1
        have rD : ∀ {qs : List (List Int)}, qs.length ≠ 0 → isD (rtL qs) := fun {qs} h => by
          rw [rtL_pos h]
          refine trR_D _ _ (Nat.le_refl _) (by rw [List.length_map]; omega) ?_
          intro q hq
          obtain ⟨p, _, rfl⟩ := List.mem_map.1 hq
          exact leafL_D p
        rw [s1]
        simp only [tt, show Int.toNat 0 = 0 from rfl, List.drop_zero, lsOf_LD]
        refine ⟨⟨ls.length, rfl, by omega, by omega⟩, by and_intros <;> first | rfl | trivial | omega, ⟨_, rfl, okLs_take hls _, by omega⟩, by and_intros <;> first | rfl | trivial | omega, ⟨_, rfl, okLs_drop hls _, by omega⟩, ⟨_, _, rfl, rD (by omega), rD (by omega)⟩, ?_⟩
        and_intros <;> first | rfl | trivial | omega
theorem m24 : Meets Tryd.prog 24 sp24 := fun ds ⟨ls, e, h⟩ => m24n 61 ds ⟨ls, e, h, by have := h.2; omega⟩

end Go.Proofs.YtkicjckhkefnpaaDoor
/- package tree and its reference: Path, Equal: the proofs. -/
namespace Go.Proofs.YtkicjckhkefnpaaDoor
open Go Go.Vg

theorem pf_len : ∀ (n : Nat) (qs : List (List Int)) (i : Nat), qs.length ≤ n → (pfR qs i).length ≤ qs.length
  | n, qs, i, h => by
    by_cases h1 : qs.length ≤ 1
    · rw [pfR_one i h1]; exact Nat.zero_le _
    · cases n with
      | zero => omega
      | succ n =>
        have hfl := flL_len qs
        have ih := pf_len n (flL qs) (i / 2) (by omega)
        rw [pfR_step i (by omega), List.length_append]
        have : (sbL qs i).length ≤ 1 := by unfold sbL; split <;> simp
        omega
theorem pth_in {ls : List (List Int)} {i : Nat} (h : i < ls.length) : pthL ls (i : Int) = ptR (ls.map leafL) i ∧ pthE ls (i : Int) = 0 := by
  have : inN ls.length (i : Int) = true := by unfold inN; rw [decide_eq_true (by omega), decide_eq_true (by omega)]; rfl
  unfold pthL pthE
  rw [if_pos this, if_pos this, Int.toNat_natCast]
  exact ⟨rfl, rfl⟩
theorem pth_out {ls : List (List Int)} {i : Int} (h : i < 0 ∨ (ls.length : Int) ≤ i) : pthL ls i = [] ∧ pthE ls i = 1 := by
  have : inN ls.length i = false := by
    unfold inN
    rcases h with h | h
    · rw [decide_eq_false (show ¬ (0 ≤ i) by omega)]; rfl
    · rw [decide_eq_false (show ¬ (i < (ls.length : Int)) by omega), Bool.and_false]
  unfold pthL pthE
  rw [if_neg (by rw [this]; decide), if_neg (by rw [this]; decide)]
  exact ⟨rfl, rfl⟩
theorem pth_len {ls : List (List Int)} (i : Int) : (pthL ls i).length ≤ ls.length := by
  unfold pthL
  split
  · rename_i h
    unfold inN at h
    simp only [Bool.and_eq_true, decide_eq_true_eq] at h
    rw [ptR_pf (by rw [List.length_map]; omega)]
    have := pf_len _ (ls.map leafL) i.toNat (Nat.le_refl _)
    rw [List.length_map] at this
    exact this
  · exact Nat.zero_le _

set_option maxRecDepth 100000 in
theorem m18n : ∀ n, MeetsQ Tryd.prog 18 (sp18n n)
  | 0 => by
    unfold MeetsQ MeetsP
    rw [show ioFlag (sp18n 0) = true by kernel_rfl, show lnkF (sp18n 0).ps = none by kernel_rfl, show isIo (sp18n 0) = false by kernel_rfl, show rwE (sp18n 0).ps = some 28 by kernel_rfl]
    rintro _ ⟨ls, i, rfl, _, h, _⟩
    exact absurd h (Nat.not_lt_zero _)
  | n + 1 => by
    have ih := m18n n
    refine meetsRw_of_owed (C := c18 n) ⟨tab_ok, lkS_ok ⟨ih, m24, m74, trivial⟩⟩ (by kernel_rfl) (by kernel_rfl : Tryd.prog.funcs[18]? = some Tryd.f18) (by kernel_rfl) (by kernel_rfl) (by kernel_rfl) _ 28 ⟨by kernel_rfl, by kernel_rfl, by kernel_rfl, by kernel_rfl⟩ ?_
    rintro _ ⟨ls, i, rfl, hls, hn, hi1, hi2⟩
    have hl := hls.1
    have h60 := hls.2
    refine ⟨fun _ => none, ?_⟩
    show owedRw (c18 n) (fun _ => none) Tryd.f18 28 [LD ls, i64 i] (.tup [PD (pthL (lsOf (LD ls)) i), i64 (pthE (lsOf (LD ls)) i)])
    rw [vc18]
    have tt : List.take ls.length ls = ls := List.take_of_length_le (Nat.le_refl _)
    simp (decide := true) only [lsOf_LD, qsOf_PD, List.length_map, Int.toNat_natCast, eq_self, true_and, and_true, ne_eq, not_false_eq_true, List.drop_zero, ← List.map_take, ← List.map_drop, show Int.toNat 0 = 0 from rfl, tt]
    split
    · rename_i h
      have h := of_decide_eq_true h
      obtain ⟨e1, e2⟩ := pth_out (ls := ls) (i := i) (.inl h)
      rw [e1, e2]
      first | rfl | trivial
    · rename_i h
      have h : 0 ≤ i := by have := of_decide_eq_false h; omega
      split
      · rename_i h2
        have h2 := of_decide_eq_true h2
        obtain ⟨e1, e2⟩ := pth_out (ls := ls) (i := i) (.inr h2)
        rw [e1, e2]
        first | rfl | trivial
      · rename_i h2
        have h2 : i < ls.length := by have := of_decide_eq_false h2; omega
        obtain ⟨k, rfl⟩ := Int.eq_ofNat_of_zero_le h
        have hk : k < ls.length := by omega
        obtain ⟨e1, e2⟩ := pth_in hk
        have hlm : (ls.map leafL).length = ls.length := List.length_map ..
        rw [e1, e2]
        split
        · rename_i h3
          have h3 : ls.length = 1 := by have := eq_of_beq h3; omega
          rw [ptR_one k (by omega)]
          first | rfl | trivial
        · rename_i h3
          have h3 : ls.length ≠ 1 := by
            intro h4
            rw [h4] at h3
            cases h3
          have hlt := hf_lt (n := ls.length) (by omega)
          have hp := hf_pos ls.length
          have l1 : (ls.take (hf ls.length)).length = hf ls.length := by rw [List.length_take]; omega
          have l2 : (ls.drop (hf ls.length)).length = ls.length - hf ls.length := List.length_drop
          have s1 := ptR_step (ds := ls.map leafL) (i := k) (by omega) (by omega)
          rw [hlm, ← List.map_take, ← List.map_drop, ← rtL_pos (ls := ls.take (hf ls.length)) (by omega), ← rtL_pos (ls := ls.drop (hf ls.length)) (by omega)] at s1
          rw [s1]
          refine ⟨⟨ls.length, rfl, by omega, by omega⟩, ?_⟩
          split
          · rename_i h4
            have h4 : k < hf ls.length := by have := of_decide_eq_true h4; omega
            have hpl := pth_len (ls := ls.take (hf ls.length)) (k : Int)
            obtain ⟨f1, f2⟩ := pth_in (ls := ls.take (hf ls.length)) (i := k) (by omega)
            rw [if_pos h4, List.length_append, List.length_map, ← f1, snocQ]
            refine ⟨by and_intros <;> first | rfl | trivial | omega, ⟨_, _, rfl, okLs_take hls _, by omega, by omega, by omega⟩, by and_intros <;> first | rfl | trivial | omega, by and_intros <;> first | rfl | trivial | omega | exact ⟨_, rfl, okLs_drop hls _⟩, ?_⟩
            simp only [List.length_cons, List.length_nil]
            and_intros <;> first | rfl | trivial | omega | exact ⟨_, rfl, okLs_drop hls _⟩
          · rename_i h4
            have h4 : ¬ k < hf ls.length := by have := of_decide_eq_false h4; omega
            have e5 : IntKind.i64.wrap ((k : Int) - (hf ls.length : Int)) = ((k - hf ls.length : Nat) : Int) := by rw [wi (by omega) (by omega)]; omega
            have hpl := pth_len (ls := ls.drop (hf ls.length)) ((k - hf ls.length : Nat) : Int)
            obtain ⟨f1, f2⟩ := pth_in (ls := ls.drop (hf ls.length)) (i := k - hf ls.length) (by omega)
            simp only [e5]
            rw [if_neg h4, List.length_append, List.length_map, ← f1, snocQ]
            refine ⟨by and_intros <;> first | rfl | trivial | omega, ⟨_, _, rfl, okLs_drop hls _, by omega, by omega, by omega⟩, by and_intros <;> first | rfl | trivial | omega, by and_intros <;> first | rfl | trivial | omega | exact ⟨_, rfl, okLs_take hls _⟩, ?_⟩
            simp only [List.length_cons, List.length_nil]
            and_intros <;> first | rfl | trivial | omega | exact ⟨_, rfl, okLs_take hls _⟩
set_option maxRecDepth 100000 in
theorem m18 : MeetsQ Tryd.prog 18 sp18 := by
  have h := m18n 61
  unfold MeetsQ MeetsP at h ⊢
  rw [show ioFlag (sp18n 61) = true by kernel_rfl, show lnkF (sp18n 61).ps = none by kernel_rfl, show isIo (sp18n 61) = false by kernel_rfl, show rwE (sp18n 61).ps = some 28 by kernel_rfl] at h
  rw [show ioFlag sp18 = true by kernel_rfl, show lnkF sp18.ps = none by kernel_rfl, show isIo sp18 = false by kernel_rfl, show rwE sp18.ps = some 28 by kernel_rfl]
  exact fun ds ⟨ls, i, e, hls, h1, h2⟩ => h ds ⟨ls, i, e, hls, by have := hls.2; omega, h1, h2⟩

set_option maxRecDepth 100000 in
theorem m14 : Meets Tryd.prog 14 sp14 := by
  refine meets_of_owed (C := c0) ⟨tab_ok, fun f s h => by cases h⟩ (by kernel_rfl) (by kernel_rfl : Tryd.prog.funcs[14]? = some Tryd.f14) (by kernel_rfl) (by kernel_rfl) (by kernel_rfl) _ ?_
  rintro _ ⟨a, b, rfl, ha, hb⟩
  have ha60 := ha.2
  refine ⟨fun _ => rfl, inv14 a b, ?_⟩
  show owed c0 (inv14 a b) Tryd.f14 [PD a, PD b] (bl (eqQ (qsOf (PD a)) (qsOf (PD b))))
  rw [vc14]
  have eq1 : ∀ {x y : List (List Int)}, x = y → eqQ x y = true := fun h => by unfold eqQ; exact @decide_eq_true _ (Classical.propDecidable _) h
  have eq0 : ∀ {x y : List (List Int)}, x ≠ y → eqQ x y = false := fun h => by unfold eqQ; exact @decide_eq_false _ (Classical.propDecidable _) h
  simp (decide := true) only [qsOf_PD, List.length_map, Int.toNat_natCast, List.take_zero, eq_self, true_and, and_true, ne_eq, not_false_eq_true, Nat.zero_le, show Int.toNat 0 = 0 from rfl]
  split
  · rename_i h
    have h : a.length ≠ b.length := by
      intro h3
      rw [h3] at h
      simp at h
    rw [eq0 (fun e => h (by rw [e]))]
  · rename_i h
    have h : a.length = b.length := by
      have : ((a.length : Int) == (b.length : Int)) = true := by simpa [bne] using h
      have := eq_of_beq this
      omega
    refine ⟨rfl, ?_⟩
    rintro k ⟨hk, ht⟩
    split
    · rename_i h2
      have h2 : k < a.length := by have := of_decide_eq_true h2; omega
      have e2 : IntKind.i64.wrap ((k : Int) + 1) = ((k + 1 : Nat) : Int) := by rw [wi (by omega) (by omega)]; omega
      have ei : ∀ l, arrOf (D.arr .u8 32 l) = l := fun l => rfl
      simp only [getQ (qs := a) (k := k) h2, getQ (qs := b) (k := k) (by omega), e2, Int.toNat_natCast, ei]
      refine ⟨by and_intros <;> first | rfl | trivial | omega, by and_intros <;> first | rfl | trivial | omega, ?_⟩
      split
      · rename_i h3
        have h3 : a.getD k [] ≠ b.getD k [] := eqB_not.1 (by simpa using h3)
        rw [eq0 (fun e => h3 (by rw [e]))]
      · rename_i h3
        have h3 : a.getD k [] = b.getD k [] := eqB_iff.1 (by simpa using h3)
        have e9 : a.take (k + 1) = b.take (k + 1) := by rw [take_succ' a h2, take_succ' b (by omega), ht, h3]
        and_intros <;> first | rfl | trivial | omega | exact e9
    · rename_i h2
      have h2 : k = a.length := by have := of_decide_eq_false h2; omega
      rw [h2, List.take_of_length_le (Nat.le_refl _), h, List.take_of_length_le (Nat.le_refl _)] at ht
      rw [eq1 ht]

set_option maxRecDepth 100000 in
theorem m19 : Meets Tryd.prog 19 sp19 := by
  refine meets_of_owed (C := c19) ⟨tab_ok, lkS_ok ⟨m72, m73, trivial⟩⟩ (by kernel_rfl) (by kernel_rfl : Tryd.prog.funcs[19]? = some Tryd.f19) (by kernel_rfl) (by kernel_rfl) (by kernel_rfl) _ ?_
  rintro _ ⟨ls, i, rfl, hls, hi1, hi2⟩
  have hl := hls.1
  have h60 := hls.2
  refine ⟨(by intro h; cases h), inv19 ls i, ?_⟩
  show owed c19 (inv19 ls i) Tryd.f19 [LD ls, i64 i] (.tup [PD (pthL (lsOf (LD ls)) i), i64 (pthE (lsOf (LD ls)) i)])
  rw [vc19]
  have hlm : (ls.map leafL).length = ls.length := List.length_map ..
  have q0 : qsOf (.slc 32 []) = [] := rfl
  simp (decide := true) only [lsOf_LD, qsOf_PD, q0, List.length_map, Int.toNat_natCast, eq_self, true_and, and_true, ne_eq, not_false_eq_true, List.map_nil, List.nil_append, List.length_nil, Nat.zero_le]
  split
  · rename_i h
    have h := of_decide_eq_true h
    obtain ⟨e1, e2⟩ := pth_out (ls := ls) (i := i) (.inl h)
    rw [e1, e2]
    first | rfl | trivial
  · rename_i h
    have h : 0 ≤ i := by have := of_decide_eq_false h; omega
    split
    · rename_i h2
      have h2 := of_decide_eq_true h2
      obtain ⟨e1, e2⟩ := pth_out (ls := ls) (i := i) (.inr h2)
      rw [e1, e2]
      first | rfl | trivial
    · rename_i h2
      have h2 : i < ls.length := by have := of_decide_eq_false h2; omega
      obtain ⟨k, rfl⟩ := Int.eq_ofNat_of_zero_le h
      have hk : k < ls.length := by omega
      obtain ⟨e1, e2⟩ := pth_in hk
      rw [Int.toNat_natCast]
      refine ⟨⟨ls, rfl, hls⟩, ?_, ?_⟩
      · have e3 := ptR_pf (ds := ls.map leafL) (i := k) (by omega)
        rw [e1, e3]
        have := okQs_leaves hls
        and_intros <;> first | rfl | trivial | omega | exact this.1 | exact this.2 | (intro l hl2; cases hl2)
      rintro ⟨qs, j, acc⟩ ⟨hq, h1, hj, hal, had, hpt⟩
      simp only at hq h1 hj hal had hpt ⊢
      have hq60 := hq.2
      have hfl := flL_len qs
      have hqf := okQs_fl hq
      split
      · rename_i h3
        have h3 : 1 < qs.length := by have := of_decide_eq_true h3; omega
        have x0 := xor1 j
        have ex := xor_i64 (k := j) (by omega)
        have et : IntKind.i64.wrap ((j : Int).tdiv 2) = ((j / 2 : Nat) : Int) := by
          have := tdivN j 2
          rw [show ((2 : Nat) : Int) = 2 from rfl] at this
          rw [this, wi (by omega) (by omega)]
        have s1 := pfR_step (ds := qs) j (by omega)
        simp only [ex, et, Int.toNat_natCast]
        split
        · rename_i h4
          have h4 : j ^^^ 1 < qs.length := by have := of_decide_eq_true h4; omega
          have hs : sbL qs j = [qs.getD (j ^^^ 1) []] := by unfold sbL; rw [if_pos h4]
          have ei : ∀ l, arrOf (D.arr .u8 32 l) = l := fun l => rfl
          have e9 : acc ++ [qs.getD (j ^^^ 1) []] ++ pfR (flL qs) (j / 2) = pthL ls (k : Int) := by rw [← hpt, s1, hs, List.append_assoc]
          have e10 : ∀ l ∈ acc ++ [qs.getD (j ^^^ 1) []], isD l := by
            intro l hl
            rcases List.mem_append.1 hl with hl | hl
            · exact had l hl
            · rw [List.mem_singleton.1 hl]
              exact hq.1 _ (mem_getD h4)
          simp only [getQ h4, ei, snocQ, qsOf_PD, List.length_map, List.length_append, List.length_cons, List.length_nil]
          and_intros <;> first | rfl | trivial | omega | exact hqf.1 | exact hqf.2 | exact e9 | exact e10 | exact ⟨_, rfl, hq⟩
        · rename_i h4
          have h4 : ¬ j ^^^ 1 < qs.length := by have := of_decide_eq_false h4; omega
          have hs : sbL qs j = [] := by unfold sbL; rw [if_neg h4]
          have e9 : acc ++ pfR (flL qs) (j / 2) = pthL ls (k : Int) := by rw [← hpt, s1, hs, List.nil_append]
          and_intros <;> first | rfl | trivial | omega | exact hqf.1 | exact hqf.2 | exact e9 | exact had | exact ⟨_, rfl, hq⟩
      · rename_i h3
        have h3 : qs.length = 1 := by have := of_decide_eq_false h3; omega
        rw [pfR_one j (by omega), List.append_nil] at hpt
        rw [hpt, e2]

end Go.Proofs.YtkicjckhkefnpaaDoor
/- logs: peaks from the bottom up as from the top down (no program in sight). -/
namespace Go.Proofs.YtkicjckhkefnpaaDoor
open Go Go.Vg

def pkf : Nat → List (List Int) → List (List Int)
  | 0, _ => []
  | f + 1, ds => if ds.length = 0 then [] else if ds.length % 2 = 0 then pkf f (flL ds) else pkf f (flL (ds.take (ds.length - 1))) ++ [ds.getD (ds.length - 1) []]
/-- The peaks of a log. -/
def pkR (ds : List (List Int)) : List (List Int) := pkf ds.length ds
def adf : Nat → Nat → List (List Int) → List Int → List (List Int)
  | 0, _, ps, d => ps ++ [d]
  | f + 1, n, ps, d => if n % 2 = 1 then adf f (n / 2) (ps.take (ps.length - 1)) (nodeL (ps.getD (ps.length - 1) []) d) else ps ++ [d]
/-- A digest comes in addition, behind n others. -/
def adR (n : Nat) (ps : List (List Int)) (d : List Int) : List (List Int) := adf n n ps d
/-- The root that the peaks make. -/
def rpR : List (List Int) → List Int
  | [] => []
  | [x] => x
  | x :: y :: t => nodeL x (rpR (y :: t))

theorem pkf_eq : ∀ (f g : Nat) (ds : List (List Int)), ds.length ≤ f → ds.length ≤ g → pkf f ds = pkf g ds
  | 0, 0, _, _, _ => rfl
  | 0, g + 1, ds, h, _ => by
    simp only [pkf]
    rw [if_pos (by omega)]
  | f + 1, 0, ds, _, h => by
    simp only [pkf]
    rw [if_pos (by omega)]
  | f + 1, g + 1, ds, h1, h2 => by
    have hfl := flL_len ds
    have hfl2 := flL_len (ds.take (ds.length - 1))
    have ht : (ds.take (ds.length - 1)).length = ds.length - 1 := by rw [List.length_take]; omega
    simp only [pkf]
    by_cases h0 : ds.length = 0
    · rw [if_pos h0, if_pos h0]
    · rw [if_neg h0, if_neg h0]
      by_cases h1 : ds.length % 2 = 0
      · rw [if_pos h1, if_pos h1, pkf_eq f g (flL ds) (by omega) (by omega)]
      · rw [if_neg h1, if_neg h1, pkf_eq f g (flL (ds.take (ds.length - 1))) (by omega) (by omega)]
theorem pkR_nil : pkR [] = [] := rfl
theorem pkR_even {ds : List (List Int)} (h : ds.length % 2 = 0) : pkR ds = pkR (flL ds) := by
  have hfl := flL_len ds
  by_cases h0 : ds.length = 0
  · rw [List.length_eq_zero_iff.1 h0]
    simp [flL]
  · obtain ⟨n, hn⟩ : ∃ n, ds.length = n + 1 := ⟨ds.length - 1, by omega⟩
    have e : pkR ds = pkf (n + 1) ds := by unfold pkR; rw [hn]
    rw [e]
    simp only [pkf]
    rw [if_neg h0, if_pos h]
    unfold pkR
    exact pkf_eq _ _ _ (by omega) (Nat.le_refl _)
theorem pkR_odd {es : List (List Int)} (x : List Int) (h : es.length % 2 = 0) : pkR (es ++ [x]) = pkR (flL es) ++ [x] := by
  have hfl := flL_len es
  have hl : (es ++ [x]).length = es.length + 1 := by simp
  have e : pkR (es ++ [x]) = pkf (es.length + 1) (es ++ [x]) := by unfold pkR; rw [hl]
  rw [e]
  simp only [pkf, hl]
  rw [if_neg (by omega), if_neg (by omega), show es.length + 1 - 1 = es.length by omega, List.take_left' rfl]
  unfold pkR
  rw [pkf_eq es.length (flL es).length _ (by omega) (Nat.le_refl _)]
  congr 2
  rw [List.getD_eq_getElem?_getD, List.getElem?_append_right (Nat.le_refl _), Nat.sub_self]
  rfl
theorem fl_two : ∀ (m : Nat) (l : List (List Int)) (a b : List Int), l.length = 2 * m → flL (l ++ [a, b]) = flL l ++ [nodeL a b] := by
  intro m
  induction m with
  | zero =>
    intro l a b h
    obtain rfl := List.length_eq_zero_iff.1 (by omega : l.length = 0)
    simp [flL]
  | succ m ih =>
    intro l a b h
    match l, h with
    | x :: y :: t, h =>
      simp only [List.cons_append, flL]
      rw [ih t a b (by simp at h; omega)]
    | [x], h => simp at h; omega
    | [], h => simp at h
theorem adf_pk : ∀ (f : Nat) (ds : List (List Int)) (d : List Int), ds.length ≤ f → adf f ds.length (pkR ds) d = pkR (ds ++ [d])
  | 0, ds, d, h => by
    obtain rfl := List.length_eq_zero_iff.1 (by omega : ds.length = 0)
    have := pkR_odd (es := []) d rfl
    simpa [adf, flL, pkR_nil] using this.symm
  | f + 1, ds, d, h => by
    simp only [adf]
    by_cases h1 : ds.length % 2 = 1
    · obtain ⟨es, x, rfl⟩ : ∃ es x, ds = es ++ [x] := by
        have hne : ds ≠ [] := by rintro rfl; simp at h1
        exact ⟨ds.dropLast, ds.getLast hne, (List.dropLast_concat_getLast hne).symm⟩
      have hl : (es ++ [x]).length = es.length + 1 := by simp
      rw [hl] at h h1
      have hfl := flL_len es
      have hp := pkR_odd x (es := es) (by omega)
      rw [hl, if_pos h1, hp]
      have e1 : (pkR (flL es) ++ [x]).take ((pkR (flL es) ++ [x]).length - 1) = pkR (flL es) := by simp
      have e2 : (pkR (flL es) ++ [x]).getD ((pkR (flL es) ++ [x]).length - 1) [] = x := by simp [List.getD_eq_getElem?_getD]
      have ih := adf_pk f (flL es) (nodeL x d) (by omega)
      rw [e1, e2, show (es.length + 1) / 2 = (flL es).length by omega, ih, List.append_assoc]
      rw [pkR_even (ds := es ++ ([x] ++ [d])) (by simp; omega), show [x] ++ [d] = [x, d] from rfl, fl_two (es.length / 2) es x d (by omega)]
    · rw [if_neg h1, pkR_even (by omega : ds.length % 2 = 0), pkR_odd d (by omega)]
theorem adR_pk (ds : List (List Int)) (d : List Int) : adR ds.length (pkR ds) d = pkR (ds ++ [d]) := adf_pk _ ds d (Nat.le_refl _)
theorem adf_eq : ∀ (f g n : Nat) (ps : List (List Int)) (d : List Int), n ≤ f → n ≤ g → adf f n ps d = adf g n ps d
  | 0, 0, _, _, _, _, _ => rfl
  | 0, g + 1, n, ps, d, h, _ => by
    obtain rfl : n = 0 := by omega
    rfl
  | f + 1, 0, n, ps, d, _, h => by
    obtain rfl : n = 0 := by omega
    rfl
  | f + 1, g + 1, n, ps, d, h1, h2 => by
    simp only [adf]
    by_cases h : n % 2 = 1
    · rw [if_pos h, if_pos h, adf_eq f g _ _ _ (by omega) (by omega)]
    · rw [if_neg h, if_neg h]
theorem adR_odd {n : Nat} (h : n % 2 = 1) (ps : List (List Int)) (d : List Int) : adR n ps d = adR (n / 2) (ps.take (ps.length - 1)) (nodeL (ps.getD (ps.length - 1) []) d) := by
  obtain ⟨m, rfl⟩ : ∃ m, n = m + 1 := ⟨n - 1, by omega⟩
  unfold adR
  rw [show adf (m + 1) (m + 1) ps d = if (m + 1) % 2 = 1 then adf m ((m + 1) / 2) (ps.take (ps.length - 1)) (nodeL (ps.getD (ps.length - 1) []) d) else ps ++ [d] from rfl, if_pos h]
  exact adf_eq _ _ _ _ _ (by omega) (Nat.le_refl _)
theorem adR_even {n : Nat} (h : n % 2 = 0) (ps : List (List Int)) (d : List Int) : adR n ps d = ps ++ [d] := by
  unfold adR
  cases n with
  | zero => rfl
  | succ n =>
    simp only [adf]
    rw [if_neg (by omega)]
/-- How many ones stand at the end: so many peaks, at least. -/
def onF : Nat → Nat → Nat
  | 0, _ => 0
  | f + 1, n => if n % 2 = 1 then onF f (n / 2) + 1 else 0
def onR (n : Nat) : Nat := onF n n
theorem onF_eq : ∀ (f g n : Nat), n ≤ f → n ≤ g → onF f n = onF g n
  | 0, 0, _, _, _ => rfl
  | 0, g + 1, n, h, _ => by
    obtain rfl : n = 0 := by omega
    rfl
  | f + 1, 0, n, _, h => by
    obtain rfl : n = 0 := by omega
    rfl
  | f + 1, g + 1, n, h1, h2 => by
    simp only [onF]
    by_cases h : n % 2 = 1
    · rw [if_pos h, if_pos h, onF_eq f g _ (by omega) (by omega)]
    · rw [if_neg h, if_neg h]
theorem onR_odd {n : Nat} (h : n % 2 = 1) : onR n = onR (n / 2) + 1 := by
  obtain ⟨m, rfl⟩ : ∃ m, n = m + 1 := ⟨n - 1, by omega⟩
  unfold onR
  rw [show onF (m + 1) (m + 1) = if (m + 1) % 2 = 1 then onF m ((m + 1) / 2) + 1 else 0 from rfl, if_pos h, onF_eq m ((m + 1) / 2) _ (by omega) (Nat.le_refl _)]
theorem onR_pk : ∀ (n : Nat) (ds : List (List Int)), ds.length ≤ n → onR ds.length ≤ (pkR ds).length
  | n, ds, h => by
    by_cases h1 : ds.length % 2 = 1
    · obtain ⟨es, x, rfl⟩ : ∃ es x, ds = es ++ [x] := by
        have hne : ds ≠ [] := by rintro rfl; simp at h1
        exact ⟨ds.dropLast, ds.getLast hne, (List.dropLast_concat_getLast hne).symm⟩
      have hl : (es ++ [x]).length = es.length + 1 := by simp
      rw [hl] at h h1
      cases n with
      | zero => omega
      | succ n =>
        have hfl := flL_len es
        have ih := onR_pk n (flL es) (by omega)
        rw [hl, onR_odd h1, pkR_odd x (by omega), show (es.length + 1) / 2 = (flL es).length by omega, List.length_append]
        simp
        exact ih
    · have : ∀ m, ¬ m % 2 = 1 → onR m = 0 := by
        intro m hm
        unfold onR
        cases m with
        | zero => rfl
        | succ m =>
          simp only [onF]
          rw [if_neg hm]
      rw [this _ h1]
      omega
theorem pk_len : ∀ (n : Nat) (ds : List (List Int)), ds.length ≤ n → (pkR ds).length ≤ ds.length
  | n, ds, h => by
    by_cases h0 : ds.length = 0
    · rw [List.length_eq_zero_iff.1 h0]; exact Nat.le_refl _
    · cases n with
      | zero => omega
      | succ n =>
        by_cases h1 : ds.length % 2 = 1
        · obtain ⟨es, x, rfl⟩ : ∃ es x, ds = es ++ [x] := by
            have hne : ds ≠ [] := by rintro rfl; simp at h1
            exact ⟨ds.dropLast, ds.getLast hne, (List.dropLast_concat_getLast hne).symm⟩
          have hl : (es ++ [x]).length = es.length + 1 := by simp
          rw [hl] at h h1
          have hfl := flL_len es
          have ih := pk_len n (flL es) (by omega)
          rw [hl, pkR_odd x (by omega), List.length_append]
          simp
          omega
        · have hfl := flL_len ds
          have ih := pk_len n (flL ds) (by omega)
          rw [pkR_even (by omega)]
          omega
theorem pk_D : ∀ (n : Nat) (ds : List (List Int)), ds.length ≤ n → (∀ d ∈ ds, isD d) → ∀ d ∈ pkR ds, isD d
  | n, ds, h, hd => by
    intro q hq
    by_cases h0 : ds.length = 0
    · rw [List.length_eq_zero_iff.1 h0] at hq; cases hq
    · cases n with
      | zero => omega
      | succ n =>
        by_cases h1 : ds.length % 2 = 1
        · obtain ⟨es, x, rfl⟩ : ∃ es x, ds = es ++ [x] := by
            have hne : ds ≠ [] := by rintro rfl; simp at h1
            exact ⟨ds.dropLast, ds.getLast hne, (List.dropLast_concat_getLast hne).symm⟩
          have hl : (es ++ [x]).length = es.length + 1 := by simp
          rw [hl] at h h1
          have hfl := flL_len es
          rw [pkR_odd x (by omega)] at hq
          rcases List.mem_append.1 hq with hq | hq
          · exact pk_D n (flL es) (by omega) (flL_D _ es (Nat.le_refl _) fun d h => hd d (by simp [h])) q hq
          · rw [List.mem_singleton.1 hq]
            exact hd x (by simp)
        · have hfl := flL_len ds
          rw [pkR_even (by omega)] at hq
          exact pk_D n (flL ds) (by omega) (flL_D _ ds (Nat.le_refl _) hd) q hq
/-- The greatest power of two that is in n. -/
def gp (n : Nat) : Nat := 2 ^ Nat.log2 n
theorem gp_unique {n j : Nat} (h1 : 2 ^ j ≤ n) (h2 : n < 2 * 2 ^ j) : gp n = 2 ^ j := by
  have hp : 0 < 2 ^ j := Nat.two_pow_pos j
  unfold gp
  rw [(Nat.log2_eq_iff (n := n) (k := j) (by omega)).2 ⟨h1, by rw [Nat.pow_succ]; omega⟩]
theorem gp_spec {n : Nat} (h : 1 ≤ n) : ∃ j, gp n = 2 ^ j ∧ gp n ≤ n ∧ n < 2 * gp n := by
  refine ⟨Nat.log2 n, rfl, ?_, ?_⟩
  · exact Nat.log2_self_le (n := n) (by omega)
  · have := Nat.lt_log2_self (n := n)
    unfold gp
    rw [Nat.pow_succ] at this
    omega
theorem gp_half {n : Nat} (h : 2 ≤ n) : gp n = 2 * gp (n / 2) := by
  obtain ⟨j, e, k1, k2⟩ := gp_spec (n := n) (by omega)
  obtain ⟨j', rfl⟩ : ∃ j', j = j' + 1 := ⟨j - 1, by
    rcases Nat.eq_zero_or_pos j with rfl | h
    · rw [e, Nat.pow_zero] at k2; omega
    · omega⟩
  have ek : gp n = 2 * 2 ^ j' := by rw [e, Nat.pow_succ]; omega
  rw [gp_unique (n := n / 2) (j := j') (by omega) (by omega), ek]
theorem pk_top : ∀ (n : Nat) (ds : List (List Int)), ds.length ≤ n → 1 ≤ ds.length → pkR ds = trR (ds.take (gp ds.length)) :: pkR (ds.drop (gp ds.length))
  | 0, ds, h, h1 => by omega
  | n + 1, ds, h, h1 => by
    by_cases h2 : ds.length = 1
    · match ds, h2 with
      | [x], _ =>
        have e1 : gp 1 = 1 := gp_unique (j := 0) (by decide) (by decide)
        show pkR [x] = trR (List.take (gp 1) [x]) :: pkR (List.drop (gp 1) [x])
        rw [e1]
        have := pkR_odd (es := []) x rfl
        have e2 : trR [x] = x := rfl
        simpa [flL, pkR_nil, e2] using this
    · have hh := gp_half (n := ds.length) (by omega)
      obtain ⟨_, _, k1, k2⟩ := gp_spec (n := ds.length) (by omega)
      obtain ⟨_, _, k3, k4⟩ := gp_spec (n := ds.length / 2) (by omega)
      by_cases h3 : ds.length % 2 = 1
      · obtain ⟨es, x, rfl⟩ : ∃ es x, ds = es ++ [x] := by
          have hne : ds ≠ [] := by rintro rfl; simp at h3
          exact ⟨ds.dropLast, ds.getLast hne, (List.dropLast_concat_getLast hne).symm⟩
        have hl : (es ++ [x]).length = es.length + 1 := by simp
        rw [hl] at h h1 h2 hh k1 k2 k3 k4 h3 ⊢
        have hfl := flL_len es
        have ih := pk_top n (flL es) (by omega) (by omega)
        rw [show (flL es).length = (es.length + 1) / 2 by omega, ← fl_take, ← fl_drop, ← hh, trR_fl _ (es.take (gp (es.length + 1))) (Nat.le_refl _) (by rw [List.length_take]; omega)] at ih
        rw [pkR_odd x (by omega), ih, List.take_append_of_le_length (by omega), List.drop_append_of_le_length (by omega), pkR_odd x (by rw [List.length_drop]; omega)]
        rfl
      · have hfl := flL_len ds
        have ih := pk_top n (flL ds) (by omega) (by omega)
        rw [show (flL ds).length = ds.length / 2 by omega, ← fl_take, ← fl_drop, ← hh, trR_fl _ (ds.take (gp ds.length)) (Nat.le_refl _) (by rw [List.length_take]; omega)] at ih
        rw [pkR_even (by omega), ih, ← pkR_even (by rw [List.length_drop]; omega)]
theorem rp_pk : ∀ (n : Nat) (ds : List (List Int)), ds.length ≤ n → 1 ≤ ds.length → rpR (pkR ds) = trR ds
  | 0, ds, h, h1 => by omega
  | n + 1, ds, h, h1 => by
    obtain ⟨j, e, k1, k2⟩ := gp_spec (n := ds.length) h1
    have ht := pk_top _ ds (Nat.le_refl _) h1
    by_cases h2 : gp ds.length = ds.length
    · rw [ht, h2, List.take_of_length_le (Nat.le_refl _), List.drop_eq_nil_of_le (Nat.le_refl _)]
      rfl
    · have hp : 0 < gp ds.length := by rw [e]; exact Nat.two_pow_pos j
      have hdl : (ds.drop (gp ds.length)).length = ds.length - gp ds.length := List.length_drop
      have ih := rp_pk n (ds.drop (gp ds.length)) (by omega) (by omega)
      have ht2 := pk_top _ (ds.drop (gp ds.length)) (Nat.le_refl _) (by omega)
      rw [ht2] at ih
      have hf1 : hf ds.length = gp ds.length := by rw [e]; exact hf_unique (by omega) (by omega)
      rw [ht, ht2, rpR, ih, trR_step (ds := ds) (by omega), hf1]

end Go.Proofs.YtkicjckhkefnpaaDoor
/- package tree's logs and the reference's peaks: what they owe. -/
namespace Go.Proofs.YtkicjckhkefnpaaDoor
open Go Go.Vg

abbrev LG (n : Int) (ps : List (List Int)) : D := .st [i64 n, PD ps]
def unR : D → D
  | .ref x => x
  | d => d
def lgN (d : D) : Int := numOf (fldOf d 0)
def lgP (d : D) : List (List Int) := qsOf (fldOf d 1)
def okG (n : Int) (ps : List (List Int)) : Prop := 0 ≤ n ∧ n ≤ 60 ∧ onR n.toNat ≤ ps.length ∧ okQs ps
def rootG (n : Int) (ps : List (List Int)) : List Int := if n = 0 then digL [] else rpR ps
def addG (n : Int) (ps : List (List Int)) (p : List Int) : List (List Int) := adR n.toNat ps (leafL p)
def pkL (ls : List (List Int)) : List (List Int) := pkR (ls.map leafL)
def sp11 : Go.Vg.Spec := ⟨fun ds => ∃ n ps, ds = [.ref (LG n ps)], fun ds => i64 (lgN (unR (ds.headD default))), true, [25]⟩
def sp12 : Go.Vg.Spec := ⟨fun ds => ∃ n ps, ds = [.ref (LG n ps)] ∧ okQs ps ∧ (n ≠ 0 → ps ≠ []), fun ds => d32 (rootG (lgN (unR (ds.headD default))) (lgP (unR (ds.headD default)))), true, [25]⟩
def sp15f : Go.Vg.Spec := ⟨fun ds => ∃ n ps, ds = [.ref (LG n ps)] ∧ okQs ps, fun ds => PD (lgP (unR (ds.headD default))), false, [25, 7000000]⟩
def sp15r : Go.Vg.Spec := ⟨fun ds => ∃ n ps, ds = [.ref (LG n ps)] ∧ okQs ps, fun ds => .tup [PD (lgP (unR (ds.headD default)))], false, [25, 8500028]⟩
def sp16 : Go.Vg.Spec := ⟨fun ds => ∃ ls, ds = [LD ls] ∧ okLs ls, fun ds => PD (pkL (lsOf (ds.headD default))), false, [22]⟩
def sp17 : Go.Vg.Spec := ⟨fun ds => ∃ n ps p, ds = [LG n ps, .ints .u8 p] ∧ (0 ≤ n ∧ n < 60 ∧ onR n.toNat ≤ ps.length ∧ okQs ps ∧ ps.length < 60) ∧ isBytes p ∧ p.length ≤ 140737488351232,
  fun ds => .tup [i64 0, LG (lgN (ds.headD default) + 1) (addG (lgN (ds.headD default)) (lgP (ds.headD default)) (intsOf (ds.getD 1 default)))], false, [9100100028, 26]⟩
def c12 : Ctx := ⟨tab, lkS [(70, sp70), (22, sp22)], [], []⟩
def c15 : Ctx := ⟨tab, fun _ => none, [7], []⟩
def c16 : Ctx := ⟨tab, lkS [(13, sp13)], [3], []⟩
def c17 : Ctx := ⟨tab, lkS [(20, sp20), (22, sp22)], [], [500045, 600000]⟩
def pwI (k : Nat) : Int := if k = 0 then 0 else ((2 ^ (k - 1) : Nat) : Int)
def lgI (z : Int) : Nat := if z = 0 then 0 else Nat.log2 z.toNat + 1
def blkA (s : Go.Vg.St) (b : Nat) : List Int := match Go.Vg.look s.M b with
  | some (.fix d) => arrOf d
  | _ => []
def inv12 (ps : List (List Int)) : Nat → Option Inv
  | 6 => some ⟨Nat, fun k => [(5, .d (i64 ((k : Int) - 1)))], fun k => [(4, .fix (d32 (rpR (ps.drop k))))], fun s => (slotN s 5 + 1).toNat, fun _ k => k < ps.length, fun k => k⟩
  | _ => none
def inv16 (ls : List (List Int)) : Nat → Option Inv
  | 3 => some ⟨Nat × Nat × List (List Int), fun x => [(4, .d (i64 (pwI x.1))), (0, .d (LD (ls.drop x.2.1))), (3, .row 3)], fun x => [(3, .row 28 (PD x.2.2))],
      fun s => (lgI (slotN s 4), ls.length - (lsOf (slotD s 0)).length, rowQ s 3),
      fun _ x => x.1 ≤ 21 ∧ x.2.1 ≤ ls.length ∧ ls.length - x.2.1 < 2 ^ x.1 ∧ x.2.2.length ≤ x.2.1 ∧ x.2.2 ++ pkL (ls.drop x.2.1) = pkL ls, fun x => x.1⟩
  | _ => none
def inv17 (n : Int) (ps : List (List Int)) (p : List Int) : Nat → Option Inv
  | 5 => some ⟨Nat × List (List Int) × List Int, fun x => [(6, .d (i64 ((x.1 : Nat) : Int)))], fun x => [(5, .fix (d32 x.2.2)), (1000, .lnk [i64 n, PD ps] 1 (some 1001)), (1001, .row 28 (PD x.2.1))],
      fun s => ((slotN s 6).toNat, rowQ s 1001, blkA s 5), fun _ x => x.1 ≤ 60 ∧ onR x.1 ≤ x.2.1.length ∧ okQs x.2.1 ∧ x.2.1.length < 60 ∧ isD x.2.2 ∧ adR x.1 x.2.1 x.2.2 = addG n ps p, fun x => x.1⟩
  | _ => none
--KEEP ofR BitVec.toNat prL pr Go.Proofs.YtkicjckhkefnpaaDoor.R8.l wrS ofS okS padL fhK outL sumL fromL digL iv st0 Go.Vg.eqB nodeL leafL hf restB chkB clD clB isP isD okR lsOf qsOf okLs okQs pthL pthE eqQ trR flL ptR pfR rtL pkR adR rpR rootG addG pkL onR pwI lgI
set_option maxRecDepth 100000 in
theorem vc11  (n : Int) (ps : List (List Int)) (F : D)  :
    (owed c0 (fun _ => none) Tryd.f11 [.ref (LG n ps)] F) = (
 True ∧ True ∧ True ∧ (Sk.st [Sk.one, Sk.one] = Sk.st [Sk.one, Sk.one] ∧ (0 : Nat) < (2 : Nat)) ∧ ((1 : Nat) ≠ (0 : Nat) ∧ (1 : Nat) = (1 : Nat) ∧ false = false) ∧ True ∧ (false = false ∧ True) ∧ D.val (Value.int IntKind.i64 n) = F) := by kernel_rfl
set_option maxRecDepth 100000 in
theorem vc12  (n : Int) (ps : List (List Int)) (F : D)  :
    (owed c12 (inv12 ps) Tryd.f12 [.ref (LG n ps)] F) = (
 (True ∧ (32 : Nat) ≠ (0 : Nat)) ∧
   True ∧
    True ∧
     (Sk.st [Sk.one, Sk.one] = Sk.st [Sk.one, Sk.one] ∧ (0 : Nat) < (2 : Nat)) ∧
      ((1 : Nat) ≠ (0 : Nat) ∧ (1 : Nat) = (1 : Nat) ∧ false = false) ∧
       True ∧
        match n == (0 : Int) with
        | true => (∃ (p : List Int), [D.ints IntKind.u8 []] = [D.ints IntKind.u8 p] ∧ isBytes p ∧ p.length ≤ (1000000000000000 : Nat)) ∧ (Sk.arr (32 : Nat) = Sk.arr (32 : Nat) ∧ (32 : Nat) ≠ (0 : Nat) ∧ (32 : Nat) = (32 : Nat) ∧ false = false) ∧ (((32 : Nat) ≠ (0 : Nat) ∧ (32 : Nat) = (32 : Nat) ∧ true = true) ∧ True) ∧ D.arr IntKind.u8 (32 : Nat) (digL []) = F
        | false =>
         True ∧
          True ∧
           (Sk.st [Sk.one, Sk.one] = Sk.st [Sk.one, Sk.one] ∧ (1 : Nat) < (2 : Nat)) ∧
            ((1 : Nat) ≠ (0 : Nat) ∧ (1 : Nat) = (1 : Nat) ∧ false = false) ∧
             True ∧
              True ∧
               True ∧
                True ∧
                 True ∧
                  (Sk.st [Sk.one, Sk.one] = Sk.st [Sk.one, Sk.one] ∧ (1 : Nat) < (2 : Nat)) ∧
                   ((1 : Nat) ≠ (0 : Nat) ∧ (1 : Nat) = (1 : Nat) ∧ false = false) ∧
                    True ∧
                     ((0 : Int) ≤ IntKind.i64.wrap ((↑(List.map (fun (l : List Int) => D.arr IntKind.u8 (32 : Nat) l) ps).length : Int) - (1 : Int)) ∧
                       IntKind.i64.wrap ((↑(List.map (fun (l : List Int) => D.arr IntKind.u8 (32 : Nat) l) ps).length : Int) - (1 : Int)) < (↑(List.map (fun (l : List Int) => D.arr IntKind.u8 (32 : Nat) l) ps).length : Int) ∧
                        (32 : Nat) ≠ (0 : Nat) ∧
                         (32 : Nat) = (32 : Nat) ∧
                          D.arr IntKind.u8 (32 : Nat) (arrOf ((List.map (fun (l : List Int) => D.arr IntKind.u8 (32 : Nat) l) ps).getD (IntKind.i64.wrap ((↑(List.map (fun (l : List Int) => D.arr IntKind.u8 (32 : Nat) l) ps).length : Int) - (1 : Int))).toNat (D.val (Value.bool false)))) =
                           (List.map (fun (l : List Int) => D.arr IntKind.u8 (32 : Nat) l) ps).getD (IntKind.i64.wrap ((↑(List.map (fun (l : List Int) => D.arr IntKind.u8 (32 : Nat) l) ps).length : Int) - (1 : Int))).toNat (D.val (Value.bool false))) ∧
                      ((32 : Nat) ≠ (0 : Nat) ∧ (32 : Nat) = (32 : Nat) ∧ true = true) ∧
                       (True ∧ (32 : Nat) ≠ (0 : Nat)) ∧
                        (Sk.arr (32 : Nat) = Sk.arr (32 : Nat) ∧ (32 : Nat) ≠ (0 : Nat) ∧ (32 : Nat) = (32 : Nat) ∧ false = false) ∧
                         True ∧
                          True ∧
                           True ∧
                            (((AV.d (D.val (Value.int IntKind.i64 (IntKind.i64.wrap (IntKind.i64.wrap ((↑(List.map (fun (l : List Int) => D.arr IntKind.u8 (32 : Nat) l) ps).length : Int) - (1 : Int)) - (1 : Int))))) =
                                 AV.d (D.val (Value.int IntKind.i64 ((↑(IntKind.i64.wrap (IntKind.i64.wrap ((↑(List.map (fun (l : List Int) => D.arr IntKind.u8 (32 : Nat) l) ps).length : Int) - (1 : Int)) - (1 : Int)) + (1 : Int)).toNat : Int) - (1 : Int)))) ∧
                                True) ∧
                               (some
                                   (Blk.fix
                                    (D.arr IntKind.u8 (32 : Nat)
                                     [(0 : Int), (0 : Int), (0 : Int), (0 : Int), (0 : Int), (0 : Int), (0 : Int), (0 : Int), (0 : Int), (0 : Int), (0 : Int), (0 : Int), (0 : Int), (0 : Int), (0 : Int), (0 : Int), (0 : Int), (0 : Int), (0 : Int), (0 : Int), (0 : Int), (0 : Int), (0 : Int), (0 : Int), (0 : Int), (0 : Int), (0 : Int), (0 : Int), (0 : Int),
                                      (0 : Int), (0 : Int), (0 : Int)])) =
                                  some
                                   (Blk.fix
                                    (D.arr IntKind.u8 (32 : Nat)
                                     [(0 : Int), (0 : Int), (0 : Int), (0 : Int), (0 : Int), (0 : Int), (0 : Int), (0 : Int), (0 : Int), (0 : Int), (0 : Int), (0 : Int), (0 : Int), (0 : Int), (0 : Int), (0 : Int), (0 : Int), (0 : Int), (0 : Int), (0 : Int), (0 : Int), (0 : Int), (0 : Int), (0 : Int), (0 : Int), (0 : Int), (0 : Int), (0 : Int), (0 : Int),
                                      (0 : Int), (0 : Int), (0 : Int)])) ∧
                                 some (Blk.fix (D.arr IntKind.u8 (32 : Nat) (arrOf ((List.map (fun (l : List Int) => D.arr IntKind.u8 (32 : Nat) l) ps).getD (IntKind.i64.wrap ((↑(List.map (fun (l : List Int) => D.arr IntKind.u8 (32 : Nat) l) ps).length : Int) - (1 : Int))).toNat (D.val (Value.bool false)))))) =
                                   some (Blk.fix (D.arr IntKind.u8 (32 : Nat) (rpR (List.drop (IntKind.i64.wrap (IntKind.i64.wrap ((↑(List.map (fun (l : List Int) => D.arr IntKind.u8 (32 : Nat) l) ps).length : Int) - (1 : Int)) - (1 : Int)) + (1 : Int)).toNat ps)))) ∧
                                  True) ∧
                                true = true) ∧
                              (IntKind.i64.wrap (IntKind.i64.wrap ((↑(List.map (fun (l : List Int) => D.arr IntKind.u8 (32 : Nat) l) ps).length : Int) - (1 : Int)) - (1 : Int)) + (1 : Int)).toNat < ps.length) ∧
                             ∀ (x : Nat),
                              x < ps.length →
                               true = true ∧
                                True ∧
                                 True ∧
                                  match decide ((↑x : Int) - (1 : Int) ≥ (0 : Int)) with
                                  | true =>
                                   True ∧
                                    True ∧
                                     (Sk.st [Sk.one, Sk.one] = Sk.st [Sk.one, Sk.one] ∧ (1 : Nat) < (2 : Nat)) ∧
                                      ((1 : Nat) ≠ (0 : Nat) ∧ (1 : Nat) = (1 : Nat) ∧ false = false) ∧
                                       True ∧
                                        ((0 : Int) ≤ (↑x : Int) - (1 : Int) ∧
                                          (↑x : Int) - (1 : Int) < (↑(List.map (fun (l : List Int) => D.arr IntKind.u8 (32 : Nat) l) ps).length : Int) ∧
                                           (32 : Nat) ≠ (0 : Nat) ∧
                                            (32 : Nat) = (32 : Nat) ∧
                                             D.arr IntKind.u8 (32 : Nat) (arrOf ((List.map (fun (l : List Int) => D.arr IntKind.u8 (32 : Nat) l) ps).getD ((↑x : Int) - (1 : Int)).toNat (D.val (Value.bool false)))) = (List.map (fun (l : List Int) => D.arr IntKind.u8 (32 : Nat) l) ps).getD ((↑x : Int) - (1 : Int)).toNat (D.val (Value.bool false))) ∧
                                         ((32 : Nat) ≠ (0 : Nat) ∧ (32 : Nat) = (32 : Nat) ∧ true = true) ∧
                                          ((32 : Nat) ≠ (0 : Nat) ∧ (32 : Nat) = (32 : Nat) ∧ true = true) ∧
                                           (∃ (a : List Int),
                                             ∃ (b : List Int),
                                              [D.arr IntKind.u8 (32 : Nat) (arrOf ((List.map (fun (l : List Int) => D.arr IntKind.u8 (32 : Nat) l) ps).getD ((↑x : Int) - (1 : Int)).toNat (D.val (Value.bool false)))), D.arr IntKind.u8 (32 : Nat) (rpR (List.drop x ps))] = [D.arr IntKind.u8 (32 : Nat) a, D.arr IntKind.u8 (32 : Nat) b] ∧ isD a ∧ isD b) ∧
                                            (Sk.arr (32 : Nat) = Sk.arr (32 : Nat) ∧ (32 : Nat) ≠ (0 : Nat) ∧ (32 : Nat) = (32 : Nat) ∧ false = false) ∧
                                             True ∧
                                              True ∧
                                               True ∧
                                                ((AV.d (D.val (Value.int IntKind.i64 (IntKind.i64.wrap ((↑x : Int) - (1 : Int) - (1 : Int))))) = AV.d (D.val (Value.int IntKind.i64 ((↑(IntKind.i64.wrap ((↑x : Int) - (1 : Int) - (1 : Int)) + (1 : Int)).toNat : Int) - (1 : Int)))) ∧ True) ∧
                                                  (some
                                                      (Blk.fix
                                                       (D.arr IntKind.u8 (32 : Nat)
                                                        [(0 : Int), (0 : Int), (0 : Int), (0 : Int), (0 : Int), (0 : Int), (0 : Int), (0 : Int), (0 : Int), (0 : Int), (0 : Int), (0 : Int), (0 : Int), (0 : Int), (0 : Int), (0 : Int), (0 : Int), (0 : Int), (0 : Int), (0 : Int), (0 : Int), (0 : Int), (0 : Int), (0 : Int), (0 : Int), (0 : Int),
                                                         (0 : Int), (0 : Int), (0 : Int), (0 : Int), (0 : Int), (0 : Int)])) =
                                                     some
                                                      (Blk.fix
                                                       (D.arr IntKind.u8 (32 : Nat)
                                                        [(0 : Int), (0 : Int), (0 : Int), (0 : Int), (0 : Int), (0 : Int), (0 : Int), (0 : Int), (0 : Int), (0 : Int), (0 : Int), (0 : Int), (0 : Int), (0 : Int), (0 : Int), (0 : Int), (0 : Int), (0 : Int), (0 : Int), (0 : Int), (0 : Int), (0 : Int), (0 : Int), (0 : Int), (0 : Int), (0 : Int),
                                                         (0 : Int), (0 : Int), (0 : Int), (0 : Int), (0 : Int), (0 : Int)])) ∧
                                                    some (Blk.fix (D.arr IntKind.u8 (32 : Nat) (nodeL (arrOf ((List.map (fun (l : List Int) => D.arr IntKind.u8 (32 : Nat) l) ps).getD ((↑x : Int) - (1 : Int)).toNat (D.val (Value.bool false)))) (rpR (List.drop x ps))))) =
                                                      some (Blk.fix (D.arr IntKind.u8 (32 : Nat) (rpR (List.drop (IntKind.i64.wrap ((↑x : Int) - (1 : Int) - (1 : Int)) + (1 : Int)).toNat ps)))) ∧
                                                     True) ∧
                                                   true = true) ∧
                                                 (IntKind.i64.wrap ((↑x : Int) - (1 : Int) - (1 : Int)) + (1 : Int)).toNat < ps.length ∧ (IntKind.i64.wrap ((↑x : Int) - (1 : Int) - (1 : Int)) + (1 : Int)).toNat < x
                                  | false => ((32 : Nat) ≠ (0 : Nat) ∧ (32 : Nat) = (32 : Nat) ∧ true = true) ∧ (Sk.arr (32 : Nat) = Sk.arr (32 : Nat) ∧ (32 : Nat) ≠ (0 : Nat) ∧ (32 : Nat) = (32 : Nat) ∧ false = false) ∧ (((32 : Nat) ≠ (0 : Nat) ∧ (32 : Nat) = (32 : Nat) ∧ true = true) ∧ True) ∧ D.arr IntKind.u8 (32 : Nat) (rpR (List.drop x ps)) = F) := by kernel_rfl
set_option maxRecDepth 100000 in
theorem vc15  (n : Int) (ps : List (List Int)) (F : D)  :
    (owedRw c15 (fun _ => none) Tryd.f15 28 [.ref (LG n ps)] F) = (
 True ∧
   True ∧
    True ∧
     (Sk.st [Sk.one, Sk.one] = Sk.st [Sk.one, Sk.one] ∧ (1 : Nat) < (2 : Nat)) ∧
      ((1 : Nat) ≠ (0 : Nat) ∧ (1 : Nat) = (1 : Nat) ∧ false = false) ∧
       ((32 : Nat) ≠ (0 : Nat) ∧ (23 : Nat) = (23 : Nat) ∧ true = true ∧ (List.map (fun (l : List Int) => D.arr IntKind.u8 (32 : Nat) l) ps).length ≤ (140737488355328 : Nat) ∧ (List.map (fun (l : List Int) => D.arr IntKind.u8 (32 : Nat) l) ps).length * (32 : Nat) ≤ (140737488355328 : Nat) ∧ (32 : Nat) ≠ (0 : Nat) ∧ (32 : Nat) = (32 : Nat)) ∧
        True ∧ True ∧ (28 : TypeId) = (28 : TypeId) ∧ True ∧ D.tup [D.slc (32 : Nat) (List.map (fun (l : List Int) => D.arr IntKind.u8 (32 : Nat) l) ps)] = F) := by kernel_rfl
set_option maxRecDepth 100000 in
theorem vc16  (ls : List (List Int)) (F : D)  :
    (owed c16 (inv16 ls) Tryd.f16 [LD ls] F) = (
 True ∧
   (32 : Nat) ≠ (0 : Nat) ∧
    True ∧
     (((AV.d (D.val (Value.int IntKind.i64 (1048576 : Int))) = AV.d (D.val (Value.int IntKind.i64 (pwI (lgI (1048576 : Int))))) ∧
         AV.d (D.slc (1 : Nat) (List.map (fun (l : List Int) => D.ints IntKind.u8 l) ls)) = AV.d (D.slc (1 : Nat) (List.map (fun (l : List Int) => D.ints IntKind.u8 l) (List.drop (ls.length - (lsOf (D.slc (1 : Nat) (List.map (fun (l : List Int) => D.ints IntKind.u8 l) ls))).length) ls))) ∧ AV.row (3 : Nat) = AV.row (3 : Nat) ∧ True) ∧
        (some (Blk.row (28 : TypeId) (D.slc (32 : Nat) [])) = some (Blk.row (28 : TypeId) (D.slc (32 : Nat) (List.map (fun (l : List Int) => D.arr IntKind.u8 (32 : Nat) l) (qsOf (D.slc (32 : Nat) []))))) ∧ True) ∧ true = true) ∧
       lgI (1048576 : Int) ≤ (21 : Nat) ∧
        ls.length - (lsOf (D.slc (1 : Nat) (List.map (fun (l : List Int) => D.ints IntKind.u8 l) ls))).length ≤ ls.length ∧
         ls.length - (ls.length - (lsOf (D.slc (1 : Nat) (List.map (fun (l : List Int) => D.ints IntKind.u8 l) ls))).length) < (2 : Nat) ^ lgI (1048576 : Int) ∧
          (qsOf (D.slc (32 : Nat) [])).length ≤ ls.length - (lsOf (D.slc (1 : Nat) (List.map (fun (l : List Int) => D.ints IntKind.u8 l) ls))).length ∧ qsOf (D.slc (32 : Nat) []) ++ pkL (List.drop (ls.length - (lsOf (D.slc (1 : Nat) (List.map (fun (l : List Int) => D.ints IntKind.u8 l) ls))).length) ls) = pkL ls) ∧
      ∀ (x : Nat × Nat × List (List Int)),
       x.fst ≤ (21 : Nat) ∧ x.snd.fst ≤ ls.length ∧ ls.length - x.snd.fst < (2 : Nat) ^ x.fst ∧ x.snd.snd.length ≤ x.snd.fst ∧ x.snd.snd ++ pkL (List.drop x.snd.fst ls) = pkL ls →
        true = true ∧
         True ∧
          True ∧
           match decide (pwI x.fst > (0 : Int)) with
           | true =>
            True ∧
             True ∧
              True ∧
               True ∧
                True ∧
                 match decide (iand IntKind.i64 (↑(List.map (fun (l : List Int) => D.ints IntKind.u8 l) (List.drop x.snd.fst ls)).length : Int) (pwI x.fst) > (0 : Int)) with
                 | true =>
                  True ∧
                   True ∧
                    True ∧
                     ((0 : Int) ≤ (0 : Int) ∧ (0 : Int) ≤ pwI x.fst ∧ pwI x.fst ≤ (↑(List.map (fun (l : List Int) => D.ints IntKind.u8 l) (List.drop x.snd.fst ls)).length : Int) ∧ (1 : Nat) ≠ (0 : Nat) ∧ (1 : Nat) = (1 : Nat)) ∧
                      (∃ (ls_1 : List (List Int)), [D.slc (1 : Nat) (List.drop (0 : Nat) (List.take (pwI x.fst).toNat (List.map (fun (l : List Int) => D.ints IntKind.u8 l) (List.drop x.snd.fst ls))))] = [D.slc (1 : Nat) (List.map (fun (l : List Int) => D.ints IntKind.u8 l) ls_1)] ∧ okLs ls_1) ∧
                       ((1 : Nat) ≤ (4096 : Nat) ∧ (32 : Nat) ≤ (256 : Nat) ∧ (32 : Nat) ≠ (0 : Nat)) ∧
                        ((28 : TypeId) = (28 : TypeId) ∧
                          (23 : Nat) = (23 : Nat) ∧
                           true = true ∧
                            (List.map (fun (l : List Int) => D.arr IntKind.u8 (32 : Nat) l) x.snd.snd ++ [D.arr IntKind.u8 (32 : Nat) (rtL (lsOf (D.slc (1 : Nat) (List.drop (0 : Nat) (List.take (pwI x.fst).toNat (List.map (fun (l : List Int) => D.ints IntKind.u8 l) (List.drop x.snd.fst ls)))))))]).length ≤ (140737488355328 : Nat) ∧
                             (List.map (fun (l : List Int) => D.arr IntKind.u8 (32 : Nat) l) x.snd.snd ++ [D.arr IntKind.u8 (32 : Nat) (rtL (lsOf (D.slc (1 : Nat) (List.drop (0 : Nat) (List.take (pwI x.fst).toNat (List.map (fun (l : List Int) => D.ints IntKind.u8 l) (List.drop x.snd.fst ls)))))))]).length * (32 : Nat) ≤ (140737488355328 : Nat) ∧
                              (32 : Nat) ≠ (0 : Nat) ∧ (32 : Nat) = (32 : Nat)) ∧
                         True ∧
                          True ∧
                           True ∧
                            ((0 : Int) ≤ pwI x.fst ∧
                              pwI x.fst ≤ (↑(List.map (fun (l : List Int) => D.ints IntKind.u8 l) (List.drop x.snd.fst ls)).length : Int) ∧
                               (↑(List.map (fun (l : List Int) => D.ints IntKind.u8 l) (List.drop x.snd.fst ls)).length : Int) ≤ (↑(List.map (fun (l : List Int) => D.ints IntKind.u8 l) (List.drop x.snd.fst ls)).length : Int) ∧ (1 : Nat) ≠ (0 : Nat) ∧ (1 : Nat) = (1 : Nat)) ∧
                             True ∧
                              True ∧
                               (2 : Int) ≠ (0 : Int) ∧
                                True ∧
                                 ((AV.d (D.val (Value.int IntKind.i64 (IntKind.i64.wrap ((pwI x.fst).tdiv (2 : Int))))) = AV.d (D.val (Value.int IntKind.i64 (pwI (lgI (IntKind.i64.wrap ((pwI x.fst).tdiv (2 : Int))))))) ∧
                                    AV.d (D.slc (1 : Nat) (List.drop (pwI x.fst).toNat (List.take (↑(List.map (fun (l : List Int) => D.ints IntKind.u8 l) (List.drop x.snd.fst ls)).length : Int).toNat (List.map (fun (l : List Int) => D.ints IntKind.u8 l) (List.drop x.snd.fst ls))))) =
                                      AV.d
                                       (D.slc (1 : Nat)
                                        (List.map (fun (l : List Int) => D.ints IntKind.u8 l)
                                         (List.drop (ls.length - (lsOf (D.slc (1 : Nat) (List.drop (pwI x.fst).toNat (List.take (↑(List.map (fun (l : List Int) => D.ints IntKind.u8 l) (List.drop x.snd.fst ls)).length : Int).toNat (List.map (fun (l : List Int) => D.ints IntKind.u8 l) (List.drop x.snd.fst ls)))))).length) ls))) ∧
                                     AV.row (3 : Nat) = AV.row (3 : Nat) ∧ True) ∧
                                   (some (Blk.row (28 : TypeId) (D.slc (32 : Nat) (List.map (fun (l : List Int) => D.arr IntKind.u8 (32 : Nat) l) x.snd.snd ++ [D.arr IntKind.u8 (32 : Nat) (rtL (lsOf (D.slc (1 : Nat) (List.drop (0 : Nat) (List.take (pwI x.fst).toNat (List.map (fun (l : List Int) => D.ints IntKind.u8 l) (List.drop x.snd.fst ls)))))))]))) =
                                      some
                                       (Blk.row (28 : TypeId)
                                        (D.slc (32 : Nat)
                                         (List.map (fun (l : List Int) => D.arr IntKind.u8 (32 : Nat) l)
                                          (qsOf (D.slc (32 : Nat) (List.map (fun (l : List Int) => D.arr IntKind.u8 (32 : Nat) l) x.snd.snd ++ [D.arr IntKind.u8 (32 : Nat) (rtL (lsOf (D.slc (1 : Nat) (List.drop (0 : Nat) (List.take (pwI x.fst).toNat (List.map (fun (l : List Int) => D.ints IntKind.u8 l) (List.drop x.snd.fst ls)))))))])))))) ∧
                                     True) ∧
                                    true = true) ∧
                                  (lgI (IntKind.i64.wrap ((pwI x.fst).tdiv (2 : Int))) ≤ (21 : Nat) ∧
                                    ls.length - (lsOf (D.slc (1 : Nat) (List.drop (pwI x.fst).toNat (List.take (↑(List.map (fun (l : List Int) => D.ints IntKind.u8 l) (List.drop x.snd.fst ls)).length : Int).toNat (List.map (fun (l : List Int) => D.ints IntKind.u8 l) (List.drop x.snd.fst ls)))))).length ≤ ls.length ∧
                                     ls.length - (ls.length - (lsOf (D.slc (1 : Nat) (List.drop (pwI x.fst).toNat (List.take (↑(List.map (fun (l : List Int) => D.ints IntKind.u8 l) (List.drop x.snd.fst ls)).length : Int).toNat (List.map (fun (l : List Int) => D.ints IntKind.u8 l) (List.drop x.snd.fst ls)))))).length) <
                                       (2 : Nat) ^ lgI (IntKind.i64.wrap ((pwI x.fst).tdiv (2 : Int))) ∧
                                      (qsOf (D.slc (32 : Nat) (List.map (fun (l : List Int) => D.arr IntKind.u8 (32 : Nat) l) x.snd.snd ++ [D.arr IntKind.u8 (32 : Nat) (rtL (lsOf (D.slc (1 : Nat) (List.drop (0 : Nat) (List.take (pwI x.fst).toNat (List.map (fun (l : List Int) => D.ints IntKind.u8 l) (List.drop x.snd.fst ls)))))))]))).length ≤
                                        ls.length - (lsOf (D.slc (1 : Nat) (List.drop (pwI x.fst).toNat (List.take (↑(List.map (fun (l : List Int) => D.ints IntKind.u8 l) (List.drop x.snd.fst ls)).length : Int).toNat (List.map (fun (l : List Int) => D.ints IntKind.u8 l) (List.drop x.snd.fst ls)))))).length ∧
                                       qsOf (D.slc (32 : Nat) (List.map (fun (l : List Int) => D.arr IntKind.u8 (32 : Nat) l) x.snd.snd ++ [D.arr IntKind.u8 (32 : Nat) (rtL (lsOf (D.slc (1 : Nat) (List.drop (0 : Nat) (List.take (pwI x.fst).toNat (List.map (fun (l : List Int) => D.ints IntKind.u8 l) (List.drop x.snd.fst ls)))))))])) ++
                                         pkL (List.drop (ls.length - (lsOf (D.slc (1 : Nat) (List.drop (pwI x.fst).toNat (List.take (↑(List.map (fun (l : List Int) => D.ints IntKind.u8 l) (List.drop x.snd.fst ls)).length : Int).toNat (List.map (fun (l : List Int) => D.ints IntKind.u8 l) (List.drop x.snd.fst ls)))))).length) ls) =
                                        pkL ls) ∧
                                   lgI (IntKind.i64.wrap ((pwI x.fst).tdiv (2 : Int))) < x.fst
                 | false =>
                  True ∧
                   (2 : Int) ≠ (0 : Int) ∧
                    True ∧
                     ((AV.d (D.val (Value.int IntKind.i64 (IntKind.i64.wrap ((pwI x.fst).tdiv (2 : Int))))) = AV.d (D.val (Value.int IntKind.i64 (pwI (lgI (IntKind.i64.wrap ((pwI x.fst).tdiv (2 : Int))))))) ∧
                        AV.d (D.slc (1 : Nat) (List.map (fun (l : List Int) => D.ints IntKind.u8 l) (List.drop x.snd.fst ls))) = AV.d (D.slc (1 : Nat) (List.map (fun (l : List Int) => D.ints IntKind.u8 l) (List.drop (ls.length - (lsOf (D.slc (1 : Nat) (List.map (fun (l : List Int) => D.ints IntKind.u8 l) (List.drop x.snd.fst ls)))).length) ls))) ∧
                         AV.row (3 : Nat) = AV.row (3 : Nat) ∧ True) ∧
                       (some (Blk.row (28 : TypeId) (D.slc (32 : Nat) (List.map (fun (l : List Int) => D.arr IntKind.u8 (32 : Nat) l) x.snd.snd))) = some (Blk.row (28 : TypeId) (D.slc (32 : Nat) (List.map (fun (l : List Int) => D.arr IntKind.u8 (32 : Nat) l) (qsOf (D.slc (32 : Nat) (List.map (fun (l : List Int) => D.arr IntKind.u8 (32 : Nat) l) x.snd.snd)))))) ∧ True) ∧
                        true = true) ∧
                      (lgI (IntKind.i64.wrap ((pwI x.fst).tdiv (2 : Int))) ≤ (21 : Nat) ∧
                        ls.length - (lsOf (D.slc (1 : Nat) (List.map (fun (l : List Int) => D.ints IntKind.u8 l) (List.drop x.snd.fst ls)))).length ≤ ls.length ∧
                         ls.length - (ls.length - (lsOf (D.slc (1 : Nat) (List.map (fun (l : List Int) => D.ints IntKind.u8 l) (List.drop x.snd.fst ls)))).length) < (2 : Nat) ^ lgI (IntKind.i64.wrap ((pwI x.fst).tdiv (2 : Int))) ∧
                          (qsOf (D.slc (32 : Nat) (List.map (fun (l : List Int) => D.arr IntKind.u8 (32 : Nat) l) x.snd.snd))).length ≤ ls.length - (lsOf (D.slc (1 : Nat) (List.map (fun (l : List Int) => D.ints IntKind.u8 l) (List.drop x.snd.fst ls)))).length ∧
                           qsOf (D.slc (32 : Nat) (List.map (fun (l : List Int) => D.arr IntKind.u8 (32 : Nat) l) x.snd.snd)) ++ pkL (List.drop (ls.length - (lsOf (D.slc (1 : Nat) (List.map (fun (l : List Int) => D.ints IntKind.u8 l) (List.drop x.snd.fst ls)))).length) ls) = pkL ls) ∧
                       lgI (IntKind.i64.wrap ((pwI x.fst).tdiv (2 : Int))) < x.fst
           | false => True ∧ True ∧ (false = false ∧ True) ∧ D.slc (32 : Nat) (List.map (fun (l : List Int) => D.arr IntKind.u8 (32 : Nat) l) x.snd.snd) = F) := by kernel_rfl
set_option maxRecDepth 100000 in
theorem vc17  (n : Int) (ps : List (List Int)) (p : List Int) (F : D)  :
    (owedIoL c17 (inv17 n ps p) Tryd.f17 1 28 [i64 n, PD ps] [.ints .u8 p] F) = (
 True ∧
   true = true ∧
    True ∧
     (Sk.st [Sk.one, Sk.one] = Sk.st [Sk.one, Sk.one] ∧ (0 : Nat) < (2 : Nat)) ∧
      ((1 : Nat) ≠ (0 : Nat) ∧ (1 : Nat) = (1 : Nat) ∧ false = false) ∧
       True ∧
        match n == (65536 : Int) with
        | true => True ∧ (false = false ∧ True) ∧ (1 : Nat) = (1 : Nat) ∧ (28 : TypeId) = (28 : TypeId) ∧ Sk.st [Sk.one, Sk.one] = Sk.st [Sk.one, Sk.one] ∧ D.tup [D.val (Value.int IntKind.i64 (7 : Int)), D.st [D.val (Value.int IntKind.i64 n), D.slc (32 : Nat) (List.map (fun (l : List Int) => D.arr IntKind.u8 (32 : Nat) l) ps)]] = F
        | false =>
         True ∧
          (∃ (p_1 : List Int), [D.ints IntKind.u8 p] = [D.ints IntKind.u8 p_1] ∧ isBytes p_1 ∧ p_1.length ≤ (900000000000000 : Nat)) ∧
           (True ∧ (32 : Nat) ≠ (0 : Nat)) ∧
            (Sk.arr (32 : Nat) = Sk.arr (32 : Nat) ∧ (32 : Nat) ≠ (0 : Nat) ∧ (32 : Nat) = (32 : Nat) ∧ false = false) ∧
             true = true ∧
              True ∧
               (Sk.st [Sk.one, Sk.one] = Sk.st [Sk.one, Sk.one] ∧ (0 : Nat) < (2 : Nat)) ∧
                ((1 : Nat) ≠ (0 : Nat) ∧ (1 : Nat) = (1 : Nat) ∧ false = false) ∧
                 True ∧
                  (((AV.d (D.val (Value.int IntKind.i64 n)) = AV.d (D.val (Value.int IntKind.i64 (↑n.toNat : Int))) ∧ True) ∧
                     (some (Blk.fix (D.arr IntKind.u8 (32 : Nat) (leafL p))) = some (Blk.fix (D.arr IntKind.u8 (32 : Nat) (leafL p))) ∧
                       some (Blk.lnk [D.val (Value.int IntKind.i64 n), D.slc (32 : Nat) (List.map (fun (l : List Int) => D.arr IntKind.u8 (32 : Nat) l) ps)] (1 : Nat) (some (1001 : Nat))) = some (Blk.lnk [D.val (Value.int IntKind.i64 n), D.slc (32 : Nat) (List.map (fun (l : List Int) => D.arr IntKind.u8 (32 : Nat) l) ps)] (1 : Nat) (some (1001 : Nat))) ∧
                        some (Blk.row (28 : TypeId) (D.slc (32 : Nat) (List.map (fun (l : List Int) => D.arr IntKind.u8 (32 : Nat) l) ps))) = some (Blk.row (28 : TypeId) (D.slc (32 : Nat) (List.map (fun (l : List Int) => D.arr IntKind.u8 (32 : Nat) l) (qsOf (D.slc (32 : Nat) (List.map (fun (l : List Int) => D.arr IntKind.u8 (32 : Nat) l) ps)))))) ∧ True) ∧
                      true = true) ∧
                    n.toNat ≤ (60 : Nat) ∧
                     onR n.toNat ≤ (qsOf (D.slc (32 : Nat) (List.map (fun (l : List Int) => D.arr IntKind.u8 (32 : Nat) l) ps))).length ∧
                      okQs (qsOf (D.slc (32 : Nat) (List.map (fun (l : List Int) => D.arr IntKind.u8 (32 : Nat) l) ps))) ∧
                       (qsOf (D.slc (32 : Nat) (List.map (fun (l : List Int) => D.arr IntKind.u8 (32 : Nat) l) ps))).length < (60 : Nat) ∧ isD (leafL p) ∧ adR n.toNat (qsOf (D.slc (32 : Nat) (List.map (fun (l : List Int) => D.arr IntKind.u8 (32 : Nat) l) ps))) (leafL p) = addG n ps p) ∧
                   ∀ (x : Nat × List (List Int) × List Int),
                    x.fst ≤ (60 : Nat) ∧ onR x.fst ≤ x.snd.fst.length ∧ okQs x.snd.fst ∧ x.snd.fst.length < (60 : Nat) ∧ isD x.snd.snd ∧ adR x.fst x.snd.fst x.snd.snd = addG n ps p →
                     true = true ∧
                      True ∧
                       (2 : Int) ≠ (0 : Int) ∧
                        True ∧
                         match (↑x.fst : Int).tmod (2 : Int) == (1 : Int) with
                         | true =>
                          true = true ∧
                           True ∧
                            (Sk.st [Sk.one, Sk.one] = Sk.st [Sk.one, Sk.one] ∧ (1 : Nat) < (2 : Nat)) ∧
                             ((1 : Nat) = (1 : Nat) ∧ false = false) ∧
                              True ∧
                               True ∧
                                True ∧
                                 true = true ∧
                                  True ∧
                                   (Sk.st [Sk.one, Sk.one] = Sk.st [Sk.one, Sk.one] ∧ (1 : Nat) < (2 : Nat)) ∧
                                    ((1 : Nat) = (1 : Nat) ∧ false = false) ∧
                                     True ∧
                                      ((0 : Int) ≤ IntKind.i64.wrap ((↑(List.map (fun (l : List Int) => D.arr IntKind.u8 (32 : Nat) l) x.snd.fst).length : Int) - (1 : Int)) ∧
                                        IntKind.i64.wrap ((↑(List.map (fun (l : List Int) => D.arr IntKind.u8 (32 : Nat) l) x.snd.fst).length : Int) - (1 : Int)) < (↑(List.map (fun (l : List Int) => D.arr IntKind.u8 (32 : Nat) l) x.snd.fst).length : Int) ∧ (32 : Nat) ≠ (0 : Nat) ∧ (32 : Nat) = (32 : Nat)) ∧
                                       ((IntKind.i64.wrap ((↑(List.map (fun (l : List Int) => D.arr IntKind.u8 (32 : Nat) l) x.snd.fst).length : Int) - (1 : Int))).toNat < (List.map (fun (l : List Int) => D.arr IntKind.u8 (32 : Nat) l) x.snd.fst).length ∧
                                         (32 : Nat) ≠ (0 : Nat) ∧
                                          (32 : Nat) = (32 : Nat) ∧
                                           D.arr IntKind.u8 (32 : Nat) (arrOf ((List.map (fun (l : List Int) => D.arr IntKind.u8 (32 : Nat) l) x.snd.fst).getD (IntKind.i64.wrap ((↑(List.map (fun (l : List Int) => D.arr IntKind.u8 (32 : Nat) l) x.snd.fst).length : Int) - (1 : Int))).toNat (D.val (Value.bool false)))) =
                                             (List.map (fun (l : List Int) => D.arr IntKind.u8 (32 : Nat) l) x.snd.fst).getD (IntKind.i64.wrap ((↑(List.map (fun (l : List Int) => D.arr IntKind.u8 (32 : Nat) l) x.snd.fst).length : Int) - (1 : Int))).toNat (D.val (Value.bool false)) ∧
                                            true = true) ∧
                                        ((32 : Nat) ≠ (0 : Nat) ∧ (32 : Nat) = (32 : Nat) ∧ true = true) ∧
                                         (∃ (a : List Int),
                                           ∃ (b : List Int),
                                            [D.arr IntKind.u8 (32 : Nat) (arrOf ((List.map (fun (l : List Int) => D.arr IntKind.u8 (32 : Nat) l) x.snd.fst).getD (IntKind.i64.wrap ((↑(List.map (fun (l : List Int) => D.arr IntKind.u8 (32 : Nat) l) x.snd.fst).length : Int) - (1 : Int))).toNat (D.val (Value.bool false)))),
                                               D.arr IntKind.u8 (32 : Nat) x.snd.snd] =
                                              [D.arr IntKind.u8 (32 : Nat) a, D.arr IntKind.u8 (32 : Nat) b] ∧
                                             isD a ∧ isD b) ∧
                                          (Sk.arr (32 : Nat) = Sk.arr (32 : Nat) ∧ (32 : Nat) ≠ (0 : Nat) ∧ (32 : Nat) = (32 : Nat) ∧ false = false) ∧
                                           true = true ∧
                                            true = true ∧
                                             True ∧
                                              (Sk.st [Sk.one, Sk.one] = Sk.st [Sk.one, Sk.one] ∧ (1 : Nat) < (2 : Nat)) ∧
                                               ((1 : Nat) = (1 : Nat) ∧ false = false) ∧
                                                True ∧
                                                 ((28 : TypeId) = (28 : TypeId) ∧
                                                   (0 : Int) ≤ IntKind.i64.wrap ((↑(List.map (fun (l : List Int) => D.arr IntKind.u8 (32 : Nat) l) x.snd.fst).length : Int) - (1 : Int)) ∧
                                                    IntKind.i64.wrap ((↑(List.map (fun (l : List Int) => D.arr IntKind.u8 (32 : Nat) l) x.snd.fst).length : Int) - (1 : Int)) ≤ (↑(List.map (fun (l : List Int) => D.arr IntKind.u8 (32 : Nat) l) x.snd.fst).length : Int) ∧ (32 : Nat) ≠ (0 : Nat) ∧ (32 : Nat) = (32 : Nat)) ∧
                                                  True ∧
                                                   (Sk.st [Sk.one, Sk.one] = Sk.st [Sk.one, Sk.one] ∧ (1 : Nat) < (2 : Nat)) ∧
                                                    ((1 : Nat) = (1 : Nat) ∧ (1 : Nat) = (1 : Nat)) ∧
                                                     True ∧
                                                      (2 : Int) ≠ (0 : Int) ∧
                                                       True ∧
                                                        ((AV.d (D.val (Value.int IntKind.i64 (IntKind.i64.wrap ((↑x.fst : Int).tdiv (2 : Int))))) = AV.d (D.val (Value.int IntKind.i64 (↑(IntKind.i64.wrap ((↑x.fst : Int).tdiv (2 : Int))).toNat : Int))) ∧ True) ∧
                                                          (some
                                                              (Blk.fix
                                                               (D.arr IntKind.u8 (32 : Nat)
                                                                (nodeL (arrOf ((List.map (fun (l : List Int) => D.arr IntKind.u8 (32 : Nat) l) x.snd.fst).getD (IntKind.i64.wrap ((↑(List.map (fun (l : List Int) => D.arr IntKind.u8 (32 : Nat) l) x.snd.fst).length : Int) - (1 : Int))).toNat (D.val (Value.bool false)))) x.snd.snd))) =
                                                             some
                                                              (Blk.fix
                                                               (D.arr IntKind.u8 (32 : Nat)
                                                                (nodeL (arrOf ((List.map (fun (l : List Int) => D.arr IntKind.u8 (32 : Nat) l) x.snd.fst).getD (IntKind.i64.wrap ((↑(List.map (fun (l : List Int) => D.arr IntKind.u8 (32 : Nat) l) x.snd.fst).length : Int) - (1 : Int))).toNat (D.val (Value.bool false)))) x.snd.snd))) ∧
                                                            some (Blk.lnk [D.val (Value.int IntKind.i64 n), D.slc (32 : Nat) (List.map (fun (l : List Int) => D.arr IntKind.u8 (32 : Nat) l) ps)] (1 : Nat) (some (1001 : Nat))) =
                                                              some (Blk.lnk [D.val (Value.int IntKind.i64 n), D.slc (32 : Nat) (List.map (fun (l : List Int) => D.arr IntKind.u8 (32 : Nat) l) ps)] (1 : Nat) (some (1001 : Nat))) ∧
                                                             some (Blk.row (28 : TypeId) (D.slc (32 : Nat) (List.take (IntKind.i64.wrap ((↑(List.map (fun (l : List Int) => D.arr IntKind.u8 (32 : Nat) l) x.snd.fst).length : Int) - (1 : Int))).toNat (List.map (fun (l : List Int) => D.arr IntKind.u8 (32 : Nat) l) x.snd.fst)))) =
                                                               some
                                                                (Blk.row (28 : TypeId)
                                                                 (D.slc (32 : Nat)
                                                                  (List.map (fun (l : List Int) => D.arr IntKind.u8 (32 : Nat) l)
                                                                   (qsOf (D.slc (32 : Nat) (List.take (IntKind.i64.wrap ((↑(List.map (fun (l : List Int) => D.arr IntKind.u8 (32 : Nat) l) x.snd.fst).length : Int) - (1 : Int))).toNat (List.map (fun (l : List Int) => D.arr IntKind.u8 (32 : Nat) l) x.snd.fst))))))) ∧
                                                              True) ∧
                                                           true = true) ∧
                                                         ((IntKind.i64.wrap ((↑x.fst : Int).tdiv (2 : Int))).toNat ≤ (60 : Nat) ∧
                                                           onR (IntKind.i64.wrap ((↑x.fst : Int).tdiv (2 : Int))).toNat ≤
                                                             (qsOf (D.slc (32 : Nat) (List.take (IntKind.i64.wrap ((↑(List.map (fun (l : List Int) => D.arr IntKind.u8 (32 : Nat) l) x.snd.fst).length : Int) - (1 : Int))).toNat (List.map (fun (l : List Int) => D.arr IntKind.u8 (32 : Nat) l) x.snd.fst)))).length ∧
                                                            okQs (qsOf (D.slc (32 : Nat) (List.take (IntKind.i64.wrap ((↑(List.map (fun (l : List Int) => D.arr IntKind.u8 (32 : Nat) l) x.snd.fst).length : Int) - (1 : Int))).toNat (List.map (fun (l : List Int) => D.arr IntKind.u8 (32 : Nat) l) x.snd.fst)))) ∧
                                                             (qsOf (D.slc (32 : Nat) (List.take (IntKind.i64.wrap ((↑(List.map (fun (l : List Int) => D.arr IntKind.u8 (32 : Nat) l) x.snd.fst).length : Int) - (1 : Int))).toNat (List.map (fun (l : List Int) => D.arr IntKind.u8 (32 : Nat) l) x.snd.fst)))).length < (60 : Nat) ∧
                                                              isD (nodeL (arrOf ((List.map (fun (l : List Int) => D.arr IntKind.u8 (32 : Nat) l) x.snd.fst).getD (IntKind.i64.wrap ((↑(List.map (fun (l : List Int) => D.arr IntKind.u8 (32 : Nat) l) x.snd.fst).length : Int) - (1 : Int))).toNat (D.val (Value.bool false)))) x.snd.snd) ∧
                                                               adR (IntKind.i64.wrap ((↑x.fst : Int).tdiv (2 : Int))).toNat
                                                                 (qsOf (D.slc (32 : Nat) (List.take (IntKind.i64.wrap ((↑(List.map (fun (l : List Int) => D.arr IntKind.u8 (32 : Nat) l) x.snd.fst).length : Int) - (1 : Int))).toNat (List.map (fun (l : List Int) => D.arr IntKind.u8 (32 : Nat) l) x.snd.fst))))
                                                                 (nodeL (arrOf ((List.map (fun (l : List Int) => D.arr IntKind.u8 (32 : Nat) l) x.snd.fst).getD (IntKind.i64.wrap ((↑(List.map (fun (l : List Int) => D.arr IntKind.u8 (32 : Nat) l) x.snd.fst).length : Int) - (1 : Int))).toNat (D.val (Value.bool false)))) x.snd.snd) =
                                                                addG n ps p) ∧
                                                          (IntKind.i64.wrap ((↑x.fst : Int).tdiv (2 : Int))).toNat < x.fst
                         | false =>
                          true = true ∧
                           true = true ∧
                            True ∧
                             (Sk.st [Sk.one, Sk.one] = Sk.st [Sk.one, Sk.one] ∧ (1 : Nat) < (2 : Nat)) ∧
                              ((1 : Nat) = (1 : Nat) ∧ false = false) ∧
                               ((32 : Nat) ≠ (0 : Nat) ∧ (32 : Nat) = (32 : Nat) ∧ true = true) ∧
                                ((1 : Nat) ≤ (4096 : Nat) ∧ (32 : Nat) ≤ (256 : Nat) ∧ (32 : Nat) ≠ (0 : Nat)) ∧
                                 ((28 : TypeId) = (28 : TypeId) ∧
                                   (23 : Nat) = (23 : Nat) ∧
                                    true = true ∧
                                     (List.map (fun (l : List Int) => D.arr IntKind.u8 (32 : Nat) l) x.snd.fst ++ [D.arr IntKind.u8 (32 : Nat) x.snd.snd]).length ≤ (140737488355328 : Nat) ∧
                                      (List.map (fun (l : List Int) => D.arr IntKind.u8 (32 : Nat) l) x.snd.fst ++ [D.arr IntKind.u8 (32 : Nat) x.snd.snd]).length * (32 : Nat) ≤ (140737488355328 : Nat) ∧ (32 : Nat) ≠ (0 : Nat) ∧ (32 : Nat) = (32 : Nat)) ∧
                                  True ∧
                                   (Sk.st [Sk.one, Sk.one] = Sk.st [Sk.one, Sk.one] ∧ (1 : Nat) < (2 : Nat)) ∧
                                    ((1 : Nat) = (1 : Nat) ∧ (1 : Nat) = (1 : Nat)) ∧
                                     true = true ∧
                                      True ∧
                                       (Sk.st [Sk.one, Sk.one] = Sk.st [Sk.one, Sk.one] ∧ (0 : Nat) < (2 : Nat)) ∧
                                        ((1 : Nat) ≠ (0 : Nat) ∧ (1 : Nat) = (1 : Nat) ∧ false = false) ∧
                                         True ∧
                                          True ∧
                                           (Sk.st [Sk.one, Sk.one] = Sk.st [Sk.one, Sk.one] ∧ (0 : Nat) < (2 : Nat)) ∧
                                            (((0 : Nat) < (2 : Nat) ∧ Sk.one = Sk.one) ∧ (1 : Nat) ≠ (0 : Nat) ∧ (1 : Nat) = (1 : Nat) ∧ false = false) ∧
                                             True ∧
                                              (false = false ∧ True) ∧
                                               (1 : Nat) = (1 : Nat) ∧
                                                (28 : TypeId) = (28 : TypeId) ∧
                                                 Sk.st [Sk.one, Sk.one] = Sk.st [Sk.one, Sk.one] ∧
                                                  D.tup [D.val (Value.int IntKind.i64 (0 : Int)), D.st [D.val (Value.int IntKind.i64 (IntKind.i64.wrap (n + (1 : Int)))), D.slc (32 : Nat) (List.map (fun (l : List Int) => D.arr IntKind.u8 (32 : Nat) l) x.snd.fst ++ [D.arr IntKind.u8 (32 : Nat) x.snd.snd])]] = F) := by kernel_rfl
end Go.Proofs.YtkicjckhkefnpaaDoor
/- package tree's logs and the reference's peaks: the proofs. -/
namespace Go.Proofs.YtkicjckhkefnpaaDoor
open Go Go.Vg

theorem lgP_LG (n : Int) (ps : List (List Int)) : lgP (LG n ps) = ps := qsOf_PD ps

set_option maxRecDepth 100000 in
theorem m11 : Meets Tryd.prog 11 sp11 := by
  refine meets_of_owed (C := c0) ⟨tab_ok, fun f s h => by cases h⟩ (by kernel_rfl) (by kernel_rfl : Tryd.prog.funcs[11]? = some Tryd.f11) (by kernel_rfl) (by kernel_rfl) (by kernel_rfl) _ ?_
  rintro _ ⟨n, ps, rfl⟩
  refine ⟨fun _ => rfl, fun _ => none, ?_⟩
  show owed c0 (fun _ => none) Tryd.f11 [.ref (LG n ps)] (i64 n)
  rw [vc11]
  and_intros <;> first | rfl | trivial | omega

theorem rp_drop {ps : List (List Int)} {k : Nat} (h : k + 1 < ps.length) : rpR (ps.drop k) = nodeL (ps.getD k []) (rpR (ps.drop (k + 1))) := by
  have h1 : ps.drop k = ps.getD k [] :: ps.drop (k + 1) := by
    rw [List.drop_eq_getElem_cons (by omega), List.getD_eq_getElem?_getD, List.getElem?_eq_getElem (by omega)]
    rfl
  have h2 : ps.drop (k + 1) = ps.getD (k + 1) [] :: ps.drop (k + 1 + 1) := by
    rw [List.drop_eq_getElem_cons (by omega), List.getD_eq_getElem?_getD, List.getElem?_eq_getElem (by omega)]
    rfl
  rw [h1, h2, rpR]
theorem rp_last {ps : List (List Int)} {k : Nat} (h : k + 1 = ps.length) : rpR (ps.drop k) = ps.getD k [] := by
  have h1 : ps.drop k = [ps.getD k []] := by
    rw [List.drop_eq_getElem_cons (by omega), List.drop_eq_nil_of_le (by omega), List.getD_eq_getElem?_getD, List.getElem?_eq_getElem (by omega)]
    rfl
  rw [h1, rpR]
theorem rp_D : ∀ (ps : List (List Int)), ps ≠ [] → (∀ q ∈ ps, isD q) → isD (rpR ps)
  | [], h, _ => absurd rfl h
  | [x], _, h => h x (by simp)
  | x :: y :: t, _, _ => nodeL_D _ _

set_option maxRecDepth 100000 in
theorem m12 : Meets Tryd.prog 12 sp12 := by
  refine meets_of_owed (C := c12) ⟨tab_ok, lkS_ok ⟨m70, m22, trivial⟩⟩ (by kernel_rfl) (by kernel_rfl : Tryd.prog.funcs[12]? = some Tryd.f12) (by kernel_rfl) (by kernel_rfl) (by kernel_rfl) _ ?_
  rintro _ ⟨n, ps, rfl, hq, hne⟩
  have hq60 := hq.2
  refine ⟨fun _ => rfl, inv12 ps, ?_⟩
  show owed c12 (inv12 ps) Tryd.f12 [.ref (LG n ps)] (d32 (rootG n (lgP (LG n ps))))
  rw [vc12, lgP_LG]
  have ei : ∀ l, arrOf (D.arr .u8 32 l) = l := fun l => rfl
  unfold rootG
  refine ⟨by and_intros <;> first | rfl | trivial | omega, by and_intros <;> first | rfl | trivial | omega, by and_intros <;> first | rfl | trivial | omega, ?_⟩
  split
  · rename_i h
    have h : n = 0 := eq_of_beq h
    rw [if_pos h]
    and_intros <;> first | rfl | trivial | omega | exact ⟨[], rfl, (fun x hx => by cases hx), by decide⟩
  · rename_i h
    have h : n ≠ 0 := fun e => by rw [e] at h; simp at h
    have hp := hne h
    have hl : 1 ≤ ps.length := by
      cases ps with
      | nil => exact absurd rfl hp
      | cons a t => simp
    rw [if_neg h]
    have e1 : IntKind.i64.wrap ((ps.length : Int) - 1) = ((ps.length - 1 : Nat) : Int) := by rw [wi (by omega) (by omega)]; omega
    have e2 : IntKind.i64.wrap (((ps.length - 1 : Nat) : Int) - 1) = ((ps.length - 1 : Nat) : Int) - 1 := by rw [wi (by omega) (by omega)]
    have e3 : (((ps.length - 1 : Nat) : Int) - 1 + 1).toNat = ps.length - 1 := by omega
    have g1 := getQ (qs := ps) (k := ps.length - 1) (by omega)
    have l1 := rp_last (ps := ps) (k := ps.length - 1) (by omega)
    simp only [List.length_map, e1, e2, e3, Int.toNat_natCast, g1, ei, l1]
    and_intros <;> try first | rfl | trivial | omega
    intro k hk
    simp (decide := true) only [eq_self, true_and, and_true, ne_eq, not_false_eq_true]
    split
    · rename_i h2
      have h2 : 1 ≤ k := by have := of_decide_eq_true h2; omega
      obtain ⟨j, rfl⟩ : ∃ j, k = j + 1 := ⟨k - 1, by omega⟩
      have f1 : (((j + 1 : Nat) : Int) - 1) = (j : Int) := by omega
      have f2 : IntKind.i64.wrap ((j : Int) - 1) = (j : Int) - 1 := by rw [wi (by omega) (by omega)]
      have f3 : ((j : Int) - 1 + 1).toNat = j := by omega
      have g2 := getQ (qs := ps) (k := j) (by omega)
      have l2 := rp_drop (ps := ps) (k := j) hk
      have hd : isD (rpR (ps.drop (j + 1))) := rp_D _ (by intro e; have := congrArg List.length e; rw [List.length_drop] at this; simp at this; omega) (fun q hq2 => hq.1 q (List.mem_of_mem_drop hq2))
      simp only [f1, f2, f3, Int.toNat_natCast, g2, ei, l2]
      and_intros <;> first | rfl | trivial | omega | exact ⟨_, _, rfl, hq.1 _ (mem_getD (by omega)), hd⟩
    · rename_i h2
      obtain rfl : k = 0 := by have := of_decide_eq_false h2; omega
      rw [List.drop_zero]

set_option maxRecDepth 100000 in
theorem m15 : MeetsQ Tryd.prog 15 sp15r := by
  refine meetsRw_of_owed (C := c15) ⟨tab_ok, fun f s h => by cases h⟩ (by kernel_rfl) (by kernel_rfl : Tryd.prog.funcs[15]? = some Tryd.f15) (by kernel_rfl) (by kernel_rfl) (by kernel_rfl) _ 28 ⟨by kernel_rfl, by kernel_rfl, by kernel_rfl, by kernel_rfl⟩ ?_
  rintro _ ⟨n, ps, rfl, hq⟩
  have hq60 := hq.2
  refine ⟨fun _ => none, ?_⟩
  show owedRw c15 (fun _ => none) Tryd.f15 28 [.ref (LG n ps)] (.tup [PD (lgP (LG n ps))])
  rw [vc15, lgP_LG]
  simp only [List.length_map, List.nil_append]
  and_intros <;> first | rfl | trivial | omega

theorem flat_PD : ∀ (qs : List (List Int)), flatDs (qs.map fun l => D.arr .u8 32 l) = true
  | [] => rfl
  | q :: qs => by
    simp only [List.map_cons, flatDs, Bool.and_eq_true]
    exact ⟨rfl, flat_PD qs⟩
set_option maxRecDepth 100000 in
theorem m15f : MeetsQ Tryd.prog 15 sp15f :=
  meetsF_of_rw (e := 28) (rw_of_q (e := 28) m15 ⟨by kernel_rfl, by kernel_rfl, by kernel_rfl, by kernel_rfl⟩) _ _ (fun ds ⟨n, ps, e, _⟩ => by
    subst e
    exact ⟨rfl, flat_PD _⟩) ⟨by kernel_rfl, by kernel_rfl⟩

theorem tmod2 {k : Nat} : (((k : Int).tmod 2) == 1) = decide (k % 2 = 1) := by
  have := tmodN k 2
  rw [show ((2 : Nat) : Int) = 2 from rfl] at this
  rw [this, Bool.eq_iff_iff, beq_iff_eq, decide_eq_true_iff]
  omega
theorem tdiv2 {k : Nat} (h : k < 2 ^ 62) : IntKind.i64.wrap ((k : Int).tdiv 2) = ((k / 2 : Nat) : Int) := by
  have := tdivN k 2
  rw [show ((2 : Nat) : Int) = 2 from rfl] at this
  rw [this, wi (by omega) (by omega)]

set_option maxRecDepth 100000 in
theorem m17 : MeetsQ Tryd.prog 17 sp17 := by
  refine meetsIoL_of_owed (C := c17) ⟨tab_ok, lkS_ok ⟨m20, m22, trivial⟩⟩ (by kernel_rfl) (by kernel_rfl : Tryd.prog.funcs[17]? = some Tryd.f17) (by kernel_rfl) (by kernel_rfl) (by kernel_rfl) _ 1 28 ⟨by kernel_rfl, by kernel_rfl⟩ ?_
  rintro fs ds ⟨n, ps, p, e, ⟨hn0, hn60, hon, hq, hps⟩, hp, hpl⟩
  obtain ⟨rfl, rfl⟩ : fs = [i64 n, PD ps] ∧ ds = [.ints .u8 p] := by
    simp only [List.cons.injEq, D.st.injEq] at e
    exact ⟨e.1, by rw [e.2]⟩
  refine ⟨inv17 n ps p, ?_⟩
  show owedIoL c17 (inv17 n ps p) Tryd.f17 1 28 [i64 n, PD ps] [.ints .u8 p] (.tup [i64 0, LG (n + 1) (addG n (lgP (LG n ps)) p)])
  rw [vc17, lgP_LG]
  obtain ⟨k, rfl⟩ := Int.eq_ofNat_of_zero_le hn0
  rw [Int.toNat_natCast] at hon
  have ei : ∀ l, arrOf (D.arr .u8 32 l) = l := fun l => rfl
  have eg : adR k ps (leafL p) = addG (k : Int) ps p := rfl
  have ew : IntKind.i64.wrap ((k : Int) + 1) = (k : Int) + 1 := by rw [wi (by omega) (by omega)]
  simp only [qsOf_PD, Int.toNat_natCast, ew]
  refine ⟨by and_intros <;> first | rfl | trivial | omega, by and_intros <;> first | rfl | trivial | omega, ?_⟩
  split
  · rename_i h
    have : (k : Int) = 65536 := eq_of_beq h
    omega
  · and_intros <;> try first | rfl | trivial | omega | exact ⟨p, rfl, hp, by omega⟩ | exact hq.1 | exact hq.2 | exact (leafL_D p).1 | exact (leafL_D p).2 | exact eg
    rintro ⟨j, qs, d⟩ ⟨h1, h2, h3, h4, h5, h6⟩
    simp only at h1 h2 h3 h4 h5 h6 ⊢
    simp (decide := true) only [eq_self, true_and, and_true, ne_eq, not_false_eq_true]
    rw [tmod2, tdiv2 (by omega)]
    split
    · rename_i h
      have h := of_decide_eq_true h
      rw [onR_odd h] at h2
      have e1 : IntKind.i64.wrap ((qs.length : Int) - 1) = ((qs.length - 1 : Nat) : Int) := by rw [wi (by omega) (by omega)]; omega
      have g1 := getQ (qs := qs) (k := qs.length - 1) (by omega)
      rw [adR_odd h] at h6
      have ht : okQs (qs.take (qs.length - 1)) := ⟨fun l hl => h3.1 l (List.mem_of_mem_take hl), by rw [List.length_take]; omega⟩
      have hd := h3.1 _ (mem_getD (ls := qs) (k := qs.length - 1) (by omega))
      simp only [List.length_map, e1, Int.toNat_natCast, g1, ei, ← List.map_take, qsOf_PD, List.length_take]
      and_intros <;> first | rfl | trivial | omega | exact ⟨_, _, rfl, hd, h5⟩ | exact ht.1 | exact ht.2 | exact (nodeL_D _ _).1 | exact (nodeL_D _ _).2 | exact h6
    · rename_i h
      have h := of_decide_eq_false h
      rw [adR_even (by omega)] at h6
      rw [snocQ, h6]
      have hl : (addG (k : Int) ps p).length ≤ 60 := by rw [← h6, List.length_append]; simp; omega
      simp only [List.length_map]
      and_intros <;> first | rfl | trivial | omega

end Go.Proofs.YtkicjckhkefnpaaDoor
/- The reference's peaks. -/
namespace Go.Proofs.YtkicjckhkefnpaaDoor
open Go Go.Vg

theorem pw_succ (k : Nat) : pwI (k + 1) = ((2 ^ k : Nat) : Int) := by unfold pwI; rw [if_neg (by omega), show k + 1 - 1 = k by omega]
theorem pw_zero : pwI 0 = 0 := rfl
theorem lg_pw (k : Nat) : lgI (pwI k) = k := by
  cases k with
  | zero => rfl
  | succ k =>
    rw [pw_succ]
    unfold lgI
    have hp : 0 < 2 ^ k := Nat.two_pow_pos k
    rw [if_neg (by omega), Int.toNat_natCast, Nat.log2_two_pow]
theorem pw_half {k : Nat} (h : k ≤ 20) : IntKind.i64.wrap ((pwI (k + 1)).tdiv 2) = pwI k := by
  rw [pw_succ, tdiv2 (Nat.lt_of_le_of_lt (Nat.pow_le_pow_right (by decide) h) (by decide))]
  cases k with
  | zero => rfl
  | succ k => rw [pw_succ, Nat.pow_succ, Nat.mul_div_cancel _ (by decide)]
theorem and_two (n k : Nat) : n &&& 2 ^ k = (n.testBit k).toNat * 2 ^ k := by
  apply Nat.eq_of_testBit_eq
  intro i
  rw [Nat.testBit_and, Nat.testBit_two_pow]
  cases h : n.testBit k with
  | true =>
    simp only [Bool.toNat_true, Nat.one_mul, Nat.testBit_two_pow]
    by_cases e : k = i
    · subst e; simp [h]
    · simp [e]
  | false =>
    simp only [Bool.toNat_false, Nat.zero_mul, Nat.zero_testBit]
    by_cases e : k = i
    · subst e; simp [h]
    · simp [e]
theorem and_pw {n k : Nat} (h : n < 2 ^ (k + 1)) (hk : k ≤ 20) : decide (iand .i64 (n : Int) ((2 ^ k : Nat) : Int) > 0) = decide (2 ^ k ≤ n) := by
  have hb : 2 ^ (k + 1) ≤ 2 ^ 21 := Nat.pow_le_pow_right (by decide) (by omega)
  have hp : 0 < 2 ^ k := Nat.two_pow_pos k
  rw [Nat.pow_succ] at h hb
  rw [iandN .i64 (show n < 2 ^ 63 by omega) (show 2 ^ k < 2 ^ 63 by omega), and_two]
  have ht : n.testBit k = decide (2 ^ k ≤ n) := by
    rw [Nat.testBit_eq_decide_div_mod_eq]
    by_cases h2 : 2 ^ k ≤ n
    · rw [decide_eq_true h2, decide_eq_true_iff]
      have : n / 2 ^ k = 1 := Nat.div_eq_of_lt_le (by omega) (by omega)
      omega
    · rw [decide_eq_false h2, decide_eq_false_iff_not, Nat.div_eq_of_lt (by omega)]
      omega
  rw [ht]
  by_cases h2 : 2 ^ k ≤ n
  · rw [decide_eq_true h2]
    simp only [Bool.toNat_true, Nat.one_mul]
    exact decide_eq_true (by omega)
  · rw [decide_eq_false h2]
    simp only [Bool.toNat_false, Nat.zero_mul]
    exact decide_eq_false (by omega)

set_option maxRecDepth 100000 in
theorem m16 : Meets Tryd.prog 16 sp16 := by
  refine meets_of_owed (C := c16) ⟨tab_ok, lkS_ok ⟨m13, trivial⟩⟩ (by kernel_rfl) (by kernel_rfl : Tryd.prog.funcs[16]? = some Tryd.f16) (by kernel_rfl) (by kernel_rfl) (by kernel_rfl) _ ?_
  rintro _ ⟨ls, rfl, hls⟩
  have h60 := hls.2
  refine ⟨(by intro h; cases h), inv16 ls, ?_⟩
  show owed c16 (inv16 ls) Tryd.f16 [LD ls] (PD (pkL (lsOf (LD ls))))
  rw [vc16]
  have q0 : qsOf (.slc 32 []) = [] := rfl
  have p21 : (1048576 : Int) = pwI 21 := rfl
  rw [p21]
  simp (decide := true) only [lg_pw, lsOf_LD, qsOf_PD, q0, List.length_map, Int.toNat_natCast, eq_self, true_and, and_true, ne_eq, not_false_eq_true, List.map_nil, List.nil_append, List.length_nil, Nat.zero_le, Nat.sub_self, List.drop_zero, Nat.sub_zero]
  refine ⟨by and_intros <;> first | rfl | trivial | omega, ?_⟩
  rintro ⟨k, off, acc⟩ ⟨h1, h2, h3, h4, h5⟩
  simp only at h1 h2 h3 h4 h5 ⊢
  cases k with
  | zero =>
    rw [Nat.pow_zero] at h3
    rw [List.drop_eq_nil_of_le (by omega)] at h5
    have : pkL [] = [] := rfl
    rw [this, List.append_nil] at h5
    rw [h5]
    rw [pw_zero, decide_eq_false (show ¬ ((0 : Int) > 0) by decide)]
  | succ k =>
    have hp : 0 < 2 ^ k := Nat.two_pow_pos k
    have hpk : 2 ^ k ≤ 2 ^ 20 := Nat.pow_le_pow_right (by decide) (by omega)
    have hl : (ls.drop off).length = ls.length - off := List.length_drop
    have tt : List.take (ls.length - off) (ls.drop off) = ls.drop off := List.take_of_length_le (by omega)
    rw [pw_half (by omega), pw_succ, decide_eq_true (show ((2 ^ k : Nat) : Int) > 0 by omega)]
    simp only [List.length_map, hl, lg_pw, Int.toNat_natCast, and_pw h3 (by omega), ← List.map_take, ← List.map_drop, List.drop_zero, lsOf_LD, tt, List.drop_drop, List.length_drop]
    split
    · rename_i h
      have h := of_decide_eq_true h
      rw [Nat.pow_succ] at h3
      have hg : gp (ls.length - off) = 2 ^ k := gp_unique h (by omega)
      have ht := pk_top _ ((ls.drop off).map leafL) (Nat.le_refl _) (by rw [List.length_map]; omega)
      rw [List.length_map, hl, hg, ← List.map_take, ← List.map_drop, List.drop_drop] at ht
      have hr : rtL ((ls.drop off).take (2 ^ k)) = trR (((ls.drop off).take (2 ^ k)).map leafL) := rtL_pos (by rw [List.length_take]; omega)
      rw [← hr] at ht
      have h9 : acc ++ [rtL ((ls.drop off).take (2 ^ k))] ++ pkL (ls.drop (off + 2 ^ k)) = pkL ls := by
        rw [← h5, List.append_assoc]
        congr 1
        exact ht.symm
      have e1 : ls.length - (ls.length - (off + 2 ^ k)) = off + 2 ^ k := by omega
      simp only [snocQ, qsOf_PD, e1, List.length_append, List.length_map, List.length_cons, List.length_nil]
      and_intros <;> first | rfl | trivial | omega | exact h9 | exact ⟨_, rfl, okLs_take (okLs_drop hls _) _⟩
    · rename_i h
      have h : ls.length - off < 2 ^ k := by have := of_decide_eq_false h; omega
      have e1 : ls.length - (ls.length - off) = off := by omega
      simp only [qsOf_PD, e1]
      and_intros <;> first | rfl | trivial | omega | exact h5

end Go.Proofs.YtkicjckhkefnpaaDoor
/- TreeLogs: the law is met. -/
namespace Go.Proofs.YtkicjckhkefnpaaDoor
open Go Go.Vg
noncomputable def c3 : Ctx := ⟨tab, lkS [(11, sp11), (12, sp12), (13, sp13), (15, sp15f), (16, sp16), (14, sp14), (17, sp17)], [], [401003]⟩
def rowL (s : Go.Vg.St) (b : Nat) : Int := match Go.Vg.look s.M b with
  | some (.lnk fs _ _) => numOf (fs.headD default)
  | _ => 0
def inv3 (ls : List (List Int)) : Nat → Option Inv
  | 5 => some ⟨Nat, fun k => [(11, .d (i64 ((k : Nat) : Int)))], fun k => [(3, .lnk [i64 ((k : Nat) : Int), PD (pkL (ls.take k))] 1 (some 503)), (503, .row 28 (PD (pkL (ls.take k))))],
      fun s => (slotN s 11).toNat, fun _ k => k ≤ ls.length, fun k => ls.length - k⟩
  | _ => none
--KEEP ofR BitVec.toNat prL pr Go.Proofs.YtkicjckhkefnpaaDoor.R8.l wrS ofS okS padL fhK outL sumL fromL digL iv st0 Go.Vg.eqB nodeL leafL hf restB chkB clD clB isP isD okR lsOf qsOf okLs okQs pthL pthE eqQ trR flL ptR pfR rtL pkR adR rpR rootG addG pkL onR pwI lgI
set_option maxRecDepth 100000 in
theorem ok22  (d : D)  :
    (OkT tab 8 22 d) = (
 ∃ (xs : List D), d = D.slc (1 : Nat) xs ∧ (∀ (y : D), y ∈ xs → ∃ (l : List Int), y = D.ints IntKind.u8 l ∧ (∀ (z : Int), z ∈ l → (0 : Int) ≤ z ∧ z ≤ IntKind.u8.max) ∧ l.length ≤ (9223372036854775807 : Nat) ∧ l.length * (1 : Nat) ≤ (140737488351232 : Nat)) ∧ xs.length ≤ (9223372036854775807 : Nat) ∧ xs.length * (24 : Nat) ≤ (140737488351232 : Nat)) := by kernel_rfl
set_option maxRecDepth 100000 in
theorem vc3  (ls : List (List Int)) (F : D)  :
    (owed c3 (inv3 ls) Tryd.f3 [LD ls] F) = (
 True ∧
   True ∧
    True ∧
     True ∧
      match decide ((↑(List.map (fun (l : List Int) => D.ints IntKind.u8 l) ls).length : Int) > (60 : Int)) with
      | true => True ∧ (false = false ∧ True) ∧ D.val (Value.bool true) = F
      | false =>
       (True ∧ (2 : Nat) ≠ (0 : Nat)) ∧
        True ∧
         True ∧
          True ∧
           (((AV.d (D.val (Value.int IntKind.i64 (0 : Int))) = AV.d (D.val (Value.int IntKind.i64 (↑(Int.toNat (0 : Int)) : Int))) ∧ True) ∧
              (some (Blk.lnk [D.val (Value.int IntKind.i64 (0 : Int)), D.slc (32 : Nat) []] (1 : Nat) (some (503 : Nat))) = some (Blk.lnk [D.val (Value.int IntKind.i64 (↑(Int.toNat (0 : Int)) : Int)), D.slc (32 : Nat) (List.map (fun (l : List Int) => D.arr IntKind.u8 (32 : Nat) l) (pkL (List.take (Int.toNat (0 : Int)) ls)))] (1 : Nat) (some (503 : Nat))) ∧
                some (Blk.row (28 : TypeId) (D.slc (32 : Nat) [])) = some (Blk.row (28 : TypeId) (D.slc (32 : Nat) (List.map (fun (l : List Int) => D.arr IntKind.u8 (32 : Nat) l) (pkL (List.take (Int.toNat (0 : Int)) ls))))) ∧ True) ∧
               true = true) ∧
             Int.toNat (0 : Int) ≤ ls.length) ∧
            ∀ (x : Nat),
             x ≤ ls.length →
              true = true ∧
               True ∧
                match decide ((↑x : Int) < (↑(List.map (fun (l : List Int) => D.ints IntKind.u8 l) ls).length : Int)) with
                | true =>
                 True ∧
                  ((0 : Int) ≤ (↑x : Int) ∧
                    (↑x : Int) < (↑(List.map (fun (l : List Int) => D.ints IntKind.u8 l) ls).length : Int) ∧
                     (1 : Nat) ≠ (0 : Nat) ∧ (1 : Nat) = (1 : Nat) ∧ D.ints IntKind.u8 (intsOf ((List.map (fun (l : List Int) => D.ints IntKind.u8 l) ls).getD (↑x : Int).toNat (D.val (Value.bool false)))) = (List.map (fun (l : List Int) => D.ints IntKind.u8 l) ls).getD (↑x : Int).toNat (D.val (Value.bool false))) ∧
                   ((1 : Nat) ≠ (0 : Nat) ∧ (1 : Nat) = (1 : Nat) ∧ false = false) ∧
                    True ∧
                     True ∧
                      (∃ (n : Int), ∃ (ps : List (List Int)), [(D.st [D.val (Value.int IntKind.i64 (↑x : Int)), D.slc (32 : Nat) (List.map (fun (l : List Int) => D.arr IntKind.u8 (32 : Nat) l) (pkL (List.take x ls)))]).ref] = [(D.st [D.val (Value.int IntKind.i64 n), D.slc (32 : Nat) (List.map (fun (l : List Int) => D.arr IntKind.u8 (32 : Nat) l) ps)]).ref]) ∧
                       True ∧
                        True ∧
                         True ∧
                          match (↑x : Int) != (↑x : Int) with
                          | true => True ∧ True ∧ True ∧ True ∧ True ∧ True ∧ (false = false ∧ True) ∧ D.val (Value.bool false) = F
                          | false =>
                           (∃ (n : Int),
                             ∃ (ps : List (List Int)),
                              [(D.st [D.val (Value.int IntKind.i64 (↑x : Int)), D.slc (32 : Nat) (List.map (fun (l : List Int) => D.arr IntKind.u8 (32 : Nat) l) (pkL (List.take x ls)))]).ref] = [(D.st [D.val (Value.int IntKind.i64 n), D.slc (32 : Nat) (List.map (fun (l : List Int) => D.arr IntKind.u8 (32 : Nat) l) ps)]).ref] ∧ okQs ps ∧ (n ≠ (0 : Int) → ps ≠ [])) ∧
                            True ∧
                             True ∧
                              ((0 : Int) ≤ (0 : Int) ∧ (0 : Int) ≤ (↑x : Int) ∧ (↑x : Int) ≤ (↑(List.map (fun (l : List Int) => D.ints IntKind.u8 l) ls).length : Int) ∧ (1 : Nat) ≠ (0 : Nat) ∧ (1 : Nat) = (1 : Nat)) ∧
                               (∃ (ls_1 : List (List Int)), [D.slc (1 : Nat) (List.drop (Int.toNat (0 : Int)) (List.take (↑x : Int).toNat (List.map (fun (l : List Int) => D.ints IntKind.u8 l) ls)))] = [D.slc (1 : Nat) (List.map (fun (l : List Int) => D.ints IntKind.u8 l) ls_1)] ∧ okLs ls_1) ∧
                                (IntKind.u8 = IntKind.u8 ∧ IntKind.u8 = IntKind.u8 ∧ (32 : Nat) = (32 : Nat) ∧ (32 : Nat) = (32 : Nat) ∧ (1 : Nat) = (1 : Nat)) ∧
                                 True ∧
                                  True ∧
                                   match !eqB (rootG (↑x : Int) (qsOf (D.slc (32 : Nat) (List.map (fun (l : List Int) => D.arr IntKind.u8 (32 : Nat) l) (pkL (List.take x ls)))))) (rtL (lsOf (D.slc (1 : Nat) (List.drop (Int.toNat (0 : Int)) (List.take (↑x : Int).toNat (List.map (fun (l : List Int) => D.ints IntKind.u8 l) ls)))))) with
                                   | true => True ∧ True ∧ True ∧ True ∧ (false = false ∧ True) ∧ D.val (Value.bool false) = F
                                   | false =>
                                    (∃ (n : Int),
                                      ∃ (ps : List (List Int)),
                                       [(D.st [D.val (Value.int IntKind.i64 (↑x : Int)), D.slc (32 : Nat) (List.map (fun (l : List Int) => D.arr IntKind.u8 (32 : Nat) l) (pkL (List.take x ls)))]).ref] = [(D.st [D.val (Value.int IntKind.i64 n), D.slc (32 : Nat) (List.map (fun (l : List Int) => D.arr IntKind.u8 (32 : Nat) l) ps)]).ref] ∧ okQs ps) ∧
                                     True ∧
                                      True ∧
                                       ((0 : Int) ≤ (0 : Int) ∧ (0 : Int) ≤ (↑x : Int) ∧ (↑x : Int) ≤ (↑(List.map (fun (l : List Int) => D.ints IntKind.u8 l) ls).length : Int) ∧ (1 : Nat) ≠ (0 : Nat) ∧ (1 : Nat) = (1 : Nat)) ∧
                                        (∃ (ls_1 : List (List Int)), [D.slc (1 : Nat) (List.drop (Int.toNat (0 : Int)) (List.take (↑x : Int).toNat (List.map (fun (l : List Int) => D.ints IntKind.u8 l) ls)))] = [D.slc (1 : Nat) (List.map (fun (l : List Int) => D.ints IntKind.u8 l) ls_1)] ∧ okLs ls_1) ∧
                                         (∃ (a : List (List Int)),
                                           ∃ (b : List (List Int)),
                                            [D.slc (32 : Nat) (List.map (fun (l : List Int) => D.arr IntKind.u8 (32 : Nat) l) (qsOf (D.slc (32 : Nat) (List.map (fun (l : List Int) => D.arr IntKind.u8 (32 : Nat) l) (pkL (List.take x ls)))))),
                                               D.slc (32 : Nat) (List.map (fun (l : List Int) => D.arr IntKind.u8 (32 : Nat) l) (pkL (lsOf (D.slc (1 : Nat) (List.drop (Int.toNat (0 : Int)) (List.take (↑x : Int).toNat (List.map (fun (l : List Int) => D.ints IntKind.u8 l) ls)))))))] =
                                              [D.slc (32 : Nat) (List.map (fun (l : List Int) => D.arr IntKind.u8 (32 : Nat) l) a), D.slc (32 : Nat) (List.map (fun (l : List Int) => D.arr IntKind.u8 (32 : Nat) l) b)] ∧
                                             okQs a ∧ okQs b) ∧
                                          True ∧
                                           True ∧
                                            True ∧
                                             match
                                              !eqQ (qsOf (D.slc (32 : Nat) (List.map (fun (l : List Int) => D.arr IntKind.u8 (32 : Nat) l) (qsOf (D.slc (32 : Nat) (List.map (fun (l : List Int) => D.arr IntKind.u8 (32 : Nat) l) (pkL (List.take x ls))))))))
                                                (qsOf (D.slc (32 : Nat) (List.map (fun (l : List Int) => D.arr IntKind.u8 (32 : Nat) l) (pkL (lsOf (D.slc (1 : Nat) (List.drop (Int.toNat (0 : Int)) (List.take (↑x : Int).toNat (List.map (fun (l : List Int) => D.ints IntKind.u8 l) ls))))))))) with
                                             | true => True ∧ True ∧ (false = false ∧ True) ∧ D.val (Value.bool false) = F
                                             | false =>
                                              True ∧
                                               ((1 : Nat) = ((9100100028 : TypeId) - (9100000000 : Nat)) / (100000 : Nat) ∧
                                                 (28 : TypeId) = ((9100100028 : TypeId) - (9100000000 : TypeId)) % (100000 : TypeId) ∧
                                                  ∃ (n : Int),
                                                   ∃ (ps : List (List Int)),
                                                    ∃ (p : List Int),
                                                     [D.st [D.val (Value.int IntKind.i64 (↑x : Int)), D.slc (32 : Nat) (List.map (fun (l : List Int) => D.arr IntKind.u8 (32 : Nat) l) (pkL (List.take x ls)))], D.ints IntKind.u8 (intsOf ((List.map (fun (l : List Int) => D.ints IntKind.u8 l) ls).getD (↑x : Int).toNat (D.val (Value.bool false))))] =
                                                       [D.st [D.val (Value.int IntKind.i64 n), D.slc (32 : Nat) (List.map (fun (l : List Int) => D.arr IntKind.u8 (32 : Nat) l) ps)], D.ints IntKind.u8 p] ∧
                                                      ((0 : Int) ≤ n ∧ n < (60 : Int) ∧ onR n.toNat ≤ ps.length ∧ okQs ps ∧ ps.length < (60 : Nat)) ∧ isBytes p ∧ p.length ≤ (140737488351232 : Nat)) ∧
                                                True ∧
                                                 True ∧
                                                  True ∧
                                                   True ∧
                                                    ((AV.d (D.val (Value.int IntKind.i64 (IntKind.i64.wrap ((↑x : Int) + (1 : Int))))) = AV.d (D.val (Value.int IntKind.i64 (↑(IntKind.i64.wrap ((↑x : Int) + (1 : Int))).toNat : Int))) ∧ True) ∧
                                                      (some
                                                          (Blk.lnk
                                                           [D.val (Value.int IntKind.i64 ((↑x : Int) + (1 : Int))),
                                                            D.slc (32 : Nat)
                                                             (List.map (fun (l : List Int) => D.arr IntKind.u8 (32 : Nat) l)
                                                              (addG (↑x : Int) (qsOf (D.slc (32 : Nat) (List.map (fun (l : List Int) => D.arr IntKind.u8 (32 : Nat) l) (pkL (List.take x ls))))) (intsOf ((List.map (fun (l : List Int) => D.ints IntKind.u8 l) ls).getD (↑x : Int).toNat (D.val (Value.bool false))))))]
                                                           (((9100100028 : TypeId) - (9100000000 : Nat)) / (100000 : Nat)) (some (503 : Nat))) =
                                                         some
                                                          (Blk.lnk [D.val (Value.int IntKind.i64 (↑(IntKind.i64.wrap ((↑x : Int) + (1 : Int))).toNat : Int)), D.slc (32 : Nat) (List.map (fun (l : List Int) => D.arr IntKind.u8 (32 : Nat) l) (pkL (List.take (IntKind.i64.wrap ((↑x : Int) + (1 : Int))).toNat ls)))] (1 : Nat) (some (503 : Nat))) ∧
                                                        some
                                                           (Blk.row (((9100100028 : TypeId) - (9100000000 : TypeId)) % (100000 : TypeId))
                                                            (D.slc (32 : Nat)
                                                             (List.map (fun (l : List Int) => D.arr IntKind.u8 (32 : Nat) l)
                                                              (addG (↑x : Int) (qsOf (D.slc (32 : Nat) (List.map (fun (l : List Int) => D.arr IntKind.u8 (32 : Nat) l) (pkL (List.take x ls))))) (intsOf ((List.map (fun (l : List Int) => D.ints IntKind.u8 l) ls).getD (↑x : Int).toNat (D.val (Value.bool false)))))))) =
                                                          some (Blk.row (28 : TypeId) (D.slc (32 : Nat) (List.map (fun (l : List Int) => D.arr IntKind.u8 (32 : Nat) l) (pkL (List.take (IntKind.i64.wrap ((↑x : Int) + (1 : Int))).toNat ls))))) ∧
                                                         True) ∧
                                                       true = true) ∧
                                                     (IntKind.i64.wrap ((↑x : Int) + (1 : Int))).toNat ≤ ls.length ∧ ls.length - (IntKind.i64.wrap ((↑x : Int) + (1 : Int))).toNat < ls.length - x
                | false =>
                 (∃ (n : Int), ∃ (ps : List (List Int)), [(D.st [D.val (Value.int IntKind.i64 (↑x : Int)), D.slc (32 : Nat) (List.map (fun (l : List Int) => D.arr IntKind.u8 (32 : Nat) l) (pkL (List.take x ls)))]).ref] = [(D.st [D.val (Value.int IntKind.i64 n), D.slc (32 : Nat) (List.map (fun (l : List Int) => D.arr IntKind.u8 (32 : Nat) l) ps)]).ref]) ∧
                  True ∧
                   True ∧
                    True ∧
                     True ∧
                      match (↑x : Int) == (↑(List.map (fun (l : List Int) => D.ints IntKind.u8 l) ls).length : Int) with
                      | true =>
                       (∃ (n : Int),
                         ∃ (ps : List (List Int)),
                          [(D.st [D.val (Value.int IntKind.i64 (↑x : Int)), D.slc (32 : Nat) (List.map (fun (l : List Int) => D.arr IntKind.u8 (32 : Nat) l) (pkL (List.take x ls)))]).ref] = [(D.st [D.val (Value.int IntKind.i64 n), D.slc (32 : Nat) (List.map (fun (l : List Int) => D.arr IntKind.u8 (32 : Nat) l) ps)]).ref] ∧ okQs ps ∧ (n ≠ (0 : Int) → ps ≠ [])) ∧
                        True ∧
                         (∃ (ls_1 : List (List Int)), [D.slc (1 : Nat) (List.map (fun (l : List Int) => D.ints IntKind.u8 l) ls)] = [D.slc (1 : Nat) (List.map (fun (l : List Int) => D.ints IntKind.u8 l) ls_1)] ∧ okLs ls_1) ∧
                          (IntKind.u8 = IntKind.u8 ∧ IntKind.u8 = IntKind.u8 ∧ (32 : Nat) = (32 : Nat) ∧ (32 : Nat) = (32 : Nat) ∧ (1 : Nat) = (1 : Nat)) ∧
                           True ∧
                            True ∧
                             match eqB (rootG (↑x : Int) (qsOf (D.slc (32 : Nat) (List.map (fun (l : List Int) => D.arr IntKind.u8 (32 : Nat) l) (pkL (List.take x ls)))))) (rtL (lsOf (D.slc (1 : Nat) (List.map (fun (l : List Int) => D.ints IntKind.u8 l) ls)))) with
                             | true =>
                              (∃ (n : Int),
                                ∃ (ps : List (List Int)), [(D.st [D.val (Value.int IntKind.i64 (↑x : Int)), D.slc (32 : Nat) (List.map (fun (l : List Int) => D.arr IntKind.u8 (32 : Nat) l) (pkL (List.take x ls)))]).ref] = [(D.st [D.val (Value.int IntKind.i64 n), D.slc (32 : Nat) (List.map (fun (l : List Int) => D.arr IntKind.u8 (32 : Nat) l) ps)]).ref] ∧ okQs ps) ∧
                               True ∧
                                (∃ (ls_1 : List (List Int)), [D.slc (1 : Nat) (List.map (fun (l : List Int) => D.ints IntKind.u8 l) ls)] = [D.slc (1 : Nat) (List.map (fun (l : List Int) => D.ints IntKind.u8 l) ls_1)] ∧ okLs ls_1) ∧
                                 (∃ (a : List (List Int)),
                                   ∃ (b : List (List Int)),
                                    [D.slc (32 : Nat) (List.map (fun (l : List Int) => D.arr IntKind.u8 (32 : Nat) l) (qsOf (D.slc (32 : Nat) (List.map (fun (l : List Int) => D.arr IntKind.u8 (32 : Nat) l) (pkL (List.take x ls)))))),
                                       D.slc (32 : Nat) (List.map (fun (l : List Int) => D.arr IntKind.u8 (32 : Nat) l) (pkL (lsOf (D.slc (1 : Nat) (List.map (fun (l : List Int) => D.ints IntKind.u8 l) ls)))))] =
                                      [D.slc (32 : Nat) (List.map (fun (l : List Int) => D.arr IntKind.u8 (32 : Nat) l) a), D.slc (32 : Nat) (List.map (fun (l : List Int) => D.arr IntKind.u8 (32 : Nat) l) b)] ∧
                                     okQs a ∧ okQs b) ∧
                                  True ∧
                                   True ∧
                                    (false = false ∧ True) ∧
                                     D.val
                                       (Value.bool
                                        (eqQ (qsOf (D.slc (32 : Nat) (List.map (fun (l : List Int) => D.arr IntKind.u8 (32 : Nat) l) (qsOf (D.slc (32 : Nat) (List.map (fun (l : List Int) => D.arr IntKind.u8 (32 : Nat) l) (pkL (List.take x ls))))))))
                                         (qsOf (D.slc (32 : Nat) (List.map (fun (l : List Int) => D.arr IntKind.u8 (32 : Nat) l) (pkL (lsOf (D.slc (1 : Nat) (List.map (fun (l : List Int) => D.ints IntKind.u8 l) ls))))))))) =
                                      F
                             | false => True ∧ True ∧ (false = false ∧ True) ∧ D.val (Value.bool false) = F
                      | false => True ∧ True ∧ True ∧ True ∧ (false = false ∧ True) ∧ D.val (Value.bool false) = F) := by kernel_rfl

theorem lls_of : ∀ {xs : List D}, (∀ y : D, y ∈ xs → ∃ l : List Int, y = D.ints .u8 l ∧ (∀ z, z ∈ l → 0 ≤ z ∧ z ≤ IntKind.u8.max) ∧ l.length ≤ 9223372036854775807 ∧ l.length * 1 ≤ 140737488351232) → ∃ ls : List (List Int), xs = ls.map bys ∧ ∀ l ∈ ls, isBytes l ∧ l.length ≤ 140737488351232
  | [], _ => ⟨[], rfl, fun l hl => by cases hl⟩
  | y :: xs, h => by
    obtain ⟨l, rfl, h1, _, h2⟩ := h y (List.mem_cons_self ..)
    obtain ⟨ls, rfl, hls⟩ := lls_of fun z hz => h z (List.mem_cons_of_mem _ hz)
    refine ⟨l :: ls, rfl, fun m hm => ?_⟩
    rcases List.mem_cons.1 hm with rfl | hm
    · refine ⟨fun z hz => ?_, by omega⟩
      have := h1 z hz
      have e : IntKind.u8.max = 255 := rfl
      rw [e] at this
      omega
    · exact hls m hm
theorem eqQ_refl (a : List (List Int)) : eqQ a a = true := by unfold eqQ; exact @decide_eq_true _ (Classical.propDecidable _) rfl
theorem getB {ls : List (List Int)} {k : Nat} (h : k < ls.length) {d : D} : (ls.map fun l => D.ints .u8 l).getD k d = .ints .u8 (ls.getD k []) := by
  rw [List.getD_eq_getElem?_getD, List.getD_eq_getElem?_getD, List.getElem?_map, List.getElem?_eq_getElem h]
  rfl
theorem pkL_add {ls : List (List Int)} {k : Nat} (h : k < ls.length) : addG (k : Int) (pkL (ls.take k)) (ls.getD k []) = pkL (ls.take (k + 1)) := by
  have h1 : (ls.take k).map leafL = (ls.map leafL).take k := List.map_take
  have hl : ((ls.take k).map leafL).length = k := by rw [List.length_map, List.length_take]; omega
  have e : ls.take (k + 1) = ls.take k ++ [ls.getD k []] := by
    rw [List.take_add_one, List.getD_eq_getElem?_getD, List.getElem?_eq_getElem h]
    rfl
  unfold addG pkL
  rw [Int.toNat_natCast, e, List.map_append, List.map_cons, List.map_nil, ← adR_pk, hl]
theorem okQs_pk {ls : List (List Int)} (h : okLs ls) : okQs (pkL ls) := by
  have h1 := okQs_leaves h
  have h2 := pk_len _ (ls.map leafL) (Nat.le_refl _)
  exact ⟨pk_D _ _ (Nat.le_refl _) h1.1, by have := h1.2; unfold pkL; omega⟩
theorem pkL_ne {ls : List (List Int)} (h : ls ≠ []) : pkL ls ≠ [] := by
  have : 1 ≤ ls.length := by
    cases ls with
    | nil => exact absurd rfl h
    | cons => simp
  unfold pkL
  rw [pk_top _ _ (Nat.le_refl _) (by rw [List.length_map]; exact this)]
  intro e
  cases e
theorem rootG_pk (ls : List (List Int)) : rootG (ls.length : Int) (pkL ls) = rtL ls := by
  unfold rootG rtL pkL
  by_cases h : ls.length = 0
  · rw [List.length_eq_zero_iff.1 h]; rfl
  · rw [if_neg (by omega), rp_pk _ _ (Nat.le_refl _) (by rw [List.length_map]; omega)]
    try first | rfl | rw [if_neg h] | rw [if_neg (by omega)]

set_option maxRecDepth 100000 in
theorem m3 : Meets Tryd.prog 3 (lawSpec tab Tryd.f3.params.toList) := by
  refine meets_of_owed (C := c3) ⟨tab_ok, lkS_ok ⟨m11, m12, m13, m15f, m16, m14, m17, trivial⟩⟩ (by kernel_rfl) (by kernel_rfl : Tryd.prog.funcs[3]? = some Tryd.f3) (by kernel_rfl) (by kernel_rfl) (by kernel_rfl) _ ?_
  intro ds hds
  have hds : OkAll tab 8 [22] ds := hds
  obtain ⟨x, rfl, h1⟩ : ∃ x, ds = [x] ∧ OkT tab 8 22 x := by
    match ds, hds with
    | [x], h => exact ⟨x, rfl, h.1⟩
    | _ :: _ :: _, h => cases h.2
  rw [ok22] at h1
  obtain ⟨xs, rfl, hx, _⟩ := h1
  obtain ⟨ls, rfl, hls⟩ := lls_of hx
  refine ⟨fun _ => rfl, inv3 ls, ?_⟩
  show owed c3 (inv3 ls) Tryd.f3 [LD ls] (bl true)
  rw [vc3]
  have e0 : (0 : Int).toNat = 0 := rfl
  simp (decide := true) only [List.length_map, eq_self, true_and, and_true, ne_eq, not_false_eq_true]
  split
  · trivial
  · rename_i h
    have h : ls.length ≤ 60 := by have := of_decide_eq_false h; omega
    have hl : okLs ls := ⟨hls, h⟩
    have hq := okQs_pk hl
    refine ⟨by and_intros <;> first | rfl | trivial | omega, ?_⟩
    intro k hk
    have r1 := rootG_pk (ls.take k)
    have hk' : (ls.take k).length = k := by rw [List.length_take]; omega
    rw [hk'] at r1
    have lk := okLs_take hl k
    have qk := okQs_pk lk
    split
    · rename_i h2
      have h2 : k < ls.length := by have := of_decide_eq_true h2; omega
      have ew : (IntKind.i64.wrap ((k : Int) + 1)).toNat = k + 1 := by rw [wi (by omega) (by omega)]; omega
      have ew2 : IntKind.i64.wrap (((k + 1 : Nat) : Int)) = ((k + 1 : Nat) : Int) := by rw [wi (by omega) (by omega)]
      have ec : ((k : Int) + 1) = ((k + 1 : Nat) : Int) := by omega
      have hb := hls _ (mem_getD h2)
      have hpl : (pkL (ls.take k)).length ≤ k := by
        have := pk_len _ ((ls.take k).map leafL) (Nat.le_refl _)
        rw [List.length_map, hk'] at this
        exact this
      have hon : onR k ≤ (pkL (ls.take k)).length := by
        have := onR_pk _ ((ls.take k).map leafL) (Nat.le_refl _)
        rw [List.length_map, hk'] at this
        exact this
      have hne : (k : Int) ≠ 0 → pkL (ls.take k) ≠ [] := fun hk0 => pkL_ne (by intro e; rw [e] at hk'; simp at hk'; omega)
      have ei : ∀ l, intsOf (D.ints .u8 l) = l := fun l => rfl
      simp only [getB h2, Int.toNat_natCast, e0, ← List.map_take, List.drop_zero, lsOf_LD, qsOf_PD, r1, eqB_refl, eqQ_refl, ei, pkL_add h2, ec, ew2]
      simp (decide := true) only [eq_self, true_and, and_true, ne_eq, not_false_eq_true, bne_self_eq_false, Bool.not_true]
      and_intros <;> first | rfl | trivial | omega | exact ⟨_, _, rfl⟩ | exact ⟨_, _, rfl, qk, hne⟩ | exact ⟨_, rfl, lk⟩ | exact ⟨_, _, rfl, qk⟩ | exact ⟨_, _, rfl, qk, qk⟩ | exact ⟨_, _, _, rfl, ⟨by omega, by omega, by rw [Int.toNat_natCast]; exact hon, qk, by omega⟩, hb⟩
    · rename_i h2
      obtain rfl : k = ls.length := by have := of_decide_eq_false h2; omega
      rw [List.take_of_length_le (Nat.le_refl _)] at r1 qk ⊢
      have hne : (ls.length : Int) ≠ 0 → pkL ls ≠ [] := fun hk0 => pkL_ne (by intro e; rw [e] at hk0; exact hk0 rfl)
      simp only [lsOf_LD, qsOf_PD, r1, eqB_refl, eqQ_refl, beq_self_eq_true]
      and_intros <;> first | rfl | trivial | omega | exact ⟨_, _, rfl⟩ | exact ⟨_, _, rfl, qk, hne⟩ | exact ⟨_, rfl, hl⟩ | exact ⟨_, _, rfl, qk⟩ | exact ⟨_, _, rfl, qk, qk⟩

end Go.Proofs.YtkicjckhkefnpaaDoor
