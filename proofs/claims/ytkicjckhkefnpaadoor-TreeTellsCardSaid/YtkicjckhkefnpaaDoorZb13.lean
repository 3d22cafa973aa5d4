/- package tree and its reference: Root, Path, leaves, floor, Equal: what they owe. -/
import Derived.Test.YtkicjckhkefnpaaDoorZb12
namespace Go.Proofs.YtkicjckhkefnpaaDoor
open Go Go.Vg

abbrev LD (ls : List (List Int)) : D := .slc 1 (ls.map bys)
abbrev PD (qs : List (List Int)) : D := .slc 32 (qs.map d32)
def lsOf (d : D) : List (List Int) := (Go.Vg.xsOf d).map intsOf
def qsOf (d : D) : List (List Int) := (Go.Vg.xsOf d).map arrOf
def okLs (ls : List (List Int)) : Prop := (∀ l ∈ ls, isBytes l ∧ l.length ≤ 140737488351232) ∧ ls.length ≤ 60
def okQs (qs : List (List Int)) : Prop := (∀ l ∈ qs, isD l) ∧ qs.length ≤ 60
def inN (n : Nat) (i : Int) : Bool := decide (0 ≤ i) && decide (i < n)
def pthL (ls : List (List Int)) (i : Int) : List (List Int) := if inN ls.length i = true then ptR (ls.map leafL) i.toNat else []
def pthE (ls : List (List Int)) (i : Int) : Int := if inN ls.length i = true then 0 else 1
noncomputable def eqQ (a b : List (List Int)) : Bool := @decide (a = b) (Classical.propDecidable _)
def rowQ (s : Go.Vg.St) (i : Nat) : List (List Int) := match Go.Vg.look s.M i with
  | some (.row _ d) => qsOf d
  | _ => []
def slotQ (s : Go.Vg.St) (i : Nat) : List (List Int) := match s.T.getD i .any with
  | .d d => qsOf d
  | _ => []
def sp72 : Go.Vg.Spec := ⟨fun ds => ∃ ls, ds = [LD ls] ∧ okLs ls, fun ds => PD ((lsOf (ds.headD default)).map leafL), false, [22]⟩
def sp73 : Go.Vg.Spec := ⟨fun ds => ∃ qs, ds = [PD qs] ∧ okQs qs, fun ds => PD (flL (qsOf (ds.headD default))), false, [23]⟩
def sp13 : Go.Vg.Spec := ⟨fun ds => ∃ ls, ds = [LD ls] ∧ okLs ls, fun ds => d32 (rtL (lsOf (ds.headD default))), true, [22]⟩
def sp24n (n : Nat) : Go.Vg.Spec := ⟨fun ds => ∃ ls, ds = [LD ls] ∧ okLs ls ∧ ls.length < n, fun ds => d32 (rtL (lsOf (ds.headD default))), true, [22]⟩
def sp24 : Go.Vg.Spec := ⟨fun ds => ∃ ls, ds = [LD ls] ∧ okLs ls, fun ds => d32 (rtL (lsOf (ds.headD default))), true, [22]⟩
def sp18n (n : Nat) : Go.Vg.Spec := ⟨fun ds => ∃ ls i, ds = [LD ls, i64 i] ∧ okLs ls ∧ ls.length < n ∧ -9223372036854775808 ≤ i ∧ i ≤ 9223372036854775807, fun ds => .tup [PD (pthL (lsOf (ds.headD default)) (numOf (ds.getD 1 default))), i64 (pthE (lsOf (ds.headD default)) (numOf (ds.getD 1 default)))], false, [22, 3, 8500028]⟩
def sp18 : Go.Vg.Spec := ⟨fun ds => ∃ ls i, ds = [LD ls, i64 i] ∧ okLs ls ∧ -9223372036854775808 ≤ i ∧ i ≤ 9223372036854775807, fun ds => .tup [PD (pthL (lsOf (ds.headD default)) (numOf (ds.getD 1 default))), i64 (pthE (lsOf (ds.headD default)) (numOf (ds.getD 1 default)))], false, [22, 3, 8500028]⟩
def sp19 : Go.Vg.Spec := ⟨fun ds => ∃ ls i, ds = [LD ls, i64 i] ∧ okLs ls ∧ -9223372036854775808 ≤ i ∧ i ≤ 9223372036854775807, fun ds => .tup [PD (pthL (lsOf (ds.headD default)) (numOf (ds.getD 1 default))), i64 (pthE (lsOf (ds.headD default)) (numOf (ds.getD 1 default)))], false, [22, 3]⟩
noncomputable def sp14 : Go.Vg.Spec := ⟨fun ds => ∃ a b, ds = [PD a, PD b] ∧ okQs a ∧ okQs b, fun ds => bl (eqQ (qsOf (ds.headD default)) (qsOf (ds.getD 1 default))), true, [23, 23]⟩
def c72 : Ctx := ⟨tab, lkS [(21, sp21)], [3], []⟩
def c73 : Ctx := ⟨tab, lkS [(23, sp22)], [3], []⟩
def c13 : Ctx := ⟨tab, lkS [(71, sp71), (72, sp72), (73, sp73)], [], []⟩
def c24 (n : Nat) : Ctx := ⟨tab, lkS [(24, sp24n n), (70, sp70), (20, sp20), (22, sp22), (74, sp74)], [], []⟩
def c18 (n : Nat) : Ctx := ⟨tab, lkS [(18, sp18n n), (24, sp24), (74, sp74)], [], []⟩
def c19 : Ctx := ⟨tab, lkS [(72, sp72), (73, sp73)], [6], []⟩
def inv72 (ls : List (List Int)) : Nat → Option Inv
  | 3 => some ⟨Nat, fun k => [(8, .d (i64 ((k : Nat) : Int))), (3, .row 3)], fun k => [(3, .row 28 (PD ((ls.take k).map leafL)))], fun s => (slotN s 8).toNat, fun _ k => k ≤ ls.length, fun k => ls.length - k⟩
  | _ => none
def inv73 (qs : List (List Int)) : Nat → Option Inv
  | 3 => some ⟨Nat, fun k => [(4, .d (i64 ((2 * k : Nat) : Int))), (3, .row 3)], fun k => [(3, .row 28 (PD (flL (qs.take (2 * k)))))], fun s => (slotN s 4).toNat / 2, fun _ k => 2 * k ≤ qs.length + 1, fun k => qs.length + 1 - 2 * k⟩
  | _ => none
def inv13 (ls : List (List Int)) : Nat → Option Inv
  | 4 => some ⟨List (List Int), fun qs => [(3, .d (PD qs))], fun _ => [], fun s => slotQ s 3, fun _ qs => okQs qs ∧ 1 ≤ qs.length ∧ trR qs = trR (ls.map leafL), fun qs => qs.length⟩
  | _ => none
def inv19 (ls : List (List Int)) (i : Int) : Nat → Option Inv
  | 5 => some ⟨List (List Int) × Nat × List (List Int), fun x => [(7, .d (PD x.1)), (1, .d (i64 ((x.2.1 : Nat) : Int))), (6, .row 6)], fun x => [(6, .row 28 (PD x.2.2))], fun s => (slotQ s 7, (slotN s 1).toNat, rowQ s 6),
      fun _ x => okQs x.1 ∧ 1 ≤ x.1.length ∧ x.2.1 < x.1.length ∧ x.2.2.length ≤ 60 - x.1.length ∧ (∀ l ∈ x.2.2, isD l) ∧ x.2.2 ++ pfR x.1 x.2.1 = pthL ls i, fun x => x.1.length⟩
  | _ => none
def inv14 (a b : List (List Int)) : Nat → Option Inv
  | 4 => some ⟨Nat, fun k => [(13, .d (i64 ((k : Nat) : Int)))], fun _ => [], fun s => (slotN s 13).toNat, fun _ k => k ≤ a.length ∧ a.take k = b.take k, fun k => a.length - k⟩
  | _ => none
--KEEP ofR BitVec.toNat prL pr Go.Proofs.YtkicjckhkefnpaaDoor.R8.l wrS ofS okS padL fhK outL sumL fromL digL iv st0 Go.Vg.eqB nodeL leafL hf restB chkB clD clB isP isD okR lsOf qsOf okLs okQs pthL pthE eqQ trR flL ptR pfR rtL
set_option maxRecDepth 100000 in
theorem vc72  (ls : List (List Int)) (F : D)  :
    (owed c72 (inv72 ls) Tryd.f72 [LD ls] F) = (
 True ∧
   (32 : Nat) ≠ (0 : Nat) ∧
    True ∧
     True ∧
      True ∧
       (((AV.d (D.val (Value.int IntKind.i64 (0 : Int))) = AV.d (D.val (Value.int IntKind.i64 (↑(Int.toNat (0 : Int)) : Int))) ∧ AV.row (3 : Nat) = AV.row (3 : Nat) ∧ True) ∧
          (some (Blk.row (28 : TypeId) (D.slc (32 : Nat) [])) = some (Blk.row (28 : TypeId) (D.slc (32 : Nat) (List.map (fun (l : List Int) => D.arr IntKind.u8 (32 : Nat) l) (List.map leafL (List.take (Int.toNat (0 : Int)) ls))))) ∧ True) ∧ true = true) ∧
         Int.toNat (0 : Int) ≤ ls.length) ∧
        ∀ (x : Nat),
         x ≤ ls.length →
          true = true ∧
           True ∧
            match decide ((↑x : Int) < (↑(List.map (fun (l : List Int) => D.ints IntKind.u8 l) ls).length : Int)) with
            | true =>
             ((0 : Int) ≤ (↑x : Int) ∧
               (↑x : Int) < (↑(List.map (fun (l : List Int) => D.ints IntKind.u8 l) ls).length : Int) ∧
                (1 : Nat) ≠ (0 : Nat) ∧ (1 : Nat) = (1 : Nat) ∧ D.ints IntKind.u8 (intsOf ((List.map (fun (l : List Int) => D.ints IntKind.u8 l) ls).getD (↑x : Int).toNat (D.val (Value.bool false)))) = (List.map (fun (l : List Int) => D.ints IntKind.u8 l) ls).getD (↑x : Int).toNat (D.val (Value.bool false))) ∧
              ((1 : Nat) ≠ (0 : Nat) ∧ (1 : Nat) = (1 : Nat) ∧ false = false) ∧
               True ∧
                True ∧
                 True ∧
                  isBytes (intsOf ((List.map (fun (l : List Int) => D.ints IntKind.u8 l) ls).getD (↑x : Int).toNat (D.val (Value.bool false)))) ∧
                   (∃ (p : List Int), [D.str (intsOf ((List.map (fun (l : List Int) => D.ints IntKind.u8 l) ls).getD (↑x : Int).toNat (D.val (Value.bool false))))] = [D.str p] ∧ isBytes p ∧ p.length ≤ (900000000000000 : Nat)) ∧
                    ((1 : Nat) ≤ (4096 : Nat) ∧ (32 : Nat) ≤ (256 : Nat) ∧ (32 : Nat) ≠ (0 : Nat)) ∧
                     ((28 : TypeId) = (28 : TypeId) ∧
                       (23 : Nat) = (23 : Nat) ∧
                        true = true ∧
                         (List.map (fun (l : List Int) => D.arr IntKind.u8 (32 : Nat) l) (List.map leafL (List.take x ls)) ++ [D.arr IntKind.u8 (32 : Nat) (leafL (intsOf ((List.map (fun (l : List Int) => D.ints IntKind.u8 l) ls).getD (↑x : Int).toNat (D.val (Value.bool false)))))]).length ≤ (140737488355328 : Nat) ∧
                          (List.map (fun (l : List Int) => D.arr IntKind.u8 (32 : Nat) l) (List.map leafL (List.take x ls)) ++ [D.arr IntKind.u8 (32 : Nat) (leafL (intsOf ((List.map (fun (l : List Int) => D.ints IntKind.u8 l) ls).getD (↑x : Int).toNat (D.val (Value.bool false)))))]).length * (32 : Nat) ≤ (140737488355328 : Nat) ∧
                           (32 : Nat) ≠ (0 : Nat) ∧ (32 : Nat) = (32 : Nat)) ∧
                      True ∧
                       True ∧
                        True ∧
                         ((AV.d (D.val (Value.int IntKind.i64 (IntKind.i64.wrap ((↑x : Int) + (1 : Int))))) = AV.d (D.val (Value.int IntKind.i64 (↑(IntKind.i64.wrap ((↑x : Int) + (1 : Int))).toNat : Int))) ∧ AV.row (3 : Nat) = AV.row (3 : Nat) ∧ True) ∧
                           (some (Blk.row (28 : TypeId) (D.slc (32 : Nat) (List.map (fun (l : List Int) => D.arr IntKind.u8 (32 : Nat) l) (List.map leafL (List.take x ls)) ++ [D.arr IntKind.u8 (32 : Nat) (leafL (intsOf ((List.map (fun (l : List Int) => D.ints IntKind.u8 l) ls).getD (↑x : Int).toNat (D.val (Value.bool false)))))]))) =
                              some (Blk.row (28 : TypeId) (D.slc (32 : Nat) (List.map (fun (l : List Int) => D.arr IntKind.u8 (32 : Nat) l) (List.map leafL (List.take (IntKind.i64.wrap ((↑x : Int) + (1 : Int))).toNat ls))))) ∧
                             True) ∧
                            true = true) ∧
                          (IntKind.i64.wrap ((↑x : Int) + (1 : Int))).toNat ≤ ls.length ∧ ls.length - (IntKind.i64.wrap ((↑x : Int) + (1 : Int))).toNat < ls.length - x
            | false => True ∧ True ∧ (false = false ∧ True) ∧ D.slc (32 : Nat) (List.map (fun (l : List Int) => D.arr IntKind.u8 (32 : Nat) l) (List.map leafL (List.take x ls))) = F) := by kernel_rfl
set_option maxRecDepth 100000 in
theorem vc73  (qs : List (List Int)) (F : D)  :
    (owed c73 (inv73 qs) Tryd.f73 [PD qs] F) = (
 True ∧
   (32 : Nat) ≠ (0 : Nat) ∧
    True ∧
     (((AV.d (D.val (Value.int IntKind.i64 (0 : Int))) = AV.d (D.val (Value.int IntKind.i64 (↑(0 : Nat) : Int))) ∧ AV.row (3 : Nat) = AV.row (3 : Nat) ∧ True) ∧ (some (Blk.row (28 : TypeId) (D.slc (32 : Nat) [])) = some (Blk.row (28 : TypeId) (D.slc (32 : Nat) (List.map (fun (l : List Int) => D.arr IntKind.u8 (32 : Nat) l) (flL (List.take (0 : Nat) qs))))) ∧ True) ∧ true = true) ∧
       (0 : Nat) ≤ qs.length + (1 : Nat)) ∧
      ∀ (x : Nat),
       (2 : Nat) * x ≤ qs.length + (1 : Nat) →
        true = true ∧
         True ∧
          True ∧
           True ∧
            True ∧
             match decide ((↑((2 : Nat) * x) : Int) < (↑(List.map (fun (l : List Int) => D.arr IntKind.u8 (32 : Nat) l) qs).length : Int)) with
             | true =>
              True ∧
               True ∧
                True ∧
                 True ∧
                  True ∧
                   match decide (IntKind.i64.wrap ((↑((2 : Nat) * x) : Int) + (1 : Int)) < (↑(List.map (fun (l : List Int) => D.arr IntKind.u8 (32 : Nat) l) qs).length : Int)) with
                   | true =>
                    True ∧
                     True ∧
                      True ∧
                       ((0 : Int) ≤ (↑((2 : Nat) * x) : Int) ∧
                         (↑((2 : Nat) * x) : Int) < (↑(List.map (fun (l : List Int) => D.arr IntKind.u8 (32 : Nat) l) qs).length : Int) ∧
                          (32 : Nat) ≠ (0 : Nat) ∧
                           (32 : Nat) = (32 : Nat) ∧ D.arr IntKind.u8 (32 : Nat) (arrOf ((List.map (fun (l : List Int) => D.arr IntKind.u8 (32 : Nat) l) qs).getD (↑((2 : Nat) * x) : Int).toNat (D.val (Value.bool false)))) = (List.map (fun (l : List Int) => D.arr IntKind.u8 (32 : Nat) l) qs).getD (↑((2 : Nat) * x) : Int).toNat (D.val (Value.bool false))) ∧
                        ((32 : Nat) ≠ (0 : Nat) ∧ (32 : Nat) = (32 : Nat) ∧ true = true) ∧
                         True ∧
                          True ∧
                           True ∧
                            ((0 : Int) ≤ IntKind.i64.wrap ((↑((2 : Nat) * x) : Int) + (1 : Int)) ∧
                              IntKind.i64.wrap ((↑((2 : Nat) * x) : Int) + (1 : Int)) < (↑(List.map (fun (l : List Int) => D.arr IntKind.u8 (32 : Nat) l) qs).length : Int) ∧
                               (32 : Nat) ≠ (0 : Nat) ∧
                                (32 : Nat) = (32 : Nat) ∧
                                 D.arr IntKind.u8 (32 : Nat) (arrOf ((List.map (fun (l : List Int) => D.arr IntKind.u8 (32 : Nat) l) qs).getD (IntKind.i64.wrap ((↑((2 : Nat) * x) : Int) + (1 : Int))).toNat (D.val (Value.bool false)))) =
                                  (List.map (fun (l : List Int) => D.arr IntKind.u8 (32 : Nat) l) qs).getD (IntKind.i64.wrap ((↑((2 : Nat) * x) : Int) + (1 : Int))).toNat (D.val (Value.bool false))) ∧
                             ((32 : Nat) ≠ (0 : Nat) ∧ (32 : Nat) = (32 : Nat) ∧ true = true) ∧
                              (∃ (a : List Int),
                                ∃ (b : List Int),
                                 [D.arr IntKind.u8 (32 : Nat) (arrOf ((List.map (fun (l : List Int) => D.arr IntKind.u8 (32 : Nat) l) qs).getD (↑((2 : Nat) * x) : Int).toNat (D.val (Value.bool false)))),
                                    D.arr IntKind.u8 (32 : Nat) (arrOf ((List.map (fun (l : List Int) => D.arr IntKind.u8 (32 : Nat) l) qs).getD (IntKind.i64.wrap ((↑((2 : Nat) * x) : Int) + (1 : Int))).toNat (D.val (Value.bool false))))] =
                                   [D.arr IntKind.u8 (32 : Nat) a, D.arr IntKind.u8 (32 : Nat) b] ∧
                                  isD a ∧ isD b) ∧
                               ((1 : Nat) ≤ (4096 : Nat) ∧ (32 : Nat) ≤ (256 : Nat) ∧ (32 : Nat) ≠ (0 : Nat)) ∧
                                ((28 : TypeId) = (28 : TypeId) ∧
                                  (23 : Nat) = (23 : Nat) ∧
                                   true = true ∧
                                    (List.map (fun (l : List Int) => D.arr IntKind.u8 (32 : Nat) l) (flL (List.take ((2 : Nat) * x) qs)) ++
                                        [D.arr IntKind.u8 (32 : Nat)
                                          (nodeL (arrOf ((List.map (fun (l : List Int) => D.arr IntKind.u8 (32 : Nat) l) qs).getD (↑((2 : Nat) * x) : Int).toNat (D.val (Value.bool false))))
                                           (arrOf ((List.map (fun (l : List Int) => D.arr IntKind.u8 (32 : Nat) l) qs).getD (IntKind.i64.wrap ((↑((2 : Nat) * x) : Int) + (1 : Int))).toNat (D.val (Value.bool false)))))]).length ≤
                                      (140737488355328 : Nat) ∧
                                     (List.map (fun (l : List Int) => D.arr IntKind.u8 (32 : Nat) l) (flL (List.take ((2 : Nat) * x) qs)) ++
                                          [D.arr IntKind.u8 (32 : Nat)
                                            (nodeL (arrOf ((List.map (fun (l : List Int) => D.arr IntKind.u8 (32 : Nat) l) qs).getD (↑((2 : Nat) * x) : Int).toNat (D.val (Value.bool false))))
                                             (arrOf ((List.map (fun (l : List Int) => D.arr IntKind.u8 (32 : Nat) l) qs).getD (IntKind.i64.wrap ((↑((2 : Nat) * x) : Int) + (1 : Int))).toNat (D.val (Value.bool false)))))]).length *
                                        (32 : Nat) ≤
                                       (140737488355328 : Nat) ∧
                                      (32 : Nat) ≠ (0 : Nat) ∧ (32 : Nat) = (32 : Nat)) ∧
                                 True ∧
                                  True ∧
                                   True ∧
                                    True ∧
                                     ((AV.d (D.val (Value.int IntKind.i64 (IntKind.i64.wrap ((↑((2 : Nat) * x) : Int) + (2 : Int))))) = AV.d (D.val (Value.int IntKind.i64 (↑((2 : Nat) * ((IntKind.i64.wrap ((↑((2 : Nat) * x) : Int) + (2 : Int))).toNat / (2 : Nat))) : Int))) ∧ AV.row (3 : Nat) = AV.row (3 : Nat) ∧ True) ∧
                                       (some
                                           (Blk.row (28 : TypeId)
                                            (D.slc (32 : Nat)
                                             (List.map (fun (l : List Int) => D.arr IntKind.u8 (32 : Nat) l) (flL (List.take ((2 : Nat) * x) qs)) ++
                                              [D.arr IntKind.u8 (32 : Nat)
                                                (nodeL (arrOf ((List.map (fun (l : List Int) => D.arr IntKind.u8 (32 : Nat) l) qs).getD (↑((2 : Nat) * x) : Int).toNat (D.val (Value.bool false))))
                                                 (arrOf ((List.map (fun (l : List Int) => D.arr IntKind.u8 (32 : Nat) l) qs).getD (IntKind.i64.wrap ((↑((2 : Nat) * x) : Int) + (1 : Int))).toNat (D.val (Value.bool false)))))]))) =
                                          some (Blk.row (28 : TypeId) (D.slc (32 : Nat) (List.map (fun (l : List Int) => D.arr IntKind.u8 (32 : Nat) l) (flL (List.take ((2 : Nat) * ((IntKind.i64.wrap ((↑((2 : Nat) * x) : Int) + (2 : Int))).toNat / (2 : Nat))) qs))))) ∧
                                         True) ∧
                                        true = true) ∧
                                      (2 : Nat) * ((IntKind.i64.wrap ((↑((2 : Nat) * x) : Int) + (2 : Int))).toNat / (2 : Nat)) ≤ qs.length + (1 : Nat) ∧ qs.length + (1 : Nat) - (2 : Nat) * ((IntKind.i64.wrap ((↑((2 : Nat) * x) : Int) + (2 : Int))).toNat / (2 : Nat)) < qs.length + (1 : Nat) - (2 : Nat) * x
                   | false =>
                    True ∧
                     True ∧
                      True ∧
                       ((0 : Int) ≤ (↑((2 : Nat) * x) : Int) ∧
                         (↑((2 : Nat) * x) : Int) < (↑(List.map (fun (l : List Int) => D.arr IntKind.u8 (32 : Nat) l) qs).length : Int) ∧
                          (32 : Nat) ≠ (0 : Nat) ∧
                           (32 : Nat) = (32 : Nat) ∧ D.arr IntKind.u8 (32 : Nat) (arrOf ((List.map (fun (l : List Int) => D.arr IntKind.u8 (32 : Nat) l) qs).getD (↑((2 : Nat) * x) : Int).toNat (D.val (Value.bool false)))) = (List.map (fun (l : List Int) => D.arr IntKind.u8 (32 : Nat) l) qs).getD (↑((2 : Nat) * x) : Int).toNat (D.val (Value.bool false))) ∧
                        ((32 : Nat) ≠ (0 : Nat) ∧ (32 : Nat) = (32 : Nat) ∧ true = true) ∧
                         ((1 : Nat) ≤ (4096 : Nat) ∧ (32 : Nat) ≤ (256 : Nat) ∧ (32 : Nat) ≠ (0 : Nat)) ∧
                          ((28 : TypeId) = (28 : TypeId) ∧
                            (23 : Nat) = (23 : Nat) ∧
                             true = true ∧
                              (List.map (fun (l : List Int) => D.arr IntKind.u8 (32 : Nat) l) (flL (List.take ((2 : Nat) * x) qs)) ++ [D.arr IntKind.u8 (32 : Nat) (arrOf ((List.map (fun (l : List Int) => D.arr IntKind.u8 (32 : Nat) l) qs).getD (↑((2 : Nat) * x) : Int).toNat (D.val (Value.bool false))))]).length ≤ (140737488355328 : Nat) ∧
                               (List.map (fun (l : List Int) => D.arr IntKind.u8 (32 : Nat) l) (flL (List.take ((2 : Nat) * x) qs)) ++ [D.arr IntKind.u8 (32 : Nat) (arrOf ((List.map (fun (l : List Int) => D.arr IntKind.u8 (32 : Nat) l) qs).getD (↑((2 : Nat) * x) : Int).toNat (D.val (Value.bool false))))]).length * (32 : Nat) ≤ (140737488355328 : Nat) ∧
                                (32 : Nat) ≠ (0 : Nat) ∧ (32 : Nat) = (32 : Nat)) ∧
                           True ∧
                            True ∧
                             True ∧
                              True ∧
                               ((AV.d (D.val (Value.int IntKind.i64 (IntKind.i64.wrap ((↑((2 : Nat) * x) : Int) + (2 : Int))))) = AV.d (D.val (Value.int IntKind.i64 (↑((2 : Nat) * ((IntKind.i64.wrap ((↑((2 : Nat) * x) : Int) + (2 : Int))).toNat / (2 : Nat))) : Int))) ∧ AV.row (3 : Nat) = AV.row (3 : Nat) ∧ True) ∧
                                 (some (Blk.row (28 : TypeId) (D.slc (32 : Nat) (List.map (fun (l : List Int) => D.arr IntKind.u8 (32 : Nat) l) (flL (List.take ((2 : Nat) * x) qs)) ++ [D.arr IntKind.u8 (32 : Nat) (arrOf ((List.map (fun (l : List Int) => D.arr IntKind.u8 (32 : Nat) l) qs).getD (↑((2 : Nat) * x) : Int).toNat (D.val (Value.bool false))))]))) =
                                    some (Blk.row (28 : TypeId) (D.slc (32 : Nat) (List.map (fun (l : List Int) => D.arr IntKind.u8 (32 : Nat) l) (flL (List.take ((2 : Nat) * ((IntKind.i64.wrap ((↑((2 : Nat) * x) : Int) + (2 : Int))).toNat / (2 : Nat))) qs))))) ∧
                                   True) ∧
                                  true = true) ∧
                                (2 : Nat) * ((IntKind.i64.wrap ((↑((2 : Nat) * x) : Int) + (2 : Int))).toNat / (2 : Nat)) ≤ qs.length + (1 : Nat) ∧ qs.length + (1 : Nat) - (2 : Nat) * ((IntKind.i64.wrap ((↑((2 : Nat) * x) : Int) + (2 : Int))).toNat / (2 : Nat)) < qs.length + (1 : Nat) - (2 : Nat) * x
             | false => True ∧ True ∧ (false = false ∧ True) ∧ D.slc (32 : Nat) (List.map (fun (l : List Int) => D.arr IntKind.u8 (32 : Nat) l) (flL (List.take ((2 : Nat) * x) qs))) = F) := by kernel_rfl
set_option maxRecDepth 100000 in
theorem vc13  (ls : List (List Int)) (F : D)  :
    (owed c13 (inv13 ls) Tryd.f13 [LD ls] F) = (
 (True ∧ (32 : Nat) ≠ (0 : Nat)) ∧
   True ∧
    True ∧
     True ∧
      match (↑(List.map (fun (l : List Int) => D.ints IntKind.u8 l) ls).length : Int) == (0 : Int) with
      | true =>
       (∃ (p : List Int), [D.str (ints { data := { toList := [] } })] = [D.str p] ∧ isBytes p ∧ p.length ≤ (1000000000000000 : Nat)) ∧ (Sk.arr (32 : Nat) = Sk.arr (32 : Nat) ∧ (32 : Nat) ≠ (0 : Nat) ∧ (32 : Nat) = (32 : Nat) ∧ false = false) ∧ (((32 : Nat) ≠ (0 : Nat) ∧ (32 : Nat) = (32 : Nat) ∧ true = true) ∧ True) ∧ D.arr IntKind.u8 (32 : Nat) (digL (ints { data := { toList := [] } })) = F
      | false =>
       True ∧
        (∃ (ls_1 : List (List Int)), [D.slc (1 : Nat) (List.map (fun (l : List Int) => D.ints IntKind.u8 l) ls)] = [D.slc (1 : Nat) (List.map (fun (l : List Int) => D.ints IntKind.u8 l) ls_1)] ∧ okLs ls_1) ∧
         True ∧
          (((AV.d (D.slc (32 : Nat) (List.map (fun (l : List Int) => D.arr IntKind.u8 (32 : Nat) l) (List.map leafL (lsOf (D.slc (1 : Nat) (List.map (fun (l : List Int) => D.ints IntKind.u8 l) ls)))))) =
               AV.d (D.slc (32 : Nat) (List.map (fun (l : List Int) => D.arr IntKind.u8 (32 : Nat) l) (qsOf (D.slc (32 : Nat) (List.map (fun (l : List Int) => D.arr IntKind.u8 (32 : Nat) l) (List.map leafL (lsOf (D.slc (1 : Nat) (List.map (fun (l : List Int) => D.ints IntKind.u8 l) ls))))))))) ∧
              True) ∧
             (some
                 (Blk.fix
                  (D.arr IntKind.u8 (32 : Nat)
                   [(0 : Int), (0 : Int), (0 : Int), (0 : Int), (0 : Int), (0 : Int), (0 : Int), (0 : Int), (0 : Int), (0 : Int), (0 : Int), (0 : Int), (0 : Int), (0 : Int), (0 : Int), (0 : Int), (0 : Int), (0 : Int), (0 : Int), (0 : Int), (0 : Int), (0 : Int), (0 : Int), (0 : Int), (0 : Int), (0 : Int), (0 : Int), (0 : Int), (0 : Int), (0 : Int), (0 : Int), (0 : Int)])) =
                some
                 (Blk.fix
                  (D.arr IntKind.u8 (32 : Nat)
                   [(0 : Int), (0 : Int), (0 : Int), (0 : Int), (0 : Int), (0 : Int), (0 : Int), (0 : Int), (0 : Int), (0 : Int), (0 : Int), (0 : Int), (0 : Int), (0 : Int), (0 : Int), (0 : Int), (0 : Int), (0 : Int), (0 : Int), (0 : Int), (0 : Int), (0 : Int), (0 : Int), (0 : Int), (0 : Int), (0 : Int), (0 : Int), (0 : Int), (0 : Int), (0 : Int), (0 : Int), (0 : Int)])) ∧
               True) ∧
              true = true) ∧
            okQs (qsOf (D.slc (32 : Nat) (List.map (fun (l : List Int) => D.arr IntKind.u8 (32 : Nat) l) (List.map leafL (lsOf (D.slc (1 : Nat) (List.map (fun (l : List Int) => D.ints IntKind.u8 l) ls))))))) ∧
             (1 : Nat) ≤ (qsOf (D.slc (32 : Nat) (List.map (fun (l : List Int) => D.arr IntKind.u8 (32 : Nat) l) (List.map leafL (lsOf (D.slc (1 : Nat) (List.map (fun (l : List Int) => D.ints IntKind.u8 l) ls))))))).length ∧
              trR (qsOf (D.slc (32 : Nat) (List.map (fun (l : List Int) => D.arr IntKind.u8 (32 : Nat) l) (List.map leafL (lsOf (D.slc (1 : Nat) (List.map (fun (l : List Int) => D.ints IntKind.u8 l) ls))))))) = trR (List.map leafL ls)) ∧
           ∀ (x : List (List Int)),
            okQs x ∧ (1 : Nat) ≤ x.length ∧ trR x = trR (List.map leafL ls) →
             true = true ∧
              True ∧
               True ∧
                True ∧
                 match decide ((↑(List.map (fun (l : List Int) => D.arr IntKind.u8 (32 : Nat) l) x).length : Int) > (1 : Int)) with
                 | true =>
                  True ∧
                   (∃ (qs : List (List Int)), [D.slc (32 : Nat) (List.map (fun (l : List Int) => D.arr IntKind.u8 (32 : Nat) l) x)] = [D.slc (32 : Nat) (List.map (fun (l : List Int) => D.arr IntKind.u8 (32 : Nat) l) qs)] ∧ okQs qs) ∧
                    True ∧
                     ((AV.d (D.slc (32 : Nat) (List.map (fun (l : List Int) => D.arr IntKind.u8 (32 : Nat) l) (flL (qsOf (D.slc (32 : Nat) (List.map (fun (l : List Int) => D.arr IntKind.u8 (32 : Nat) l) x)))))) =
                         AV.d (D.slc (32 : Nat) (List.map (fun (l : List Int) => D.arr IntKind.u8 (32 : Nat) l) (qsOf (D.slc (32 : Nat) (List.map (fun (l : List Int) => D.arr IntKind.u8 (32 : Nat) l) (flL (qsOf (D.slc (32 : Nat) (List.map (fun (l : List Int) => D.arr IntKind.u8 (32 : Nat) l) x))))))))) ∧
                        True) ∧
                       (some
                           (Blk.fix
                            (D.arr IntKind.u8 (32 : Nat)
                             [(0 : Int), (0 : Int), (0 : Int), (0 : Int), (0 : Int), (0 : Int), (0 : Int), (0 : Int), (0 : Int), (0 : Int), (0 : Int), (0 : Int), (0 : Int), (0 : Int), (0 : Int), (0 : Int), (0 : Int), (0 : Int), (0 : Int), (0 : Int), (0 : Int), (0 : Int), (0 : Int), (0 : Int), (0 : Int), (0 : Int), (0 : Int), (0 : Int), (0 : Int), (0 : Int), (0 : Int),
                              (0 : Int)])) =
                          some
                           (Blk.fix
                            (D.arr IntKind.u8 (32 : Nat)
                             [(0 : Int), (0 : Int), (0 : Int), (0 : Int), (0 : Int), (0 : Int), (0 : Int), (0 : Int), (0 : Int), (0 : Int), (0 : Int), (0 : Int), (0 : Int), (0 : Int), (0 : Int), (0 : Int), (0 : Int), (0 : Int), (0 : Int), (0 : Int), (0 : Int), (0 : Int), (0 : Int), (0 : Int), (0 : Int), (0 : Int), (0 : Int), (0 : Int), (0 : Int), (0 : Int), (0 : Int),
                              (0 : Int)])) ∧
                         True) ∧
                        true = true) ∧
                      (okQs (qsOf (D.slc (32 : Nat) (List.map (fun (l : List Int) => D.arr IntKind.u8 (32 : Nat) l) (flL (qsOf (D.slc (32 : Nat) (List.map (fun (l : List Int) => D.arr IntKind.u8 (32 : Nat) l) x))))))) ∧
                        (1 : Nat) ≤ (qsOf (D.slc (32 : Nat) (List.map (fun (l : List Int) => D.arr IntKind.u8 (32 : Nat) l) (flL (qsOf (D.slc (32 : Nat) (List.map (fun (l : List Int) => D.arr IntKind.u8 (32 : Nat) l) x))))))).length ∧
                         trR (qsOf (D.slc (32 : Nat) (List.map (fun (l : List Int) => D.arr IntKind.u8 (32 : Nat) l) (flL (qsOf (D.slc (32 : Nat) (List.map (fun (l : List Int) => D.arr IntKind.u8 (32 : Nat) l) x))))))) = trR (List.map leafL ls)) ∧
                       (qsOf (D.slc (32 : Nat) (List.map (fun (l : List Int) => D.arr IntKind.u8 (32 : Nat) l) (flL (qsOf (D.slc (32 : Nat) (List.map (fun (l : List Int) => D.arr IntKind.u8 (32 : Nat) l) x))))))).length < x.length
                 | false =>
                  True ∧
                   ((0 : Int) ≤ (0 : Int) ∧
                     (0 : Int) < (↑(List.map (fun (l : List Int) => D.arr IntKind.u8 (32 : Nat) l) x).length : Int) ∧
                      (32 : Nat) ≠ (0 : Nat) ∧ (32 : Nat) = (32 : Nat) ∧ D.arr IntKind.u8 (32 : Nat) (arrOf ((List.map (fun (l : List Int) => D.arr IntKind.u8 (32 : Nat) l) x).getD (0 : Nat) (D.val (Value.bool false)))) = (List.map (fun (l : List Int) => D.arr IntKind.u8 (32 : Nat) l) x).getD (0 : Nat) (D.val (Value.bool false))) ∧
                    ((32 : Nat) ≠ (0 : Nat) ∧ (32 : Nat) = (32 : Nat) ∧ true = true) ∧
                     (Sk.arr (32 : Nat) = Sk.arr (32 : Nat) ∧ (32 : Nat) ≠ (0 : Nat) ∧ (32 : Nat) = (32 : Nat) ∧ false = false) ∧ (((32 : Nat) ≠ (0 : Nat) ∧ (32 : Nat) = (32 : Nat) ∧ true = true) ∧ True) ∧ D.arr IntKind.u8 (32 : Nat) (arrOf ((List.map (fun (l : List Int) => D.arr IntKind.u8 (32 : Nat) l) x).getD (0 : Nat) (D.val (Value.bool false)))) = F) := by kernel_rfl
set_option maxRecDepth 100000 in
theorem vc24  (n : Nat) (ls : List (List Int)) (F : D)  :
    (owed (c24 n) (fun _ => none) Tryd.f24 [LD ls] F) = (
 (True ∧ (32 : Nat) ≠ (0 : Nat)) ∧
   True ∧
    True ∧
     True ∧
      True ∧
       True ∧
        True ∧
         match (↑(List.map (fun (l : List Int) => D.ints IntKind.u8 l) ls).length : Int) == (0 : Int) with
         | true => (∃ (p : List Int), [D.ints IntKind.u8 []] = [D.ints IntKind.u8 p] ∧ isBytes p ∧ p.length ≤ (1000000000000000 : Nat)) ∧ (Sk.arr (32 : Nat) = Sk.arr (32 : Nat) ∧ (32 : Nat) ≠ (0 : Nat) ∧ (32 : Nat) = (32 : Nat) ∧ false = false) ∧ (((32 : Nat) ≠ (0 : Nat) ∧ (32 : Nat) = (32 : Nat) ∧ true = true) ∧ True) ∧ D.arr IntKind.u8 (32 : Nat) (digL []) = F
         | false =>
          True ∧
           True ∧
            match (↑(List.map (fun (l : List Int) => D.ints IntKind.u8 l) ls).length : Int) == (1 : Int) with
            | true =>
             True ∧
              ((0 : Int) ≤ (0 : Int) ∧
                (0 : Int) < (↑(List.map (fun (l : List Int) => D.ints IntKind.u8 l) ls).length : Int) ∧ (1 : Nat) ≠ (0 : Nat) ∧ (1 : Nat) = (1 : Nat) ∧ D.ints IntKind.u8 (intsOf ((List.map (fun (l : List Int) => D.ints IntKind.u8 l) ls).getD (0 : Nat) (D.val (Value.bool false)))) = (List.map (fun (l : List Int) => D.ints IntKind.u8 l) ls).getD (0 : Nat) (D.val (Value.bool false))) ∧
               ((1 : Nat) ≠ (0 : Nat) ∧ (1 : Nat) = (1 : Nat) ∧ false = false) ∧
                (∃ (p : List Int), [D.ints IntKind.u8 (intsOf ((List.map (fun (l : List Int) => D.ints IntKind.u8 l) ls).getD (0 : Nat) (D.val (Value.bool false))))] = [D.ints IntKind.u8 p] ∧ isBytes p ∧ p.length ≤ (900000000000000 : Nat)) ∧
                 (Sk.arr (32 : Nat) = Sk.arr (32 : Nat) ∧ (32 : Nat) ≠ (0 : Nat) ∧ (32 : Nat) = (32 : Nat) ∧ false = false) ∧ (((32 : Nat) ≠ (0 : Nat) ∧ (32 : Nat) = (32 : Nat) ∧ true = true) ∧ True) ∧ D.arr IntKind.u8 (32 : Nat) (leafL (intsOf ((List.map (fun (l : List Int) => D.ints IntKind.u8 l) ls).getD (0 : Nat) (D.val (Value.bool false))))) = F
            | false =>
             True ∧
              (∃ (m : Nat), [D.val (Value.int IntKind.i64 (↑(List.map (fun (l : List Int) => D.ints IntKind.u8 l) ls).length : Int))] = [D.val (Value.int IntKind.i64 (↑m : Int))] ∧ (2 : Nat) ≤ m ∧ m ≤ (65536 : Nat)) ∧
               True ∧
                True ∧
                 True ∧
                  ((0 : Int) ≤ (0 : Int) ∧ (0 : Int) ≤ (↑(hf (↑(List.map (fun (l : List Int) => D.ints IntKind.u8 l) ls).length : Int).toNat) : Int) ∧ (↑(hf (↑(List.map (fun (l : List Int) => D.ints IntKind.u8 l) ls).length : Int).toNat) : Int) ≤ (↑(List.map (fun (l : List Int) => D.ints IntKind.u8 l) ls).length : Int) ∧ (1 : Nat) ≠ (0 : Nat) ∧ (1 : Nat) = (1 : Nat)) ∧
                   (∃ (ls_1 : List (List Int)), [D.slc (1 : Nat) (List.drop (0 : Nat) (List.take (↑(hf (↑(List.map (fun (l : List Int) => D.ints IntKind.u8 l) ls).length : Int).toNat) : Int).toNat (List.map (fun (l : List Int) => D.ints IntKind.u8 l) ls)))] = [D.slc (1 : Nat) (List.map (fun (l : List Int) => D.ints IntKind.u8 l) ls_1)] ∧ okLs ls_1 ∧ ls_1.length < n) ∧
                    True ∧
                     True ∧
                      ((0 : Int) ≤ (↑(hf (↑(List.map (fun (l : List Int) => D.ints IntKind.u8 l) ls).length : Int).toNat) : Int) ∧
                        (↑(hf (↑(List.map (fun (l : List Int) => D.ints IntKind.u8 l) ls).length : Int).toNat) : Int) ≤ (↑(List.map (fun (l : List Int) => D.ints IntKind.u8 l) ls).length : Int) ∧
                         (↑(List.map (fun (l : List Int) => D.ints IntKind.u8 l) ls).length : Int) ≤ (↑(List.map (fun (l : List Int) => D.ints IntKind.u8 l) ls).length : Int) ∧ (1 : Nat) ≠ (0 : Nat) ∧ (1 : Nat) = (1 : Nat)) ∧
                       (∃ (ls_1 : List (List Int)),
                         [D.slc (1 : Nat) (List.drop (↑(hf (↑(List.map (fun (l : List Int) => D.ints IntKind.u8 l) ls).length : Int).toNat) : Int).toNat (List.take (↑(List.map (fun (l : List Int) => D.ints IntKind.u8 l) ls).length : Int).toNat (List.map (fun (l : List Int) => D.ints IntKind.u8 l) ls)))] =
                           [D.slc (1 : Nat) (List.map (fun (l : List Int) => D.ints IntKind.u8 l) ls_1)] ∧
                          okLs ls_1 ∧ ls_1.length < n) ∧
                        (∃ (a : List Int),
                          ∃ (b : List Int),
                           [D.arr IntKind.u8 (32 : Nat) (rtL (lsOf (D.slc (1 : Nat) (List.drop (0 : Nat) (List.take (↑(hf (↑(List.map (fun (l : List Int) => D.ints IntKind.u8 l) ls).length : Int).toNat) : Int).toNat (List.map (fun (l : List Int) => D.ints IntKind.u8 l) ls)))))),
                              D.arr IntKind.u8 (32 : Nat) (rtL (lsOf (D.slc (1 : Nat) (List.drop (↑(hf (↑(List.map (fun (l : List Int) => D.ints IntKind.u8 l) ls).length : Int).toNat) : Int).toNat (List.take (↑(List.map (fun (l : List Int) => D.ints IntKind.u8 l) ls).length : Int).toNat (List.map (fun (l : List Int) => D.ints IntKind.u8 l) ls))))))] =
                             [D.arr IntKind.u8 (32 : Nat) a, D.arr IntKind.u8 (32 : Nat) b] ∧
                            isD a ∧ isD b) ∧
                         (Sk.arr (32 : Nat) = Sk.arr (32 : Nat) ∧ (32 : Nat) ≠ (0 : Nat) ∧ (32 : Nat) = (32 : Nat) ∧ false = false) ∧
                          (((32 : Nat) ≠ (0 : Nat) ∧ (32 : Nat) = (32 : Nat) ∧ true = true) ∧ True) ∧
                           D.arr IntKind.u8 (32 : Nat)
                             (nodeL (rtL (lsOf (D.slc (1 : Nat) (List.drop (0 : Nat) (List.take (↑(hf (↑(List.map (fun (l : List Int) => D.ints IntKind.u8 l) ls).length : Int).toNat) : Int).toNat (List.map (fun (l : List Int) => D.ints IntKind.u8 l) ls))))))
                              (rtL (lsOf (D.slc (1 : Nat) (List.drop (↑(hf (↑(List.map (fun (l : List Int) => D.ints IntKind.u8 l) ls).length : Int).toNat) : Int).toNat (List.take (↑(List.map (fun (l : List Int) => D.ints IntKind.u8 l) ls).length : Int).toNat (List.map (fun (l : List Int) => D.ints IntKind.u8 l) ls))))))) =
                            F) := by kernel_rfl
set_option maxRecDepth 100000 in
theorem vc18  (n : Nat) (ls : List (List Int)) (i : Int) (F : D)  :
    (owedRw (c18 n) (fun _ => none) Tryd.f18 28 [LD ls, i64 i] F) = (
 True ∧
   True ∧
    True ∧
     True ∧
      True ∧
       match decide (i < (0 : Int)) with
       | true => True ∧ True ∧ True ∧ (false = false ∧ True) ∧ true = true ∧ D.tup [D.slc (32 : Nat) [], D.val (Value.int IntKind.i64 (1 : Int))] = F
       | false =>
        True ∧
         True ∧
          True ∧
           True ∧
            True ∧
             match decide (i ≥ (↑(List.map (fun (l : List Int) => D.ints IntKind.u8 l) ls).length : Int)) with
             | true => True ∧ True ∧ (false = false ∧ True) ∧ true = true ∧ D.tup [D.slc (32 : Nat) [], D.val (Value.int IntKind.i64 (1 : Int))] = F
             | false =>
              True ∧
               True ∧
                True ∧
                 match (↑(List.map (fun (l : List Int) => D.ints IntKind.u8 l) ls).length : Int) == (1 : Int) with
                 | true => True ∧ True ∧ (false = false ∧ True) ∧ true = true ∧ D.tup [D.slc (32 : Nat) [], D.val (Value.int IntKind.i64 (0 : Int))] = F
                 | false =>
                  True ∧
                   True ∧
                    (∃ (m : Nat), [D.val (Value.int IntKind.i64 (↑(List.map (fun (l : List Int) => D.ints IntKind.u8 l) ls).length : Int))] = [D.val (Value.int IntKind.i64 (↑m : Int))] ∧ (2 : Nat) ≤ m ∧ m ≤ (65536 : Nat)) ∧
                     True ∧
                      True ∧
                       True ∧
                        True ∧
                         match decide (i < (↑(hf (↑(List.map (fun (l : List Int) => D.ints IntKind.u8 l) ls).length : Int).toNat) : Int)) with
                         | true =>
                          True ∧
                           True ∧
                            ((0 : Int) ≤ (0 : Int) ∧
                              (0 : Int) ≤ (↑(hf (↑(List.map (fun (l : List Int) => D.ints IntKind.u8 l) ls).length : Int).toNat) : Int) ∧ (↑(hf (↑(List.map (fun (l : List Int) => D.ints IntKind.u8 l) ls).length : Int).toNat) : Int) ≤ (↑(List.map (fun (l : List Int) => D.ints IntKind.u8 l) ls).length : Int) ∧ (1 : Nat) ≠ (0 : Nat) ∧ (1 : Nat) = (1 : Nat)) ∧
                             True ∧
                              (∃ (ls_1 : List (List Int)),
                                ∃ (i_1 : Int),
                                 [D.slc (1 : Nat) (List.drop (0 : Nat) (List.take (↑(hf (↑(List.map (fun (l : List Int) => D.ints IntKind.u8 l) ls).length : Int).toNat) : Int).toNat (List.map (fun (l : List Int) => D.ints IntKind.u8 l) ls))), D.val (Value.int IntKind.i64 i)] =
                                   [D.slc (1 : Nat) (List.map (fun (l : List Int) => D.ints IntKind.u8 l) ls_1), D.val (Value.int IntKind.i64 i_1)] ∧
                                  okLs ls_1 ∧ ls_1.length < n ∧ (-9223372036854775808 : Int) ≤ i_1 ∧ i_1 ≤ (9223372036854775807 : Int)) ∧
                               True ∧
                                True ∧
                                 ((0 : Nat) < (1 : Nat) ∧ false = false) ∧
                                  True ∧
                                   True ∧
                                    True ∧
                                     True ∧
                                      True ∧
                                       ((0 : Int) ≤ (↑(hf (↑(List.map (fun (l : List Int) => D.ints IntKind.u8 l) ls).length : Int).toNat) : Int) ∧
                                         (↑(hf (↑(List.map (fun (l : List Int) => D.ints IntKind.u8 l) ls).length : Int).toNat) : Int) ≤ (↑(List.map (fun (l : List Int) => D.ints IntKind.u8 l) ls).length : Int) ∧
                                          (↑(List.map (fun (l : List Int) => D.ints IntKind.u8 l) ls).length : Int) ≤ (↑(List.map (fun (l : List Int) => D.ints IntKind.u8 l) ls).length : Int) ∧ (1 : Nat) ≠ (0 : Nat) ∧ (1 : Nat) = (1 : Nat)) ∧
                                        (∃ (ls_1 : List (List Int)),
                                          [D.slc (1 : Nat) (List.drop (↑(hf (↑(List.map (fun (l : List Int) => D.ints IntKind.u8 l) ls).length : Int).toNat) : Int).toNat (List.take (↑(List.map (fun (l : List Int) => D.ints IntKind.u8 l) ls).length : Int).toNat (List.map (fun (l : List Int) => D.ints IntKind.u8 l) ls)))] =
                                            [D.slc (1 : Nat) (List.map (fun (l : List Int) => D.ints IntKind.u8 l) ls_1)] ∧
                                           okLs ls_1) ∧
                                         ((1 : Nat) ≤ (4096 : Nat) ∧ (32 : Nat) ≤ (256 : Nat) ∧ (32 : Nat) ≠ (0 : Nat)) ∧
                                          ((8500028 : TypeId) - (8500000 : TypeId) = (28 : TypeId) ∧
                                            (23 : Nat) = (23 : Nat) ∧
                                             true = true ∧
                                              (List.map (fun (l : List Int) => D.arr IntKind.u8 (32 : Nat) l) (pthL (lsOf (D.slc (1 : Nat) (List.drop (0 : Nat) (List.take (↑(hf (↑(List.map (fun (l : List Int) => D.ints IntKind.u8 l) ls).length : Int).toNat) : Int).toNat (List.map (fun (l : List Int) => D.ints IntKind.u8 l) ls))))) i) ++
                                                  [D.arr IntKind.u8 (32 : Nat)
                                                    (rtL
                                                     (lsOf
                                                      (D.slc (1 : Nat) (List.drop (↑(hf (↑(List.map (fun (l : List Int) => D.ints IntKind.u8 l) ls).length : Int).toNat) : Int).toNat (List.take (↑(List.map (fun (l : List Int) => D.ints IntKind.u8 l) ls).length : Int).toNat (List.map (fun (l : List Int) => D.ints IntKind.u8 l) ls))))))]).length ≤
                                                (140737488355328 : Nat) ∧
                                               (List.map (fun (l : List Int) => D.arr IntKind.u8 (32 : Nat) l) (pthL (lsOf (D.slc (1 : Nat) (List.drop (0 : Nat) (List.take (↑(hf (↑(List.map (fun (l : List Int) => D.ints IntKind.u8 l) ls).length : Int).toNat) : Int).toNat (List.map (fun (l : List Int) => D.ints IntKind.u8 l) ls))))) i) ++
                                                    [D.arr IntKind.u8 (32 : Nat)
                                                      (rtL
                                                       (lsOf
                                                        (D.slc (1 : Nat)
                                                         (List.drop (↑(hf (↑(List.map (fun (l : List Int) => D.ints IntKind.u8 l) ls).length : Int).toNat) : Int).toNat (List.take (↑(List.map (fun (l : List Int) => D.ints IntKind.u8 l) ls).length : Int).toNat (List.map (fun (l : List Int) => D.ints IntKind.u8 l) ls))))))]).length *
                                                  (32 : Nat) ≤
                                                 (140737488355328 : Nat) ∧
                                                (32 : Nat) ≠ (0 : Nat) ∧ (32 : Nat) = (32 : Nat)) ∧
                                           True ∧
                                            True ∧
                                             (false = false ∧ True) ∧
                                              (28 : TypeId) = (28 : TypeId) ∧
                                               True ∧
                                                D.tup
                                                  [D.slc (32 : Nat)
                                                    (List.map (fun (l : List Int) => D.arr IntKind.u8 (32 : Nat) l) (pthL (lsOf (D.slc (1 : Nat) (List.drop (0 : Nat) (List.take (↑(hf (↑(List.map (fun (l : List Int) => D.ints IntKind.u8 l) ls).length : Int).toNat) : Int).toNat (List.map (fun (l : List Int) => D.ints IntKind.u8 l) ls))))) i) ++
                                                     [D.arr IntKind.u8 (32 : Nat)
                                                       (rtL
                                                        (lsOf (D.slc (1 : Nat) (List.drop (↑(hf (↑(List.map (fun (l : List Int) => D.ints IntKind.u8 l) ls).length : Int).toNat) : Int).toNat (List.take (↑(List.map (fun (l : List Int) => D.ints IntKind.u8 l) ls).length : Int).toNat (List.map (fun (l : List Int) => D.ints IntKind.u8 l) ls))))))]),
                                                   D.val (Value.int IntKind.i64 (0 : Int))] =
                                                 F
                         | false =>
                          True ∧
                           True ∧
                            ((0 : Int) ≤ (↑(hf (↑(List.map (fun (l : List Int) => D.ints IntKind.u8 l) ls).length : Int).toNat) : Int) ∧
                              (↑(hf (↑(List.map (fun (l : List Int) => D.ints IntKind.u8 l) ls).length : Int).toNat) : Int) ≤ (↑(List.map (fun (l : List Int) => D.ints IntKind.u8 l) ls).length : Int) ∧
                               (↑(List.map (fun (l : List Int) => D.ints IntKind.u8 l) ls).length : Int) ≤ (↑(List.map (fun (l : List Int) => D.ints IntKind.u8 l) ls).length : Int) ∧ (1 : Nat) ≠ (0 : Nat) ∧ (1 : Nat) = (1 : Nat)) ∧
                             True ∧
                              True ∧
                               True ∧
                                (∃ (ls_1 : List (List Int)),
                                  ∃ (i_1 : Int),
                                   [D.slc (1 : Nat) (List.drop (↑(hf (↑(List.map (fun (l : List Int) => D.ints IntKind.u8 l) ls).length : Int).toNat) : Int).toNat (List.take (↑(List.map (fun (l : List Int) => D.ints IntKind.u8 l) ls).length : Int).toNat (List.map (fun (l : List Int) => D.ints IntKind.u8 l) ls))),
                                      D.val (Value.int IntKind.i64 (IntKind.i64.wrap (i - (↑(hf (↑(List.map (fun (l : List Int) => D.ints IntKind.u8 l) ls).length : Int).toNat) : Int))))] =
                                     [D.slc (1 : Nat) (List.map (fun (l : List Int) => D.ints IntKind.u8 l) ls_1), D.val (Value.int IntKind.i64 i_1)] ∧
                                    okLs ls_1 ∧ ls_1.length < n ∧ (-9223372036854775808 : Int) ≤ i_1 ∧ i_1 ≤ (9223372036854775807 : Int)) ∧
                                 True ∧
                                  True ∧
                                   ((0 : Nat) < (1 : Nat) ∧ false = false) ∧
                                    True ∧
                                     True ∧
                                      True ∧
                                       True ∧
                                        True ∧
                                         ((0 : Int) ≤ (0 : Int) ∧
                                           (0 : Int) ≤ (↑(hf (↑(List.map (fun (l : List Int) => D.ints IntKind.u8 l) ls).length : Int).toNat) : Int) ∧
                                            (↑(hf (↑(List.map (fun (l : List Int) => D.ints IntKind.u8 l) ls).length : Int).toNat) : Int) ≤ (↑(List.map (fun (l : List Int) => D.ints IntKind.u8 l) ls).length : Int) ∧ (1 : Nat) ≠ (0 : Nat) ∧ (1 : Nat) = (1 : Nat)) ∧
                                          (∃ (ls_1 : List (List Int)),
                                            [D.slc (1 : Nat) (List.drop (0 : Nat) (List.take (↑(hf (↑(List.map (fun (l : List Int) => D.ints IntKind.u8 l) ls).length : Int).toNat) : Int).toNat (List.map (fun (l : List Int) => D.ints IntKind.u8 l) ls)))] = [D.slc (1 : Nat) (List.map (fun (l : List Int) => D.ints IntKind.u8 l) ls_1)] ∧ okLs ls_1) ∧
                                           ((1 : Nat) ≤ (4096 : Nat) ∧ (32 : Nat) ≤ (256 : Nat) ∧ (32 : Nat) ≠ (0 : Nat)) ∧
                                            ((8500028 : TypeId) - (8500000 : TypeId) = (28 : TypeId) ∧
                                              (23 : Nat) = (23 : Nat) ∧
                                               true = true ∧
                                                (List.map (fun (l : List Int) => D.arr IntKind.u8 (32 : Nat) l)
                                                     (pthL (lsOf (D.slc (1 : Nat) (List.drop (↑(hf (↑(List.map (fun (l : List Int) => D.ints IntKind.u8 l) ls).length : Int).toNat) : Int).toNat (List.take (↑(List.map (fun (l : List Int) => D.ints IntKind.u8 l) ls).length : Int).toNat (List.map (fun (l : List Int) => D.ints IntKind.u8 l) ls)))))
                                                      (IntKind.i64.wrap (i - (↑(hf (↑(List.map (fun (l : List Int) => D.ints IntKind.u8 l) ls).length : Int).toNat) : Int)))) ++
                                                    [D.arr IntKind.u8 (32 : Nat) (rtL (lsOf (D.slc (1 : Nat) (List.drop (0 : Nat) (List.take (↑(hf (↑(List.map (fun (l : List Int) => D.ints IntKind.u8 l) ls).length : Int).toNat) : Int).toNat (List.map (fun (l : List Int) => D.ints IntKind.u8 l) ls))))))]).length ≤
                                                  (140737488355328 : Nat) ∧
                                                 (List.map (fun (l : List Int) => D.arr IntKind.u8 (32 : Nat) l)
                                                       (pthL (lsOf (D.slc (1 : Nat) (List.drop (↑(hf (↑(List.map (fun (l : List Int) => D.ints IntKind.u8 l) ls).length : Int).toNat) : Int).toNat (List.take (↑(List.map (fun (l : List Int) => D.ints IntKind.u8 l) ls).length : Int).toNat (List.map (fun (l : List Int) => D.ints IntKind.u8 l) ls)))))
                                                        (IntKind.i64.wrap (i - (↑(hf (↑(List.map (fun (l : List Int) => D.ints IntKind.u8 l) ls).length : Int).toNat) : Int)))) ++
                                                      [D.arr IntKind.u8 (32 : Nat) (rtL (lsOf (D.slc (1 : Nat) (List.drop (0 : Nat) (List.take (↑(hf (↑(List.map (fun (l : List Int) => D.ints IntKind.u8 l) ls).length : Int).toNat) : Int).toNat (List.map (fun (l : List Int) => D.ints IntKind.u8 l) ls))))))]).length *
                                                    (32 : Nat) ≤
                                                   (140737488355328 : Nat) ∧
                                                  (32 : Nat) ≠ (0 : Nat) ∧ (32 : Nat) = (32 : Nat)) ∧
                                             True ∧
                                              True ∧
                                               (false = false ∧ True) ∧
                                                (28 : TypeId) = (28 : TypeId) ∧
                                                 True ∧
                                                  D.tup
                                                    [D.slc (32 : Nat)
                                                      (List.map (fun (l : List Int) => D.arr IntKind.u8 (32 : Nat) l)
                                                        (pthL
                                                         (lsOf (D.slc (1 : Nat) (List.drop (↑(hf (↑(List.map (fun (l : List Int) => D.ints IntKind.u8 l) ls).length : Int).toNat) : Int).toNat (List.take (↑(List.map (fun (l : List Int) => D.ints IntKind.u8 l) ls).length : Int).toNat (List.map (fun (l : List Int) => D.ints IntKind.u8 l) ls)))))
                                                         (IntKind.i64.wrap (i - (↑(hf (↑(List.map (fun (l : List Int) => D.ints IntKind.u8 l) ls).length : Int).toNat) : Int)))) ++
                                                       [D.arr IntKind.u8 (32 : Nat) (rtL (lsOf (D.slc (1 : Nat) (List.drop (0 : Nat) (List.take (↑(hf (↑(List.map (fun (l : List Int) => D.ints IntKind.u8 l) ls).length : Int).toNat) : Int).toNat (List.map (fun (l : List Int) => D.ints IntKind.u8 l) ls))))))]),
                                                     D.val (Value.int IntKind.i64 (0 : Int))] =
                                                   F) := by kernel_rfl
set_option maxRecDepth 100000 in
theorem vc19  (ls : List (List Int)) (i : Int) (F : D)  :
    (owed c19 (inv19 ls i) Tryd.f19 [LD ls, i64 i] F) = (
 True ∧
   True ∧
    True ∧
     True ∧
      True ∧
       match decide (i < (0 : Int)) with
       | true => True ∧ True ∧ True ∧ (false = false ∧ false = false ∧ True) ∧ D.tup [D.slc (32 : Nat) [], D.val (Value.int IntKind.i64 (1 : Int))] = F
       | false =>
        True ∧
         True ∧
          True ∧
           True ∧
            True ∧
             match decide (i ≥ (↑(List.map (fun (l : List Int) => D.ints IntKind.u8 l) ls).length : Int)) with
             | true => True ∧ True ∧ (false = false ∧ false = false ∧ True) ∧ D.tup [D.slc (32 : Nat) [], D.val (Value.int IntKind.i64 (1 : Int))] = F
             | false =>
              (32 : Nat) ≠ (0 : Nat) ∧
               True ∧
                (∃ (ls_1 : List (List Int)), [D.slc (1 : Nat) (List.map (fun (l : List Int) => D.ints IntKind.u8 l) ls)] = [D.slc (1 : Nat) (List.map (fun (l : List Int) => D.ints IntKind.u8 l) ls_1)] ∧ okLs ls_1) ∧
                 True ∧
                  (((AV.d (D.slc (32 : Nat) (List.map (fun (l : List Int) => D.arr IntKind.u8 (32 : Nat) l) (List.map leafL (lsOf (D.slc (1 : Nat) (List.map (fun (l : List Int) => D.ints IntKind.u8 l) ls)))))) =
                       AV.d (D.slc (32 : Nat) (List.map (fun (l : List Int) => D.arr IntKind.u8 (32 : Nat) l) (qsOf (D.slc (32 : Nat) (List.map (fun (l : List Int) => D.arr IntKind.u8 (32 : Nat) l) (List.map leafL (lsOf (D.slc (1 : Nat) (List.map (fun (l : List Int) => D.ints IntKind.u8 l) ls))))))))) ∧
                      AV.d (D.val (Value.int IntKind.i64 i)) = AV.d (D.val (Value.int IntKind.i64 (↑i.toNat : Int))) ∧ AV.row (6 : Nat) = AV.row (6 : Nat) ∧ True) ∧
                     (some (Blk.row (28 : TypeId) (D.slc (32 : Nat) [])) = some (Blk.row (28 : TypeId) (D.slc (32 : Nat) (List.map (fun (l : List Int) => D.arr IntKind.u8 (32 : Nat) l) (qsOf (D.slc (32 : Nat) []))))) ∧ True) ∧ true = true) ∧
                    okQs (qsOf (D.slc (32 : Nat) (List.map (fun (l : List Int) => D.arr IntKind.u8 (32 : Nat) l) (List.map leafL (lsOf (D.slc (1 : Nat) (List.map (fun (l : List Int) => D.ints IntKind.u8 l) ls))))))) ∧
                     (1 : Nat) ≤ (qsOf (D.slc (32 : Nat) (List.map (fun (l : List Int) => D.arr IntKind.u8 (32 : Nat) l) (List.map leafL (lsOf (D.slc (1 : Nat) (List.map (fun (l : List Int) => D.ints IntKind.u8 l) ls))))))).length ∧
                      i.toNat < (qsOf (D.slc (32 : Nat) (List.map (fun (l : List Int) => D.arr IntKind.u8 (32 : Nat) l) (List.map leafL (lsOf (D.slc (1 : Nat) (List.map (fun (l : List Int) => D.ints IntKind.u8 l) ls))))))).length ∧
                       (qsOf (D.slc (32 : Nat) [])).length ≤ (60 : Nat) - (qsOf (D.slc (32 : Nat) (List.map (fun (l : List Int) => D.arr IntKind.u8 (32 : Nat) l) (List.map leafL (lsOf (D.slc (1 : Nat) (List.map (fun (l : List Int) => D.ints IntKind.u8 l) ls))))))).length ∧
                        (∀ (l : List Int), l ∈ qsOf (D.slc (32 : Nat) []) → isD l) ∧ qsOf (D.slc (32 : Nat) []) ++ pfR (qsOf (D.slc (32 : Nat) (List.map (fun (l : List Int) => D.arr IntKind.u8 (32 : Nat) l) (List.map leafL (lsOf (D.slc (1 : Nat) (List.map (fun (l : List Int) => D.ints IntKind.u8 l) ls))))))) i.toNat = pthL ls i) ∧
                   ∀ (x : List (List Int) × Nat × List (List Int)),
                    okQs x.fst ∧ (1 : Nat) ≤ x.fst.length ∧ x.snd.fst < x.fst.length ∧ x.snd.snd.length ≤ (60 : Nat) - x.fst.length ∧ (∀ (l : List Int), l ∈ x.snd.snd → isD l) ∧ x.snd.snd ++ pfR x.fst x.snd.fst = pthL ls i →
                     true = true ∧
                      True ∧
                       True ∧
                        True ∧
                         match decide ((↑(List.map (fun (l : List Int) => D.arr IntKind.u8 (32 : Nat) l) x.fst).length : Int) > (1 : Int)) with
                         | true =>
                          True ∧
                           True ∧
                            True ∧
                             True ∧
                              True ∧
                               True ∧
                                True ∧
                                 match decide (ixor IntKind.i64 (↑x.snd.fst : Int) (1 : Int) < (↑(List.map (fun (l : List Int) => D.arr IntKind.u8 (32 : Nat) l) x.fst).length : Int)) with
                                 | true =>
                                  True ∧
                                   True ∧
                                    True ∧
                                     ((0 : Int) ≤ ixor IntKind.i64 (↑x.snd.fst : Int) (1 : Int) ∧
                                       ixor IntKind.i64 (↑x.snd.fst : Int) (1 : Int) < (↑(List.map (fun (l : List Int) => D.arr IntKind.u8 (32 : Nat) l) x.fst).length : Int) ∧
                                        (32 : Nat) ≠ (0 : Nat) ∧
                                         (32 : Nat) = (32 : Nat) ∧
                                          D.arr IntKind.u8 (32 : Nat) (arrOf ((List.map (fun (l : List Int) => D.arr IntKind.u8 (32 : Nat) l) x.fst).getD (ixor IntKind.i64 (↑x.snd.fst : Int) (1 : Int)).toNat (D.val (Value.bool false)))) =
                                           (List.map (fun (l : List Int) => D.arr IntKind.u8 (32 : Nat) l) x.fst).getD (ixor IntKind.i64 (↑x.snd.fst : Int) (1 : Int)).toNat (D.val (Value.bool false))) ∧
                                      ((32 : Nat) ≠ (0 : Nat) ∧ (32 : Nat) = (32 : Nat) ∧ true = true) ∧
                                       ((1 : Nat) ≤ (4096 : Nat) ∧ (32 : Nat) ≤ (256 : Nat) ∧ (32 : Nat) ≠ (0 : Nat)) ∧
                                        ((28 : TypeId) = (28 : TypeId) ∧
                                          (23 : Nat) = (23 : Nat) ∧
                                           true = true ∧
                                            (List.map (fun (l : List Int) => D.arr IntKind.u8 (32 : Nat) l) x.snd.snd ++ [D.arr IntKind.u8 (32 : Nat) (arrOf ((List.map (fun (l : List Int) => D.arr IntKind.u8 (32 : Nat) l) x.fst).getD (ixor IntKind.i64 (↑x.snd.fst : Int) (1 : Int)).toNat (D.val (Value.bool false))))]).length ≤ (140737488355328 : Nat) ∧
                                             (List.map (fun (l : List Int) => D.arr IntKind.u8 (32 : Nat) l) x.snd.snd ++ [D.arr IntKind.u8 (32 : Nat) (arrOf ((List.map (fun (l : List Int) => D.arr IntKind.u8 (32 : Nat) l) x.fst).getD (ixor IntKind.i64 (↑x.snd.fst : Int) (1 : Int)).toNat (D.val (Value.bool false))))]).length * (32 : Nat) ≤
                                               (140737488355328 : Nat) ∧
                                              (32 : Nat) ≠ (0 : Nat) ∧ (32 : Nat) = (32 : Nat)) ∧
                                         True ∧
                                          True ∧
                                           (2 : Int) ≠ (0 : Int) ∧
                                            True ∧
                                             True ∧
                                              (∃ (qs : List (List Int)), [D.slc (32 : Nat) (List.map (fun (l : List Int) => D.arr IntKind.u8 (32 : Nat) l) x.fst)] = [D.slc (32 : Nat) (List.map (fun (l : List Int) => D.arr IntKind.u8 (32 : Nat) l) qs)] ∧ okQs qs) ∧
                                               True ∧
                                                ((AV.d (D.slc (32 : Nat) (List.map (fun (l : List Int) => D.arr IntKind.u8 (32 : Nat) l) (flL (qsOf (D.slc (32 : Nat) (List.map (fun (l : List Int) => D.arr IntKind.u8 (32 : Nat) l) x.fst)))))) =
                                                    AV.d (D.slc (32 : Nat) (List.map (fun (l : List Int) => D.arr IntKind.u8 (32 : Nat) l) (qsOf (D.slc (32 : Nat) (List.map (fun (l : List Int) => D.arr IntKind.u8 (32 : Nat) l) (flL (qsOf (D.slc (32 : Nat) (List.map (fun (l : List Int) => D.arr IntKind.u8 (32 : Nat) l) x.fst))))))))) ∧
                                                   AV.d (D.val (Value.int IntKind.i64 (IntKind.i64.wrap ((↑x.snd.fst : Int).tdiv (2 : Int))))) = AV.d (D.val (Value.int IntKind.i64 (↑(IntKind.i64.wrap ((↑x.snd.fst : Int).tdiv (2 : Int))).toNat : Int))) ∧ AV.row (6 : Nat) = AV.row (6 : Nat) ∧ True) ∧
                                                  (some
                                                      (Blk.row (28 : TypeId)
                                                       (D.slc (32 : Nat)
                                                        (List.map (fun (l : List Int) => D.arr IntKind.u8 (32 : Nat) l) x.snd.snd ++ [D.arr IntKind.u8 (32 : Nat) (arrOf ((List.map (fun (l : List Int) => D.arr IntKind.u8 (32 : Nat) l) x.fst).getD (ixor IntKind.i64 (↑x.snd.fst : Int) (1 : Int)).toNat (D.val (Value.bool false))))]))) =
                                                     some
                                                      (Blk.row (28 : TypeId)
                                                       (D.slc (32 : Nat)
                                                        (List.map (fun (l : List Int) => D.arr IntKind.u8 (32 : Nat) l)
                                                         (qsOf
                                                          (D.slc (32 : Nat)
                                                           (List.map (fun (l : List Int) => D.arr IntKind.u8 (32 : Nat) l) x.snd.snd ++ [D.arr IntKind.u8 (32 : Nat) (arrOf ((List.map (fun (l : List Int) => D.arr IntKind.u8 (32 : Nat) l) x.fst).getD (ixor IntKind.i64 (↑x.snd.fst : Int) (1 : Int)).toNat (D.val (Value.bool false))))])))))) ∧
                                                    True) ∧
                                                   true = true) ∧
                                                 (okQs (qsOf (D.slc (32 : Nat) (List.map (fun (l : List Int) => D.arr IntKind.u8 (32 : Nat) l) (flL (qsOf (D.slc (32 : Nat) (List.map (fun (l : List Int) => D.arr IntKind.u8 (32 : Nat) l) x.fst))))))) ∧
                                                   (1 : Nat) ≤ (qsOf (D.slc (32 : Nat) (List.map (fun (l : List Int) => D.arr IntKind.u8 (32 : Nat) l) (flL (qsOf (D.slc (32 : Nat) (List.map (fun (l : List Int) => D.arr IntKind.u8 (32 : Nat) l) x.fst))))))).length ∧
                                                    (IntKind.i64.wrap ((↑x.snd.fst : Int).tdiv (2 : Int))).toNat < (qsOf (D.slc (32 : Nat) (List.map (fun (l : List Int) => D.arr IntKind.u8 (32 : Nat) l) (flL (qsOf (D.slc (32 : Nat) (List.map (fun (l : List Int) => D.arr IntKind.u8 (32 : Nat) l) x.fst))))))).length ∧
                                                     (qsOf
                                                         (D.slc (32 : Nat)
                                                          (List.map (fun (l : List Int) => D.arr IntKind.u8 (32 : Nat) l) x.snd.snd ++ [D.arr IntKind.u8 (32 : Nat) (arrOf ((List.map (fun (l : List Int) => D.arr IntKind.u8 (32 : Nat) l) x.fst).getD (ixor IntKind.i64 (↑x.snd.fst : Int) (1 : Int)).toNat (D.val (Value.bool false))))]))).length ≤
                                                       (60 : Nat) - (qsOf (D.slc (32 : Nat) (List.map (fun (l : List Int) => D.arr IntKind.u8 (32 : Nat) l) (flL (qsOf (D.slc (32 : Nat) (List.map (fun (l : List Int) => D.arr IntKind.u8 (32 : Nat) l) x.fst))))))).length ∧
                                                      (∀ (l : List Int),
                                                        l ∈
                                                          qsOf
                                                           (D.slc (32 : Nat)
                                                            (List.map (fun (l : List Int) => D.arr IntKind.u8 (32 : Nat) l) x.snd.snd ++ [D.arr IntKind.u8 (32 : Nat) (arrOf ((List.map (fun (l : List Int) => D.arr IntKind.u8 (32 : Nat) l) x.fst).getD (ixor IntKind.i64 (↑x.snd.fst : Int) (1 : Int)).toNat (D.val (Value.bool false))))])) →
                                                         isD l) ∧
                                                       qsOf
                                                          (D.slc (32 : Nat)
                                                           (List.map (fun (l : List Int) => D.arr IntKind.u8 (32 : Nat) l) x.snd.snd ++ [D.arr IntKind.u8 (32 : Nat) (arrOf ((List.map (fun (l : List Int) => D.arr IntKind.u8 (32 : Nat) l) x.fst).getD (ixor IntKind.i64 (↑x.snd.fst : Int) (1 : Int)).toNat (D.val (Value.bool false))))])) ++
                                                         pfR (qsOf (D.slc (32 : Nat) (List.map (fun (l : List Int) => D.arr IntKind.u8 (32 : Nat) l) (flL (qsOf (D.slc (32 : Nat) (List.map (fun (l : List Int) => D.arr IntKind.u8 (32 : Nat) l) x.fst))))))) (IntKind.i64.wrap ((↑x.snd.fst : Int).tdiv (2 : Int))).toNat =
                                                        pthL ls i) ∧
                                                  (qsOf (D.slc (32 : Nat) (List.map (fun (l : List Int) => D.arr IntKind.u8 (32 : Nat) l) (flL (qsOf (D.slc (32 : Nat) (List.map (fun (l : List Int) => D.arr IntKind.u8 (32 : Nat) l) x.fst))))))).length < x.fst.length
                                 | false =>
                                  True ∧
                                   (2 : Int) ≠ (0 : Int) ∧
                                    True ∧
                                     True ∧
                                      (∃ (qs : List (List Int)), [D.slc (32 : Nat) (List.map (fun (l : List Int) => D.arr IntKind.u8 (32 : Nat) l) x.fst)] = [D.slc (32 : Nat) (List.map (fun (l : List Int) => D.arr IntKind.u8 (32 : Nat) l) qs)] ∧ okQs qs) ∧
                                       True ∧
                                        ((AV.d (D.slc (32 : Nat) (List.map (fun (l : List Int) => D.arr IntKind.u8 (32 : Nat) l) (flL (qsOf (D.slc (32 : Nat) (List.map (fun (l : List Int) => D.arr IntKind.u8 (32 : Nat) l) x.fst)))))) =
                                            AV.d (D.slc (32 : Nat) (List.map (fun (l : List Int) => D.arr IntKind.u8 (32 : Nat) l) (qsOf (D.slc (32 : Nat) (List.map (fun (l : List Int) => D.arr IntKind.u8 (32 : Nat) l) (flL (qsOf (D.slc (32 : Nat) (List.map (fun (l : List Int) => D.arr IntKind.u8 (32 : Nat) l) x.fst))))))))) ∧
                                           AV.d (D.val (Value.int IntKind.i64 (IntKind.i64.wrap ((↑x.snd.fst : Int).tdiv (2 : Int))))) = AV.d (D.val (Value.int IntKind.i64 (↑(IntKind.i64.wrap ((↑x.snd.fst : Int).tdiv (2 : Int))).toNat : Int))) ∧ AV.row (6 : Nat) = AV.row (6 : Nat) ∧ True) ∧
                                          (some (Blk.row (28 : TypeId) (D.slc (32 : Nat) (List.map (fun (l : List Int) => D.arr IntKind.u8 (32 : Nat) l) x.snd.snd))) =
                                             some (Blk.row (28 : TypeId) (D.slc (32 : Nat) (List.map (fun (l : List Int) => D.arr IntKind.u8 (32 : Nat) l) (qsOf (D.slc (32 : Nat) (List.map (fun (l : List Int) => D.arr IntKind.u8 (32 : Nat) l) x.snd.snd)))))) ∧
                                            True) ∧
                                           true = true) ∧
                                         (okQs (qsOf (D.slc (32 : Nat) (List.map (fun (l : List Int) => D.arr IntKind.u8 (32 : Nat) l) (flL (qsOf (D.slc (32 : Nat) (List.map (fun (l : List Int) => D.arr IntKind.u8 (32 : Nat) l) x.fst))))))) ∧
                                           (1 : Nat) ≤ (qsOf (D.slc (32 : Nat) (List.map (fun (l : List Int) => D.arr IntKind.u8 (32 : Nat) l) (flL (qsOf (D.slc (32 : Nat) (List.map (fun (l : List Int) => D.arr IntKind.u8 (32 : Nat) l) x.fst))))))).length ∧
                                            (IntKind.i64.wrap ((↑x.snd.fst : Int).tdiv (2 : Int))).toNat < (qsOf (D.slc (32 : Nat) (List.map (fun (l : List Int) => D.arr IntKind.u8 (32 : Nat) l) (flL (qsOf (D.slc (32 : Nat) (List.map (fun (l : List Int) => D.arr IntKind.u8 (32 : Nat) l) x.fst))))))).length ∧
                                             (qsOf (D.slc (32 : Nat) (List.map (fun (l : List Int) => D.arr IntKind.u8 (32 : Nat) l) x.snd.snd))).length ≤
                                               (60 : Nat) - (qsOf (D.slc (32 : Nat) (List.map (fun (l : List Int) => D.arr IntKind.u8 (32 : Nat) l) (flL (qsOf (D.slc (32 : Nat) (List.map (fun (l : List Int) => D.arr IntKind.u8 (32 : Nat) l) x.fst))))))).length ∧
                                              (∀ (l : List Int), l ∈ qsOf (D.slc (32 : Nat) (List.map (fun (l : List Int) => D.arr IntKind.u8 (32 : Nat) l) x.snd.snd)) → isD l) ∧
                                               qsOf (D.slc (32 : Nat) (List.map (fun (l : List Int) => D.arr IntKind.u8 (32 : Nat) l) x.snd.snd)) ++
                                                 pfR (qsOf (D.slc (32 : Nat) (List.map (fun (l : List Int) => D.arr IntKind.u8 (32 : Nat) l) (flL (qsOf (D.slc (32 : Nat) (List.map (fun (l : List Int) => D.arr IntKind.u8 (32 : Nat) l) x.fst))))))) (IntKind.i64.wrap ((↑x.snd.fst : Int).tdiv (2 : Int))).toNat =
                                                pthL ls i) ∧
                                          (qsOf (D.slc (32 : Nat) (List.map (fun (l : List Int) => D.arr IntKind.u8 (32 : Nat) l) (flL (qsOf (D.slc (32 : Nat) (List.map (fun (l : List Int) => D.arr IntKind.u8 (32 : Nat) l) x.fst))))))).length < x.fst.length
                         | false => True ∧ True ∧ True ∧ (false = false ∧ false = false ∧ True) ∧ D.tup [D.slc (32 : Nat) (List.map (fun (l : List Int) => D.arr IntKind.u8 (32 : Nat) l) x.snd.snd), D.val (Value.int IntKind.i64 (0 : Int))] = F) := by kernel_rfl
set_option maxRecDepth 100000 in
theorem vc14  (a b : List (List Int)) (F : D)  :
    (owed c0 (inv14 a b) Tryd.f14 [PD a, PD b] F) = (
 True ∧
   True ∧
    True ∧
     True ∧
      True ∧
       True ∧
        match (↑(List.map (fun (l : List Int) => D.arr IntKind.u8 (32 : Nat) l) a).length : Int) != (↑(List.map (fun (l : List Int) => D.arr IntKind.u8 (32 : Nat) l) b).length : Int) with
        | true => True ∧ (false = false ∧ True) ∧ D.val (Value.bool false) = F
        | false =>
         True ∧
          True ∧
           True ∧
            (((AV.d (D.val (Value.int IntKind.i64 (0 : Int))) = AV.d (D.val (Value.int IntKind.i64 (↑(Int.toNat (0 : Int)) : Int))) ∧ True) ∧ True ∧ true = true) ∧ Int.toNat (0 : Int) ≤ a.length ∧ List.take (Int.toNat (0 : Int)) a = List.take (Int.toNat (0 : Int)) b) ∧
             ∀ (x : Nat),
              x ≤ a.length ∧ List.take x a = List.take x b →
               true = true ∧
                True ∧
                 match decide ((↑x : Int) < (↑(List.map (fun (l : List Int) => D.arr IntKind.u8 (32 : Nat) l) a).length : Int)) with
                 | true =>
                  True ∧
                   True ∧
                    True ∧
                     True ∧
                      ((0 : Int) ≤ (↑x : Int) ∧
                        (↑x : Int) < (↑(List.map (fun (l : List Int) => D.arr IntKind.u8 (32 : Nat) l) a).length : Int) ∧
                         (32 : Nat) ≠ (0 : Nat) ∧ (32 : Nat) = (32 : Nat) ∧ D.arr IntKind.u8 (32 : Nat) (arrOf ((List.map (fun (l : List Int) => D.arr IntKind.u8 (32 : Nat) l) a).getD (↑x : Int).toNat (D.val (Value.bool false)))) = (List.map (fun (l : List Int) => D.arr IntKind.u8 (32 : Nat) l) a).getD (↑x : Int).toNat (D.val (Value.bool false))) ∧
                       ((32 : Nat) ≠ (0 : Nat) ∧ (32 : Nat) = (32 : Nat) ∧ true = true) ∧
                        True ∧
                         True ∧
                          ((0 : Int) ≤ (↑x : Int) ∧
                            (↑x : Int) < (↑(List.map (fun (l : List Int) => D.arr IntKind.u8 (32 : Nat) l) b).length : Int) ∧
                             (32 : Nat) ≠ (0 : Nat) ∧ (32 : Nat) = (32 : Nat) ∧ D.arr IntKind.u8 (32 : Nat) (arrOf ((List.map (fun (l : List Int) => D.arr IntKind.u8 (32 : Nat) l) b).getD (↑x : Int).toNat (D.val (Value.bool false)))) = (List.map (fun (l : List Int) => D.arr IntKind.u8 (32 : Nat) l) b).getD (↑x : Int).toNat (D.val (Value.bool false))) ∧
                           ((32 : Nat) ≠ (0 : Nat) ∧ (32 : Nat) = (32 : Nat) ∧ true = true) ∧
                            (IntKind.u8 = IntKind.u8 ∧ IntKind.u8 = IntKind.u8 ∧ (32 : Nat) = (32 : Nat) ∧ (32 : Nat) = (32 : Nat) ∧ (1 : Nat) = (1 : Nat)) ∧
                             match !eqB (arrOf ((List.map (fun (l : List Int) => D.arr IntKind.u8 (32 : Nat) l) a).getD (↑x : Int).toNat (D.val (Value.bool false)))) (arrOf ((List.map (fun (l : List Int) => D.arr IntKind.u8 (32 : Nat) l) b).getD (↑x : Int).toNat (D.val (Value.bool false)))) with
                             | true => True ∧ (false = false ∧ True) ∧ D.val (Value.bool false) = F
                             | false =>
                              True ∧
                               True ∧
                                ((AV.d (D.val (Value.int IntKind.i64 (IntKind.i64.wrap ((↑x : Int) + (1 : Int))))) = AV.d (D.val (Value.int IntKind.i64 (↑(IntKind.i64.wrap ((↑x : Int) + (1 : Int))).toNat : Int))) ∧ True) ∧ True ∧ true = true) ∧
                                 ((IntKind.i64.wrap ((↑x : Int) + (1 : Int))).toNat ≤ a.length ∧ List.take (IntKind.i64.wrap ((↑x : Int) + (1 : Int))).toNat a = List.take (IntKind.i64.wrap ((↑x : Int) + (1 : Int))).toNat b) ∧ a.length - (IntKind.i64.wrap ((↑x : Int) + (1 : Int))).toNat < a.length - x
                 | false => True ∧ (false = false ∧ True) ∧ D.val (Value.bool true) = F) := by kernel_rfl
end Go.Proofs.YtkicjckhkefnpaaDoor
/- package tree and its reference: Root, Path, leaves, floor, Equal: the proofs. -/
namespace Go.Proofs.YtkicjckhkefnpaaDoor
open Go Go.Vg

theorem lsOf_LD (ls : List (List Int)) : lsOf (.slc 1 (ls.map fun l => D.ints .u8 l)) = ls := by
  unfold lsOf Go.Vg.xsOf
  simp only [List.map_map]
  rw [show (intsOf ∘ fun l => D.ints .u8 l) = id from rfl, List.map_id]
theorem qsOf_PD (qs : List (List Int)) : qsOf (.slc 32 (qs.map fun l => D.arr .u8 32 l)) = qs := by
  unfold qsOf Go.Vg.xsOf
  simp only [List.map_map]
  rw [show (arrOf ∘ fun l => D.arr .u8 32 l) = id from rfl, List.map_id]
theorem getL {ls : List (List Int)} {k : Nat} (h : k < ls.length) : (ls.map fun l => D.ints .u8 l).getD k (.val (.bool false)) = .ints .u8 (ls.getD k []) := by
  rw [List.getD_eq_getElem?_getD, List.getElem?_map, List.getD_eq_getElem?_getD, List.getElem?_eq_getElem h]
  rfl
theorem getQ {qs : List (List Int)} {k : Nat} (h : k < qs.length) : (qs.map fun l => D.arr .u8 32 l).getD k (.val (.bool false)) = .arr .u8 32 (qs.getD k []) := by
  rw [List.getD_eq_getElem?_getD, List.getElem?_map, List.getD_eq_getElem?_getD, List.getElem?_eq_getElem h]
  rfl
theorem mem_getD {ls : List (List Int)} {k : Nat} (h : k < ls.length) : ls.getD k [] ∈ ls := by
  rw [List.getD_eq_getElem?_getD, List.getElem?_eq_getElem h]
  exact List.getElem_mem h
theorem take_succ' (ls : List (List Int)) {k : Nat} (h : k < ls.length) : ls.take (k + 1) = ls.take k ++ [ls.getD k []] := by
  rw [List.take_add_one, List.getD_eq_getElem?_getD, List.getElem?_eq_getElem h]
  rfl
theorem okQs_leaves {ls : List (List Int)} (h : okLs ls) : okQs (ls.map leafL) := by
  refine ⟨fun q hq => ?_, by rw [List.length_map]; exact h.2⟩
  obtain ⟨p, _, rfl⟩ := List.mem_map.1 hq
  exact leafL_D p
theorem flL_D : ∀ (n : Nat) (qs : List (List Int)), qs.length ≤ n → (∀ q ∈ qs, isD q) → ∀ q ∈ flL qs, isD q
  | _, [], _, _ => by simp [flL]
  | _, [a], _, h => by simpa [flL] using h
  | 0, _ :: _ :: _, h, _ => by simp at h
  | n + 1, a :: b :: t, h, hd => by
    intro q hq
    simp only [flL] at hq
    rcases List.mem_cons.1 hq with rfl | hq
    · exact nodeL_D _ _
    · exact flL_D n t (by simp at h; omega) (fun x hx => hd x (by simp [hx])) q hq
theorem okQs_fl {qs : List (List Int)} (h : okQs qs) : okQs (flL qs) := ⟨flL_D _ qs (Nat.le_refl _) h.1, by have := flL_len qs; have := h.2; omega⟩
theorem okLs_take {ls : List (List Int)} (h : okLs ls) (n : Nat) : okLs (ls.take n) := ⟨fun l hl => h.1 l (List.mem_of_mem_take hl), by have := h.2; rw [List.length_take]; omega⟩
theorem okLs_drop {ls : List (List Int)} (h : okLs ls) (n : Nat) : okLs (ls.drop n) := ⟨fun l hl => h.1 l (List.mem_of_mem_drop hl), by have := h.2; rw [List.length_drop]; omega⟩
theorem trR_D : ∀ (n : Nat) (qs : List (List Int)), qs.length ≤ n → 1 ≤ qs.length → (∀ q ∈ qs, isD q) → isD (trR qs)
  | 0, qs, h, h1, _ => by omega
  | n + 1, qs, h, h1, hd => by
    by_cases h2 : qs.length = 1
    · rw [trR_one h2]
      cases qs with
      | nil => simp at h2
      | cons a t => exact hd a (by simp)
    · rw [trR_step (by omega)]
      exact nodeL_D _ _

set_option maxRecDepth 100000 in
theorem m72 : Meets Tryd.prog 72 sp72 := by
  refine meets_of_owed (C := c72) ⟨tab_ok, lkS_ok ⟨m21, trivial⟩⟩ (by kernel_rfl) (by kernel_rfl : Tryd.prog.funcs[72]? = some Tryd.f72) (by kernel_rfl) (by kernel_rfl) (by kernel_rfl) _ ?_
  rintro _ ⟨ls, rfl, hl, h60⟩
  refine ⟨(by intro h; cases h), inv72 ls, ?_⟩
  show owed c72 (inv72 ls) Tryd.f72 [LD ls] (PD ((lsOf (LD ls)).map leafL))
  rw [vc72, lsOf_LD]
  simp (decide := true) only [Int.toNat_natCast, Int.toNat_zero, List.take_zero, List.map_nil, List.length_map, eq_self, true_and, and_true, ne_eq, not_false_eq_true, Nat.zero_le, show Int.toNat 0 = 0 from rfl]
  refine ⟨by and_intros <;> first | rfl | trivial | omega, fun k hk => ?_⟩
  split
  · rename_i h
    have h : k < ls.length := by have := of_decide_eq_true h; omega
    have e2 : IntKind.i64.wrap ((k : Int) + 1) = ((k + 1 : Nat) : Int) := by rw [wi (by omega) (by omega)]; omega
    have hb := hl _ (mem_getD h)
    rw [getL h, e2, Int.toNat_natCast, take_succ' ls h]
    have ei : intsOf (D.ints .u8 (ls.getD k [])) = ls.getD k [] := rfl
    simp only [ei, List.length_append, List.length_map, List.length_take, List.length_cons, List.length_nil, List.map_append, List.map_cons, List.map_nil]
    refine ⟨by and_intros <;> first | rfl | trivial | omega, hb.1, ⟨_, rfl, hb.1, by omega⟩, by and_intros <;> first | rfl | trivial | omega, by and_intros <;> first | rfl | trivial | omega, by and_intros <;> first | rfl | trivial | omega⟩
  · rename_i h
    have h : ¬ k < ls.length := by have := of_decide_eq_false h; omega
    rw [List.take_of_length_le (by omega)]

theorem take2 (qs : List (List Int)) {k : Nat} (h : 2 * k + 1 < qs.length) : flL (qs.take (2 * (k + 1))) = flL (qs.take (2 * k)) ++ [nodeL (qs.getD (2 * k) []) (qs.getD (2 * k + 1) [])] := by
  have e : qs.take (2 * (k + 1)) = qs.take (2 * k) ++ [qs.getD (2 * k) [], qs.getD (2 * k + 1) []] := by
    rw [show 2 * (k + 1) = 2 * k + 1 + 1 by omega, take_succ' qs h, take_succ' qs (by omega)]
    simp
  rw [e]
  have key : ∀ (m : Nat) (l : List (List Int)) (a b : List Int), l.length = 2 * m → flL (l ++ [a, b]) = flL l ++ [nodeL a b] := by
    intro m
    induction m with
    | zero =>
      intro l a b h
      obtain rfl := List.length_eq_zero_iff.1 (by omega : l.length = 0)
      simp [flL]
    | succ m ih =>
      intro l a b h
      match l, h with
      | x :: y :: t, h =>
        simp only [List.cons_append, flL]
        rw [ih t a b (by simp at h; omega)]
      | [x], h => simp at h; omega
      | [], h => simp at h
  exact key k _ _ _ (by rw [List.length_take]; omega)
theorem take1 (qs : List (List Int)) {k : Nat} (h : 2 * k + 1 = qs.length) : flL (qs.take (2 * (k + 1))) = flL (qs.take (2 * k)) ++ [qs.getD (2 * k) []] := by
  have e : qs.take (2 * (k + 1)) = qs.take (2 * k) ++ [qs.getD (2 * k) []] := by
    rw [List.take_of_length_le (by omega), ← take_succ' qs (by omega), List.take_of_length_le (by omega)]
  rw [e]
  have key : ∀ (m : Nat) (l : List (List Int)) (a : List Int), l.length = 2 * m → flL (l ++ [a]) = flL l ++ [a] := by
    intro m
    induction m with
    | zero =>
      intro l a h
      obtain rfl := List.length_eq_zero_iff.1 (by omega : l.length = 0)
      simp [flL]
    | succ m ih =>
      intro l a h
      match l, h with
      | x :: y :: t, h =>
        simp only [List.cons_append, flL]
        rw [ih t a (by simp at h; omega)]
      | [x], h => simp at h; omega
      | [], h => simp at h
  exact key k _ _ (by rw [List.length_take]; omega)

set_option maxRecDepth 100000 in
theorem m73 : Meets Tryd.prog 73 sp73 := by
  refine meets_of_owed (C := c73) ⟨tab_ok, lkS_ok ⟨m23, trivial⟩⟩ (by kernel_rfl) (by kernel_rfl : Tryd.prog.funcs[73]? = some Tryd.f73) (by kernel_rfl) (by kernel_rfl) (by kernel_rfl) _ ?_
  rintro _ ⟨qs, rfl, hq, h60⟩
  refine ⟨(by intro h; cases h), inv73 qs, ?_⟩
  show owed c73 (inv73 qs) Tryd.f73 [PD qs] (PD (flL (qsOf (PD qs))))
  rw [vc73, qsOf_PD]
  simp (decide := true) only [Int.toNat_natCast, Int.toNat_zero, List.take_zero, List.map_nil, List.length_map, eq_self, true_and, and_true, ne_eq, not_false_eq_true, Nat.zero_le, show Int.toNat 0 = 0 from rfl, flL]
  refine ⟨by and_intros <;> first | rfl | trivial | omega, fun k hk => ?_⟩
  have e1 : IntKind.i64.wrap (((2 * k : Nat) : Int) + 1) = ((2 * k + 1 : Nat) : Int) := by rw [wi (by omega) (by omega)]; omega
  have e2 : IntKind.i64.wrap (((2 * k : Nat) : Int) + 2) = ((2 * (k + 1) : Nat) : Int) := by rw [wi (by omega) (by omega)]; omega
  have hfl : (flL (qs.take (2 * k))).length ≤ 60 := by rw [flL_len, List.length_take]; omega
  simp only [e1, e2, Int.toNat_natCast]
  split
  · rename_i h
    have h : 2 * k < qs.length := by have := of_decide_eq_true h; omega
    have ei : ∀ l, arrOf (D.arr .u8 32 l) = l := fun l => rfl
    have e3 : (2 * (k + 1)) / 2 = k + 1 := by omega
    split
    · rename_i h2
      have h2 : 2 * k + 1 < qs.length := by have := of_decide_eq_true h2; omega
      rw [getQ h, getQ h2]
      simp only [ei, e3, take2 qs h2, List.length_append, List.length_map, List.length_cons, List.length_nil, List.map_append, List.map_cons, List.map_nil]
      and_intros <;> first | rfl | trivial | omega | exact ⟨_, _, rfl, hq _ (mem_getD h), hq _ (mem_getD h2)⟩
    · rename_i h2
      have h2 : 2 * k + 1 = qs.length := by have := of_decide_eq_false h2; omega
      rw [getQ h]
      simp only [ei, e3, take1 qs h2, List.length_append, List.length_map, List.length_cons, List.length_nil, List.map_append, List.map_cons, List.map_nil]
      and_intros <;> first | rfl | trivial | omega
  · rename_i h
    have h : ¬ 2 * k < qs.length := by have := of_decide_eq_false h; omega
    rw [List.take_of_length_le (by omega)]

end Go.Proofs.YtkicjckhkefnpaaDoor
/- package tree and its reference: Root, Path, Equal: the proofs. -/
namespace Go.Proofs.YtkicjckhkefnpaaDoor
open Go Go.Vg

theorem snocQ (qs : List (List Int)) (y : List Int) : (qs.map fun l => D.arr .u8 32 l) ++ [D.arr .u8 32 y] = (qs ++ [y]).map fun l => D.arr .u8 32 l := by simp
theorem beq_nat0 (n k : Nat) : ((n : Int) == (k : Int)) = (n == k) := by
  rw [Bool.eq_iff_iff, beq_iff_eq, beq_iff_eq]
  omega
theorem xor_i64 {k : Nat} (h : k < 2 ^ 62) : ixor .i64 (k : Int) 1 = ((k ^^^ 1 : Nat) : Int) := by
  unfold ixor
  have h1 : (BitVec.ofInt IntKind.i64.bits (k : Int) ^^^ BitVec.ofInt IntKind.i64.bits 1).toNat = k ^^^ 1 := by
    rw [BitVec.toNat_xor]
    have a1 : (BitVec.ofInt IntKind.i64.bits (k : Int)).toNat = k := by
      rw [BitVec.toNat_ofInt]
      show ((k : Int) % ((2 ^ 64 : Nat) : Int)).toNat = k
      omega
    have a2 : (BitVec.ofInt IntKind.i64.bits 1).toNat = 1 := rfl
    rw [a1, a2]
  rw [h1]
  have hx := xor1 k
  have : k ^^^ 1 ≤ k + 1 := by rw [hx]; split <;> omega
  rw [wi (by omega) (by omega)]
theorem rtL_pos {ls : List (List Int)} (h : ls.length ≠ 0) : rtL ls = trR (ls.map leafL) := by unfold rtL; rw [if_neg h]

set_option maxRecDepth 100000 in
theorem m13 : Meets Tryd.prog 13 sp13 := by
  refine meets_of_owed (C := c13) ⟨tab_ok, lkS_ok ⟨m71, m72, m73, trivial⟩⟩ (by kernel_rfl) (by kernel_rfl : Tryd.prog.funcs[13]? = some Tryd.f13) (by kernel_rfl) (by kernel_rfl) (by kernel_rfl) _ ?_
  rintro _ ⟨ls, rfl, hls⟩
  have hl := hls.1
  have h60 := hls.2
  refine ⟨fun _ => rfl, inv13 ls, ?_⟩
  show owed c13 (inv13 ls) Tryd.f13 [LD ls] (d32 (rtL (lsOf (LD ls))))
  rw [vc13]
  simp (decide := true) only [lsOf_LD, qsOf_PD, List.length_map, eq_self, true_and, and_true, ne_eq, not_false_eq_true]
  split
  · rename_i h
    have h : ls.length = 0 := by have := eq_of_beq h; omega
    unfold rtL
    rw [if_pos h]
    exact ⟨⟨[], rfl, (fun x hx => by cases hx), by decide⟩, rfl⟩
  · rename_i h
    have h : ls.length ≠ 0 := by
      intro h3
      rw [h3] at h
      cases h
    rw [rtL_pos h]
    refine ⟨⟨ls, rfl, hls⟩, ⟨okQs_leaves hls, by omega⟩, ?_⟩
    rintro qs ⟨hq, h1, ht⟩
    have hfl := flL_len qs
    split
    · rename_i h2
      have h2 : 1 < qs.length := by have := of_decide_eq_true h2; omega
      exact ⟨⟨qs, rfl, hq⟩, ⟨okQs_fl hq, by omega, by rw [trR_fl _ qs (Nat.le_refl _) (by omega), ht]⟩, by omega⟩
    · rename_i h2
      have h2 : qs.length = 1 := by have := of_decide_eq_false h2; omega
      have e0 : arrOf ((qs.map fun l => D.arr .u8 32 l).getD 0 (.val (.bool false))) = qs.getD 0 [] := by rw [getQ (by omega)]; rfl
      have e1 := getQ (qs := qs) (k := 0) (by omega)
      rw [← ht, trR_one h2]
      have e2 : qs.headD [] = qs.getD 0 [] := by cases qs <;> rfl
      rw [e2]
      simp only [e1]
      have ei : arrOf (D.arr .u8 32 (qs.getD 0 [])) = qs.getD 0 [] := rfl
      simp only [ei]
      and_intros <;> first | rfl | trivial | omega

theorem m24n : ∀ n, Meets Tryd.prog 24 (sp24n n)
  | 0 => by
    rintro _ ⟨ls, rfl, _, h⟩
    exact absurd h (Nat.not_lt_zero _)
  | n + 1 => by
    have ih := m24n n
    refine meets_of_owed (C := c24 n) ⟨tab_ok, lkS_ok ⟨ih, m70, m20, m22, m74, trivial⟩⟩ (by kernel_rfl) (by kernel_rfl : Tryd.prog.funcs[24]? = some Tryd.f24) (by kernel_rfl) (by kernel_rfl) (by kernel_rfl) _ ?_
    rintro _ ⟨ls, rfl, hls, hn⟩
    have hl := hls.1
    have h60 := hls.2
    refine ⟨fun _ => rfl, fun _ => none, ?_⟩
    show owed (c24 n) (fun _ => none) Tryd.f24 [LD ls] (d32 (rtL (lsOf (LD ls))))
    rw [vc24]
    simp (decide := true) only [lsOf_LD, qsOf_PD, List.length_map, Int.toNat_natCast, eq_self, true_and, and_true, ne_eq, not_false_eq_true, List.drop_zero, ← List.map_take, ← List.map_drop]
    split
    · rename_i h
      have h : ls.length = 0 := by have := eq_of_beq h; omega
      unfold rtL
      rw [if_pos h]
      exact ⟨⟨[], rfl, (fun x hx => by cases hx), by decide⟩, rfl⟩
    · rename_i h
      have h : ls.length ≠ 0 := by
        intro h3
        rw [h3] at h
        cases h
      rw [rtL_pos h]
      split
      · rename_i h2
        have h2 : ls.length = 1 := by have := eq_of_beq h2; omega
        have e1 := getL (ls := ls) (k := 0) (by omega)
        have hb := hl _ (mem_getD (ls := ls) (k := 0) (by omega))
        have e3 : trR (ls.map leafL) = leafL (ls.getD 0 []) := by
          rw [trR_one (by rw [List.length_map]; exact h2)]
          cases ls with
          | nil => simp at h2
          | cons a t => rfl
        rw [e3]
        simp only [show Int.toNat 0 = 0 from rfl, e1]
        have ei : intsOf (D.ints .u8 (ls.getD 0 [])) = ls.getD 0 [] := rfl
        simp only [ei]
        and_intros <;> first | rfl | trivial | omega | exact ⟨_, rfl, hb.1, by omega⟩
      · rename_i h2
        have h2 : ls.length ≠ 1 := by
          intro h3
          rw [h3] at h2
          cases h2
        have hlt := hf_lt (n := ls.length) (by omega)
        have hp := hf_pos ls.length
        have l1 : (ls.take (hf ls.length)).length = hf ls.length := by rw [List.length_take]; omega
        have l2 : (ls.drop (hf ls.length)).length = ls.length - hf ls.length := List.length_drop
        have tt : List.take ls.length ls = ls := List.take_of_length_le (Nat.le_refl _)
        have s1 := trR_step (ds := ls.map leafL) (by rw [List.length_map]; omega)
        rw [List.length_map, ← List.map_take, ← List.map_drop, ← rtL_pos (ls := ls.take (hf ls.length)) (by omega), ← rtL_pos (ls := ls.drop (hf ls.length)) (by omega)] at s1
        have rD : ∀ {qs : List (List Int)}, qs.length ≠ 0 → isD (rtL qs) := fun {qs} h => by
          rw [rtL_pos h]
          refine trR_D _ _ (Nat.le_refl _) (by rw [List.length_map]; omega) ?_
          intro q hq
          obtain ⟨p, _, rfl⟩ := List.mem_map.1 hq
          exact leafL_D p
        rw [s1]
        simp only [tt, show Int.toNat 0 = 0 from rfl, List.drop_zero, lsOf_LD]
        refine ⟨⟨ls.length, rfl, by omega, by omega⟩, by and_intros <;> first | rfl | trivial | omega, ⟨_, rfl, okLs_take hls _, by omega⟩, by and_intros <;> first | rfl | trivial | omega, ⟨_, rfl, okLs_drop hls _, by omega⟩, ⟨_, _, rfl, rD (by omega), rD (by omega)⟩, ?_⟩
        and_intros <;> first | rfl | trivial | omega
theorem m24 : Meets Tryd.prog 24 sp24 := fun ds ⟨ls, e, h⟩ => m24n 61 ds ⟨ls, e, h, by have := h.2; omega⟩

end Go.Proofs.YtkicjckhkefnpaaDoor
/- package tree and its reference: Path, Equal: the proofs. -/
namespace Go.Proofs.YtkicjckhkefnpaaDoor
open Go Go.Vg

theorem pf_len : ∀ (n : Nat) (qs : List (List Int)) (i : Nat), qs.length ≤ n → (pfR qs i).length ≤ qs.length
  | n, qs, i, h => by
    by_cases h1 : qs.length ≤ 1
    · rw [pfR_one i h1]; exact Nat.zero_le _
    · cases n with
      | zero => omega
      | succ n =>
        have hfl := flL_len qs
        have ih := pf_len n (flL qs) (i / 2) (by omega)
        rw [pfR_step i (by omega), List.length_append]
        have : (sbL qs i).length ≤ 1 := by unfold sbL; split <;> simp
        omega
theorem pth_in {ls : List (List Int)} {i : Nat} (h : i < ls.length) : pthL ls (i : Int) = ptR (ls.map leafL) i ∧ pthE ls (i : Int) = 0 := by
  have : inN ls.length (i : Int) = true := by unfold inN; rw [decide_eq_true (by omega), decide_eq_true (by omega)]; rfl
  unfold pthL pthE
  rw [if_pos this, if_pos this, Int.toNat_natCast]
  exact ⟨rfl, rfl⟩
theorem pth_out {ls : List (List Int)} {i : Int} (h : i < 0 ∨ (ls.length : Int) ≤ i) : pthL ls i = [] ∧ pthE ls i = 1 := by
  have : inN ls.length i = false := by
    unfold inN
    rcases h with h | h
    · rw [decide_eq_false (show ¬ (0 ≤ i) by omega)]; rfl
    · rw [decide_eq_false (show ¬ (i < (ls.length : Int)) by omega), Bool.and_false]
  unfold pthL pthE
  rw [if_neg (by rw [this]; decide), if_neg (by rw [this]; decide)]
  exact ⟨rfl, rfl⟩
theorem pth_len {ls : List (List Int)} (i : Int) : (pthL ls i).length ≤ ls.length := by
  unfold pthL
  split
  · rename_i h
    unfold inN at h
    simp only [Bool.and_eq_true, decide_eq_true_eq] at h
    rw [ptR_pf (by rw [List.length_map]; omega)]
    have := pf_len _ (ls.map leafL) i.toNat (Nat.le_refl _)
    rw [List.length_map] at this
    exact this
  · exact Nat.zero_le _

set_option maxRecDepth 100000 in
theorem m18n : ∀ n, MeetsQ Tryd.prog 18 (sp18n n)
  | 0 => by
    unfold MeetsQ MeetsP
    rw [show ioFlag (sp18n 0) = true by kernel_rfl, show lnkF (sp18n 0).ps = none by kernel_rfl, show isIo (sp18n 0) = false by kernel_rfl, show rwE (sp18n 0).ps = some 28 by kernel_rfl]
    rintro _ ⟨ls, i, rfl, _, h, _⟩
    exact absurd h (Nat.not_lt_zero _)
  | n + 1 => by
    have ih := m18n n
    refine meetsRw_of_owed (C := c18 n) ⟨tab_ok, lkS_ok ⟨ih, m24, m74, trivial⟩⟩ (by kernel_rfl) (by kernel_rfl : Tryd.prog.funcs[18]? = some Tryd.f18) (by kernel_rfl) (by kernel_rfl) (by kernel_rfl) _ 28 ⟨by kernel_rfl, by kernel_rfl, by kernel_rfl, by kernel_rfl⟩ ?_
    rintro _ ⟨ls, i, rfl, hls, hn, hi1, hi2⟩
    have hl := hls.1
    have h60 := hls.2
    refine ⟨fun _ => none, ?_⟩
    show owedRw (c18 n) (fun _ => none) Tryd.f18 28 [LD ls, i64 i] (.tup [PD (pthL (lsOf (LD ls)) i), i64 (pthE (lsOf (LD ls)) i)])
    rw [vc18]
    have tt : List.take ls.length ls = ls := List.take_of_length_le (Nat.le_refl _)
    simp (decide := true) only [lsOf_LD, qsOf_PD, List.length_map, Int.toNat_natCast, eq_self, true_and, and_true, ne_eq, not_false_eq_true, List.drop_zero, ← List.map_take, ← List.map_drop, show Int.toNat 0 = 0 from rfl, tt]
    split
    · rename_i h
      have h := of_decide_eq_true h
      obtain ⟨e1, e2⟩ := pth_out (ls := ls) (i := i) (.inl h)
      rw [e1, e2]
      first | rfl | trivial
    · rename_i h
      have h : 0 ≤ i := by have := of_decide_eq_false h; omega
      split
      · rename_i h2
        have h2 := of_decide_eq_true h2
        obtain ⟨e1, e2⟩ := pth_out (ls := ls) (i := i) (.inr h2)
        rw [e1, e2]
        first | rfl | trivial
      · rename_i h2
        have h2 : i < ls.length := by have := of_decide_eq_false h2; omega
        obtain ⟨k, rfl⟩ := Int.eq_ofNat_of_zero_le h
        have hk : k < ls.length := by omega
        obtain ⟨e1, e2⟩ := pth_in hk
        have hlm : (ls.map leafL).length = ls.length := List.length_map ..
        rw [e1, e2]
        split
        · rename_i h3
          have h3 : ls.length = 1 := by have := eq_of_beq h3; omega
          rw [ptR_one k (by omega)]
          first | rfl | trivial
        · rename_i h3
          have h3 : ls.length ≠ 1 := by
            intro h4
            rw [h4] at h3
            cases h3
          have hlt := hf_lt (n := ls.length) (by omega)
          have hp := hf_pos ls.length
          have l1 : (ls.take (hf ls.length)).length = hf ls.length := by rw [List.length_take]; omega
          have l2 : (ls.drop (hf ls.length)).length = ls.length - hf ls.length := List.length_drop
          have s1 := ptR_step (ds := ls.map leafL) (i := k) (by omega) (by omega)
          rw [hlm, ← List.map_take, ← List.map_drop, ← rtL_pos (ls := ls.take (hf ls.length)) (by omega), ← rtL_pos (ls := ls.drop (hf ls.length)) (by omega)] at s1
          rw [s1]
          refine ⟨⟨ls.length, rfl, by omega, by omega⟩, ?_⟩
          split
          · rename_i h4
            have h4 : k < hf ls.length := by have := of_decide_eq_true h4; omega
            have hpl := pth_len (ls := ls.take (hf ls.length)) (k : Int)
            obtain ⟨f1, f2⟩ := pth_in (ls := ls.take (hf ls.length)) (i := k) (by omega)
            rw [if_pos h4, List.length_append, List.length_map, ← f1, snocQ]
            refine ⟨by and_intros <;> first | rfl | trivial | omega, ⟨_, _, rfl, okLs_take hls _, by omega, by omega, by omega⟩, by and_intros <;> first | rfl | trivial | omega, by and_intros <;> first | rfl | trivial | omega | exact ⟨_, rfl, okLs_drop hls _⟩, ?_⟩
            simp only [List.length_cons, List.length_nil]
            and_intros <;> first | rfl | trivial | omega | exact ⟨_, rfl, okLs_drop hls _⟩
          · rename_i h4
            have h4 : ¬ k < hf ls.length := by have := of_decide_eq_false h4; omega
            have e5 : IntKind.i64.wrap ((k : Int) - (hf ls.length : Int)) = ((k - hf ls.length : Nat) : Int) := by rw [wi (by omega) (by omega)]; omega
            have hpl := pth_len (ls := ls.drop (hf ls.length)) ((k - hf ls.length : Nat) : Int)
            obtain ⟨f1, f2⟩ := pth_in (ls := ls.drop (hf ls.length)) (i := k - hf ls.length) (by omega)
            simp only [e5]
            rw [if_neg h4, List.length_append, List.length_map, ← f1, snocQ]
            refine ⟨by and_intros <;> first | rfl | trivial | omega, ⟨_, _, rfl, okLs_drop hls _, by omega, by omega, by omega⟩, by and_intros <;> first | rfl | trivial | omega, by and_intros <;> first | rfl | trivial | omega | exact ⟨_, rfl, okLs_take hls _⟩, ?_⟩
            simp only [List.length_cons, List.length_nil]
            and_intros <;> first | rfl | trivial | omega | exact ⟨_, rfl, okLs_take hls _⟩
set_option maxRecDepth 100000 in
theorem m18 : MeetsQ Tryd.prog 18 sp18 := by
  have h := m18n 61
  unfold MeetsQ MeetsP at h ⊢
  rw [show ioFlag (sp18n 61) = true by kernel_rfl, show lnkF (sp18n 61).ps = none by kernel_rfl, show isIo (sp18n 61) = false by kernel_rfl, show rwE (sp18n 61).ps = some 28 by kernel_rfl] at h
  rw [show ioFlag sp18 = true by kernel_rfl, show lnkF sp18.ps = none by kernel_rfl, show isIo sp18 = false by kernel_rfl, show rwE sp18.ps = some 28 by kernel_rfl]
  exact fun ds ⟨ls, i, e, hls, h1, h2⟩ => h ds ⟨ls, i, e, hls, by have := hls.2; omega, h1, h2⟩

set_option maxRecDepth 100000 in
theorem m14 : Meets Tryd.prog 14 sp14 := by
  refine meets_of_owed (C := c0) ⟨tab_ok, fun f s h => by cases h⟩ (by kernel_rfl) (by kernel_rfl : Tryd.prog.funcs[14]? = some Tryd.f14) (by kernel_rfl) (by kernel_rfl) (by kernel_rfl) _ ?_
  rintro _ ⟨a, b, rfl, ha, hb⟩
  have ha60 := ha.2
  refine ⟨fun _ => rfl, inv14 a b, ?_⟩
  show owed c0 (inv14 a b) Tryd.f14 [PD a, PD b] (bl (eqQ (qsOf (PD a)) (qsOf (PD b))))
  rw [vc14]
  have eq1 : ∀ {x y : List (List Int)}, x = y → eqQ x y = true := fun h => by unfold eqQ; exact @decide_eq_true _ (Classical.propDecidable _) h
  have eq0 : ∀ {x y : List (List Int)}, x ≠ y → eqQ x y = false := fun h => by unfold eqQ; exact @decide_eq_false _ (Classical.propDecidable _) h
  simp (decide := true) only [qsOf_PD, List.length_map, Int.toNat_natCast, List.take_zero, eq_self, true_and, and_true, ne_eq, not_false_eq_true, Nat.zero_le, show Int.toNat 0 = 0 from rfl]
  split
  · rename_i h
    have h : a.length ≠ b.length := by
      intro h3
      rw [h3] at h
      simp at h
    rw [eq0 (fun e => h (by rw [e]))]
  · rename_i h
    have h : a.length = b.length := by
      have : ((a.length : Int) == (b.length : Int)) = true := by simpa [bne] using h
      have := eq_of_beq this
      omega
    refine ⟨rfl, ?_⟩
    rintro k ⟨hk, ht⟩
    split
    · rename_i h2
      have h2 : k < a.length := by have := of_decide_eq_true h2; omega
      have e2 : IntKind.i64.wrap ((k : Int) + 1) = ((k + 1 : Nat) : Int) := by rw [wi (by omega) (by omega)]; omega
      have ei : ∀ l, arrOf (D.arr .u8 32 l) = l := fun l => rfl
      simp only [getQ (qs := a) (k := k) h2, getQ (qs := b) (k := k) (by omega), e2, Int.toNat_natCast, ei]
      refine ⟨by and_intros <;> first | rfl | trivial | omega, by and_intros <;> first | rfl | trivial | omega, ?_⟩
      split
      · rename_i h3
        have h3 : a.getD k [] ≠ b.getD k [] := eqB_not.1 (by simpa using h3)
        rw [eq0 (fun e => h3 (by rw [e]))]
      · rename_i h3
        have h3 : a.getD k [] = b.getD k [] := eqB_iff.1 (by simpa using h3)
        have e9 : a.take (k + 1) = b.take (k + 1) := by rw [take_succ' a h2, take_succ' b (by omega), ht, h3]
        and_intros <;> first | rfl | trivial | omega | exact e9
    · rename_i h2
      have h2 : k = a.length := by have := of_decide_eq_false h2; omega
      rw [h2, List.take_of_length_le (Nat.le_refl _), h, List.take_of_length_le (Nat.le_refl _)] at ht
      rw [eq1 ht]

set_option maxRecDepth 100000 in
theorem m19 : Meets Tryd.prog 19 sp19 := by
  refine meets_of_owed (C := c19) ⟨tab_ok, lkS_ok ⟨m72, m73, trivial⟩⟩ (by kernel_rfl) (by kernel_rfl : Tryd.prog.funcs[19]? = some Tryd.f19) (by kernel_rfl) (by kernel_rfl) (by kernel_rfl) _ ?_
  rintro _ ⟨ls, i, rfl, hls, hi1, hi2⟩
  have hl := hls.1
  have h60 := hls.2
  refine ⟨(by intro h; cases h), inv19 ls i, ?_⟩
  show owed c19 (inv19 ls i) Tryd.f19 [LD ls, i64 i] (.tup [PD (pthL (lsOf (LD ls)) i), i64 (pthE (lsOf (LD ls)) i)])
  rw [vc19]
  have hlm : (ls.map leafL).length = ls.length := List.length_map ..
  have q0 : qsOf (.slc 32 []) = [] := rfl
  simp (decide := true) only [lsOf_LD, qsOf_PD, q0, List.length_map, Int.toNat_natCast, eq_self, true_and, and_true, ne_eq, not_false_eq_true, List.map_nil, List.nil_append, List.length_nil, Nat.zero_le]
  split
  · rename_i h
    have h := of_decide_eq_true h
    obtain ⟨e1, e2⟩ := pth_out (ls := ls) (i := i) (.inl h)
    rw [e1, e2]
    first | rfl | trivial
  · rename_i h
    have h : 0 ≤ i := by have := of_decide_eq_false h; omega
    split
    · rename_i h2
      have h2 := of_decide_eq_true h2
      obtain ⟨e1, e2⟩ := pth_out (ls := ls) (i := i) (.inr h2)
      rw [e1, e2]
      first | rfl | trivial
    · rename_i h2
      have h2 : i < ls.length := by have := of_decide_eq_false h2; omega
      obtain ⟨k, rfl⟩ := Int.eq_ofNat_of_zero_le h
      have hk : k < ls.length := by omega
      obtain ⟨e1, e2⟩ := pth_in hk
      rw [Int.toNat_natCast]
      refine ⟨⟨ls, rfl, hls⟩, ?_, ?_⟩
      · have e3 := ptR_pf (ds := ls.map leafL) (i := k) (by omega)
        rw [e1, e3]
        have := okQs_leaves hls
        and_intros <;> first | rfl | trivial | omega | exact this.1 | exact this.2 | (intro l hl2; cases hl2)
      rintro ⟨qs, j, acc⟩ ⟨hq, h1, hj, hal, had, hpt⟩
      simp only at hq h1 hj hal had hpt ⊢
      have hq60 := hq.2
      have hfl := flL_len qs
      have hqf := okQs_fl hq
      split
      · rename_i h3
        have h3 : 1 < qs.length := by have := of_decide_eq_true h3; omega
        have x0 := xor1 j
        have ex := xor_i64 (k := j) (by omega)
        have et : IntKind.i64.wrap ((j : Int).tdiv 2) = ((j / 2 : Nat) : Int) := by
          have := tdivN j 2
          rw [show ((2 : Nat) : Int) = 2 from rfl] at this
          rw [this, wi (by omega) (by omega)]
        have s1 := pfR_step (ds := qs) j (by omega)
        simp only [ex, et, Int.toNat_natCast]
        split
        · rename_i h4
          have h4 : j ^^^ 1 < qs.length := by have := of_decide_eq_true h4; omega
          have hs : sbL qs j = [qs.getD (j ^^^ 1) []] := by unfold sbL; rw [if_pos h4]
          have ei : ∀ l, arrOf (D.arr .u8 32 l) = l := fun l => rfl
          have e9 : acc ++ [qs.getD (j ^^^ 1) []] ++ pfR (flL qs) (j / 2) = pthL ls (k : Int) := by rw [← hpt, s1, hs, List.append_assoc]
          have e10 : ∀ l ∈ acc ++ [qs.getD (j ^^^ 1) []], isD l := by
            intro l hl
            rcases List.mem_append.1 hl with hl | hl
            · exact had l hl
            · rw [List.mem_singleton.1 hl]
              exact hq.1 _ (mem_getD h4)
          simp only [getQ h4, ei, snocQ, qsOf_PD, List.length_map, List.length_append, List.length_cons, List.length_nil]
          and_intros <;> first | rfl | trivial | omega | exact hqf.1 | exact hqf.2 | exact e9 | exact e10 | exact ⟨_, rfl, hq⟩
        · rename_i h4
          have h4 : ¬ j ^^^ 1 < qs.length := by have := of_decide_eq_false h4; omega
          have hs : sbL qs j = [] := by unfold sbL; rw [if_neg h4]
          have e9 : acc ++ pfR (flL qs) (j / 2) = pthL ls (k : Int) := by rw [← hpt, s1, hs, List.nil_append]
          and_intros <;> first | rfl | trivial | omega | exact hqf.1 | exact hqf.2 | exact e9 | exact had | exact ⟨_, rfl, hq⟩
      · rename_i h3
        have h3 : qs.length = 1 := by have := of_decide_eq_false h3; omega
        rw [pfR_one j (by omega), List.append_nil] at hpt
        rw [hpt, e2]

end Go.Proofs.YtkicjckhkefnpaaDoor
/- TreeTells: the law is met. -/
namespace Go.Proofs.YtkicjckhkefnpaaDoor
open Go Go.Vg
noncomputable def c4 : Ctx := ⟨tab, lkS [(18, sp18), (19, sp19), (20, sp20), (21, sp21), (22, sp22), (23, sp22), (24, sp24), (13, sp13), (14, sp14)], [], []⟩
--KEEP ofR BitVec.toNat prL pr Go.Proofs.YtkicjckhkefnpaaDoor.R8.l wrS ofS okS padL fhK outL sumL fromL digL iv st0 Go.Vg.eqB nodeL leafL hf restB chkB clD clB isP isD okR lsOf qsOf okLs okQs pthL pthE eqQ trR flL ptR pfR rtL
set_option maxRecDepth 100000 in
theorem ok22  (d : D)  :
    (OkT tab 8 22 d) = (
 ∃ (xs : List D), d = D.slc (1 : Nat) xs ∧ (∀ (y : D), y ∈ xs → ∃ (l : List Int), y = D.ints IntKind.u8 l ∧ (∀ (z : Int), z ∈ l → (0 : Int) ≤ z ∧ z ≤ IntKind.u8.max) ∧ l.length ≤ (9223372036854775807 : Nat) ∧ l.length * (1 : Nat) ≤ (140737488351232 : Nat)) ∧ xs.length ≤ (9223372036854775807 : Nat) ∧ xs.length * (24 : Nat) ≤ (140737488351232 : Nat)) := by kernel_rfl
set_option maxRecDepth 100000 in
theorem ok3  (d : D)  :
    (OkT tab 8 3 d) = (
 ∃ (z : Int), d = D.val (Value.int IntKind.i64 z) ∧ -(2 : Int) ^ (63 : Nat) ≤ z ∧ z ≤ IntKind.i64.max) := by kernel_rfl
set_option maxRecDepth 100000 in
theorem ok28d  (d : D)  :
    (OkT tab 8 28 d) = (
 ∃ (l : List Int), d = D.arr IntKind.u8 (32 : Nat) l ∧ l.length = (32 : Nat) ∧ ∀ (z : Int), z ∈ l → (0 : Int) ≤ z ∧ z ≤ IntKind.u8.max) := by kernel_rfl
set_option maxRecDepth 100000 in
theorem vc4  (xs : List D) (i : Int) (p a b : List Int) (F : D)  :
    (owed c4 (fun _ => none) Tryd.f4 [.slc 1 xs, i64 i, .ints .u8 p, d32 a, d32 b] F) = (
 (True ∧ false = false) ∧
   (True ∧ false = false) ∧
    True ∧
     True ∧
      True ∧
       True ∧
        match decide ((↑xs.length : Int) > (60 : Int)) with
        | true => True ∧ (false = false ∧ True) ∧ D.val (Value.bool true) = F
        | false =>
         True ∧
          True ∧
           (∃ (ls : List (List Int)), ∃ (i_1 : Int), [D.slc (1 : Nat) xs, D.val (Value.int IntKind.i64 i)] = [D.slc (1 : Nat) (List.map (fun (l : List Int) => D.ints IntKind.u8 l) ls), D.val (Value.int IntKind.i64 i_1)] ∧ okLs ls ∧ (-9223372036854775808 : Int) ≤ i_1 ∧ i_1 ≤ (9223372036854775807 : Int)) ∧
            True ∧
             True ∧
              ((0 : Nat) < (1 : Nat) ∧ false = false) ∧
               True ∧
                True ∧
                 True ∧
                  True ∧
                   (∃ (ls : List (List Int)), ∃ (i_1 : Int), [D.slc (1 : Nat) xs, D.val (Value.int IntKind.i64 i)] = [D.slc (1 : Nat) (List.map (fun (l : List Int) => D.ints IntKind.u8 l) ls), D.val (Value.int IntKind.i64 i_1)] ∧ okLs ls ∧ (-9223372036854775808 : Int) ≤ i_1 ∧ i_1 ≤ (9223372036854775807 : Int)) ∧
                    True ∧
                     ((0 : Nat) < (2 : Nat) ∧ false = false) ∧
                      ((1 : Nat) < (2 : Nat) ∧ false = false) ∧
                       True ∧
                        True ∧
                         True ∧
                          (∃ (p_1 : List Int), [D.ints IntKind.u8 p] = [D.ints IntKind.u8 p_1] ∧ isBytes p_1 ∧ p_1.length ≤ (900000000000000 : Nat)) ∧
                           True ∧
                            isBytes p ∧
                             (∃ (p_1 : List Int), [D.str p] = [D.str p_1] ∧ isBytes p_1 ∧ p_1.length ≤ (900000000000000 : Nat)) ∧
                              (IntKind.u8 = IntKind.u8 ∧ IntKind.u8 = IntKind.u8 ∧ (32 : Nat) = (32 : Nat) ∧ (32 : Nat) = (32 : Nat) ∧ (1 : Nat) = (1 : Nat)) ∧
                               True ∧
                                match eqB (leafL p) (leafL p) with
                                | true =>
                                 ((32 : Nat) ≠ (0 : Nat) ∧ (32 : Nat) = (32 : Nat) ∧ true = true) ∧
                                  ((32 : Nat) ≠ (0 : Nat) ∧ (32 : Nat) = (32 : Nat) ∧ true = true) ∧
                                   (∃ (a_1 : List Int), ∃ (b_1 : List Int), [D.arr IntKind.u8 (32 : Nat) a, D.arr IntKind.u8 (32 : Nat) b] = [D.arr IntKind.u8 (32 : Nat) a_1, D.arr IntKind.u8 (32 : Nat) b_1] ∧ isD a_1 ∧ isD b_1) ∧
                                    ((32 : Nat) ≠ (0 : Nat) ∧ (32 : Nat) = (32 : Nat) ∧ true = true) ∧
                                     ((32 : Nat) ≠ (0 : Nat) ∧ (32 : Nat) = (32 : Nat) ∧ true = true) ∧
                                      (∃ (a_1 : List Int), ∃ (b_1 : List Int), [D.arr IntKind.u8 (32 : Nat) a, D.arr IntKind.u8 (32 : Nat) b] = [D.arr IntKind.u8 (32 : Nat) a_1, D.arr IntKind.u8 (32 : Nat) b_1] ∧ isD a_1 ∧ isD b_1) ∧
                                       (IntKind.u8 = IntKind.u8 ∧ IntKind.u8 = IntKind.u8 ∧ (32 : Nat) = (32 : Nat) ∧ (32 : Nat) = (32 : Nat) ∧ (1 : Nat) = (1 : Nat)) ∧
                                        True ∧
                                         True ∧
                                          match eqB (nodeL a b) (nodeL a b) with
                                          | true =>
                                           True ∧
                                            (∃ (ls : List (List Int)), [D.slc (1 : Nat) xs] = [D.slc (1 : Nat) (List.map (fun (l : List Int) => D.ints IntKind.u8 l) ls)] ∧ okLs ls) ∧
                                             True ∧
                                              (∃ (ls : List (List Int)), [D.slc (1 : Nat) xs] = [D.slc (1 : Nat) (List.map (fun (l : List Int) => D.ints IntKind.u8 l) ls)] ∧ okLs ls) ∧
                                               (IntKind.u8 = IntKind.u8 ∧ IntKind.u8 = IntKind.u8 ∧ (32 : Nat) = (32 : Nat) ∧ (32 : Nat) = (32 : Nat) ∧ (1 : Nat) = (1 : Nat)) ∧
                                                True ∧
                                                 True ∧
                                                  match eqB (rtL (lsOf (D.slc (1 : Nat) xs))) (rtL (lsOf (D.slc (1 : Nat) xs))) with
                                                  | true =>
                                                   True ∧
                                                    True ∧
                                                     (∃ (a : List (List Int)),
                                                       ∃ (b : List (List Int)),
                                                        [D.slc (32 : Nat) (List.map (fun (l : List Int) => D.arr IntKind.u8 (32 : Nat) l) (pthL (lsOf (D.slc (1 : Nat) xs)) i)), D.slc (32 : Nat) (List.map (fun (l : List Int) => D.arr IntKind.u8 (32 : Nat) l) (pthL (lsOf (D.slc (1 : Nat) xs)) i))] =
                                                          [D.slc (32 : Nat) (List.map (fun (l : List Int) => D.arr IntKind.u8 (32 : Nat) l) a), D.slc (32 : Nat) (List.map (fun (l : List Int) => D.arr IntKind.u8 (32 : Nat) l) b)] ∧
                                                         okQs a ∧ okQs b) ∧
                                                      True ∧
                                                       True ∧
                                                        match eqQ (qsOf (D.slc (32 : Nat) (List.map (fun (l : List Int) => D.arr IntKind.u8 (32 : Nat) l) (pthL (lsOf (D.slc (1 : Nat) xs)) i)))) (qsOf (D.slc (32 : Nat) (List.map (fun (l : List Int) => D.arr IntKind.u8 (32 : Nat) l) (pthL (lsOf (D.slc (1 : Nat) xs)) i)))) with
                                                        | true => True ∧ True ∧ True ∧ True ∧ True ∧ (false = false ∧ True) ∧ D.val (Value.bool (pthE (lsOf (D.slc (1 : Nat) xs)) i == pthE (lsOf (D.slc (1 : Nat) xs)) i)) = F
                                                        | false => True ∧ True ∧ (false = false ∧ True) ∧ D.val (Value.bool false) = F
                                                  | false => True ∧ True ∧ True ∧ True ∧ (false = false ∧ True) ∧ D.val (Value.bool false) = F
                                          | false => True ∧ True ∧ True ∧ True ∧ True ∧ True ∧ (false = false ∧ True) ∧ D.val (Value.bool false) = F
                                | false => True ∧ True ∧ True ∧ True ∧ True ∧ True ∧ True ∧ True ∧ (false = false ∧ True) ∧ D.val (Value.bool false) = F) := by kernel_rfl

theorem okAll5 {t : Tab} {n : Nat} {a b c u v : TypeId} : ∀ {ds : List D}, OkAll t n [a, b, c, u, v] ds → ∃ d e f g h, ds = [d, e, f, g, h] ∧ OkT t n a d ∧ OkT t n b e ∧ OkT t n c f ∧ OkT t n u g ∧ OkT t n v h
  | [], h => by cases h
  | [_], h => by cases h.2
  | [_, _], h => by cases h.2.2
  | [_, _, _], h => by cases h.2.2.2
  | [_, _, _, _], h => by cases h.2.2.2.2
  | [d, e, f, g, k], h => ⟨d, e, f, g, k, rfl, h.1, h.2.1, h.2.2.1, h.2.2.2.1, h.2.2.2.2.1⟩
  | _ :: _ :: _ :: _ :: _ :: _ :: _, h => by cases h.2.2.2.2.2
theorem i64_of {d : D} (h : OkT tab 8 3 d) : ∃ z : Int, d = i64 z ∧ -9223372036854775808 ≤ z ∧ z ≤ 9223372036854775807 := by
  rw [ok3] at h
  obtain ⟨z, rfl, h1, h2⟩ := h
  have e : IntKind.i64.max = 9223372036854775807 := rfl
  rw [e] at h2
  exact ⟨z, rfl, by simpa using h1, h2⟩
theorem d32_of {d : D} (h : OkT tab 8 28 d) : ∃ l, d = d32 l ∧ isD l := by
  rw [ok28d] at h
  obtain ⟨l, rfl, h1, h2⟩ := h
  refine ⟨l, rfl, fun z hz => ?_, h1⟩
  have := h2 z hz
  have e : IntKind.u8.max = 255 := rfl
  rw [e] at this
  omega
theorem lls_of : ∀ {xs : List D}, (∀ y : D, y ∈ xs → ∃ l : List Int, y = D.ints .u8 l ∧ (∀ z, z ∈ l → 0 ≤ z ∧ z ≤ IntKind.u8.max) ∧ l.length ≤ 9223372036854775807 ∧ l.length * 1 ≤ 140737488351232) → ∃ ls : List (List Int), xs = ls.map bys ∧ ∀ l ∈ ls, isBytes l ∧ l.length ≤ 140737488351232
  | [], _ => ⟨[], rfl, fun l hl => by cases hl⟩
  | y :: xs, h => by
    obtain ⟨l, rfl, h1, _, h2⟩ := h y (List.mem_cons_self ..)
    obtain ⟨ls, rfl, hls⟩ := lls_of fun z hz => h z (List.mem_cons_of_mem _ hz)
    refine ⟨l :: ls, rfl, fun m hm => ?_⟩
    rcases List.mem_cons.1 hm with rfl | hm
    · refine ⟨fun z hz => ?_, by omega⟩
      have := h1 z hz
      have e : IntKind.u8.max = 255 := rfl
      rw [e] at this
      omega
    · exact hls m hm
theorem okQs_pth {ls : List (List Int)} (h : okLs ls) (i : Int) : okQs (pthL ls i) := by
  have h2 := pth_len (ls := ls) i
  refine ⟨?_, by have := h.2; omega⟩
  unfold pthL
  split
  · rename_i hin
    unfold inN at hin
    simp only [Bool.and_eq_true, decide_eq_true_eq] at hin
    rw [ptR_pf (by rw [List.length_map]; omega)]
    have key : ∀ (n : Nat) (qs : List (List Int)) (i : Nat), qs.length ≤ n → (∀ q ∈ qs, isD q) → ∀ q ∈ pfR qs i, isD q := by
      intro n
      induction n with
      | zero =>
        intro qs i h1 _ q hq
        rw [pfR_one i (by omega)] at hq
        cases hq
      | succ n ih =>
        intro qs i h1 hd q hq
        by_cases h2 : qs.length ≤ 1
        · rw [pfR_one i h2] at hq
          cases hq
        · have hfl := flL_len qs
          rw [pfR_step i (by omega)] at hq
          rcases List.mem_append.1 hq with hq | hq
          · unfold sbL at hq
            split at hq
            · rename_i h3
              rw [List.mem_singleton.1 hq]
              exact hd _ (mem_getD h3)
            · cases hq
          · exact ih (flL qs) (i / 2) (by omega) (flL_D _ qs (Nat.le_refl _) hd) q hq
    exact key _ _ _ (Nat.le_refl _) (okQs_leaves h).1
  · intro l hl
    cases hl
theorem eqQ_refl (a : List (List Int)) : eqQ a a = true := by unfold eqQ; exact @decide_eq_true _ (Classical.propDecidable _) rfl

set_option maxRecDepth 100000 in
theorem m4 : Meets Tryd.prog 4 (lawSpec tab Tryd.f4.params.toList) := by
  refine meets_of_owed (C := c4) ⟨tab_ok, lkS_ok ⟨m18, m19, m20, m21, m22, m23, m24, m13, m14, trivial⟩⟩ (by kernel_rfl) (by kernel_rfl : Tryd.prog.funcs[4]? = some Tryd.f4) (by kernel_rfl) (by kernel_rfl) (by kernel_rfl) _ ?_
  intro ds hds
  have hds : OkAll tab 8 [22, 3, 26, 28, 28] ds := hds
  obtain ⟨x, i, p, a, b, rfl, h1, h2, h3, h4, h5⟩ := okAll5 hds
  obtain ⟨i, rfl, hi1, hi2⟩ := i64_of h2
  obtain ⟨p, rfl, hp, hpl⟩ := bytes_of h3 rfl
  obtain ⟨a, rfl, ha⟩ := d32_of h4
  obtain ⟨b, rfl, hb⟩ := d32_of h5
  rw [ok22] at h1
  obtain ⟨xs, rfl, hx, _⟩ := h1
  obtain ⟨ls, rfl, hls⟩ := lls_of hx
  refine ⟨fun _ => rfl, fun _ => none, ?_⟩
  show owed c4 (fun _ => none) Tryd.f4 [LD ls, i64 i, .ints .u8 p, d32 a, d32 b] (bl true)
  rw [vc4]
  simp (decide := true) only [lsOf_LD, qsOf_PD, eqB_refl, eqQ_refl, beq_self_eq_true, List.length_map, eq_self, true_and, and_true, ne_eq, not_false_eq_true]
  split
  · trivial
  · rename_i h
    have h : ls.length ≤ 60 := by have := of_decide_eq_false h; omega
    have hl : okLs ls := ⟨hls, h⟩
    have hq := okQs_pth hl i
    and_intros <;> first | rfl | trivial | omega | exact hp | exact ⟨_, _, rfl, hl, hi1, hi2⟩ | exact ⟨_, rfl, hp, by omega⟩ | exact ⟨_, _, rfl, ha, hb⟩ | exact ⟨_, rfl, hl⟩ | exact ⟨_, _, rfl, hq, hq⟩

end Go.Proofs.YtkicjckhkefnpaaDoor
