import Derived.Test.YtcdjhhepgkcabaaQ6
/- QuotTells, part 7: the document's side: specs. -/
namespace Go.Proofs.Ytcdjhhepgkcabaa
open Go Go.Vg

def len1 (l : List Int) : Prop := l.length ≤ 1000
abbrev vD (l : List Int) : Nat := vB 65536 l
def sp56 : Go.Vg.Spec := ⟨fun ds => ∃ a, ds = [num8 a] ∧ okw a ∧ a.length = 8, fun ds => dgs (dg (wv (arrOf (ds.headD default)))), false, [48]⟩
def sp74 : Go.Vg.Spec := ⟨fun ds => ∃ l m, ds = [dgs l, dgs m] ∧ (okd l ∧ lenS l) ∧ okd m ∧ lenS m, fun ds => i64 (cmpN (vD (intsOf (ds.headD default))) (vD (intsOf (ds.getD 1 default)))), true, [24, 24]⟩
def sp75 : Go.Vg.Spec := ⟨fun ds => ∃ l m, ds = [dgs l, dgs m] ∧ (okd l ∧ lenS l) ∧ (okd m ∧ lenS m) ∧ vD m ≤ vD l, fun ds => dgs (dg (vD (intsOf (ds.headD default)) - vD (intsOf (ds.getD 1 default)))), false, [24, 24]⟩
def sp55 : Go.Vg.Spec := ⟨fun ds => ∃ l m, ds = [dgs l, dgs m] ∧ (okd l ∧ len1 l) ∧ (okd m ∧ len1 m) ∧ vD m ≠ 0,
  fun ds => .tup [dgs (dg (vD (intsOf (ds.headD default)) / vD (intsOf (ds.getD 1 default)))), dgs (dg (vD (intsOf (ds.headD default)) % vD (intsOf (ds.getD 1 default))))], false, [24, 24]⟩
def sp76 : Go.Vg.Spec := ⟨fun ds => ∃ l m, ds = [dgs l, dgs m] ∧ (okd l ∧ len1 l) ∧ (okd m ∧ len1 m) ∧ vD m ≠ 0,
  fun ds => dgs (dg (vD (intsOf (ds.headD default)) % vD (intsOf (ds.getD 1 default)))), false, [24, 24]⟩
def sp57 : Go.Vg.Spec := ⟨fun ds => ∃ x y, ds = [dgs (dg x), dgs (dg y)] ∧ len1 (dg x) ∧ len1 (dg y),
  fun ds => dgs (dg (Nat.gcd (vD (intsOf (ds.headD default))) (vD (intsOf (ds.getD 1 default))))), false, [24, 24]⟩

def c56 : Ctx := ⟨tab, lkS [(61, sp61)], [], []⟩
def c74 : Ctx := ⟨tab, lkS [(60, sp60)], [], []⟩
def c75 : Ctx := ⟨tab, lkS [(60, sp60), (62, sp62)], [5], [34]⟩
def c55 : Ctx := ⟨tab, lkS [(21, sp21), (62, sp62), (74, sp74), (75, sp75)], [26], [60, 100029]⟩
def c76 : Ctx := ⟨tab, lkS [(55, sp55)], [], []⟩
def c57 : Ctx := ⟨tab, lkS [(76, sp76)], [], []⟩
def inv74 (l m : List Int) : Nat → Option Inv
  | 2 => some ⟨Int, fun i => [(5, .d (i64 i))], fun _ => [], fun s => slotN s 5, fun _ i => (-1 ≤ i ∧ i ≤ 65536) ∧ vD (l.drop (i + 1).toNat) = vD (m.drop (i + 1).toNat), fun i => (i + 1).toNat⟩
  | _ => none
def sbD (l m : List Int) (i : Nat) : Nat := (vD (l.take i) + 65536 ^ i - vD (m.take i)) % 65536 ^ i
def inv75 (l m : List Int) : Nat → Option Inv
  | 4 => some ⟨Nat, fun i => [(11, .d (i64 i)), (6, .d (i64 (bor (vD (l.take i)) (vD (m.take i))))), (5, .row 5)], fun i => [(5, .row 3 (dgs (nB 65536 i (sbD l m i))))], fun s => (slotN s 11).toNat, fun _ i => i ≤ l.length, fun i => l.length - i⟩
  | _ => none
def inv55 (l m : List Int) : Nat → Option Inv
  | 4 => some ⟨Nat, fun z => [(8, .d (.val (.int .i64 ((z : Int) - 1)))), (7, .d (dgs (dg (vD (l.drop z) % vD m))))], fun z => [(14, .fix (.arr .i64 l.length (List.replicate z 0 ++ nB 65536 (l.length - z) (vD (l.drop z) / vD m))))], fun s => (slotN s 8 + 1).toNat, fun _ z => z ≤ l.length, fun z => z⟩
  | 8 => some ⟨Nat × Nat, fun z => [(9, .d (i64 z.1)), (10, .d (i64 z.2))], fun _ => [], fun s => ((slotN s 9).toNat, (slotN s 10).toNat), fun s z => (z.1 < z.2 ∧ z.2 ≤ 65536) ∧ vD m * z.1 ≤ vD (intsOf (slotD s 7)) ∧ vD (intsOf (slotD s 7)) < vD m * z.2, fun z => z.2 - z.1⟩
  | _ => none
def inv57 (X Y : Nat) : Nat → Option Inv
  | 1 => some ⟨Nat × Nat, fun z => [(0, .d (dgs (dg z.1))), (1, .d (dgs (dg z.2)))], fun _ => [], fun s => (vD (intsOf (slotD s 0)), vD (intsOf (slotD s 1))), fun _ z => (len1 (dg z.1) ∧ len1 (dg z.2)) ∧ Nat.gcd z.1 z.2 = Nat.gcd X Y, fun z => z.2⟩
  | _ => none
--KEEP Nat.gcd Go.Vg.eqB Go.Vg.vB Go.Vg.nB Go.Vg.okd Go.Vg.okw Go.Vg.dg Go.Vg.dig Go.Vg.trimL okb lenOk lenS len1 sbd sbb dif bor cmpN shf i64ok subL dvq dvr dve sbD
set_option maxRecDepth 100000 in
theorem vc56  (x0 x1 x2 x3 x4 x5 x6 x7 : Int) (F : D)  :
    (owed c56 (fun _ => none) Try.f56 [num8 [x0, x1, x2, x3, x4, x5, x6, x7]] F) = (
 (True ∧ false = false) ∧
   True ∧
    ((0 : Int) ≤ (0 : Int) ∧ (0 : Int) < (↑(8 : Nat) : Int) ∧ (8 : Nat) = (8 : Nat) ∧ (1 : Nat) = (1 : Nat)) ∧
     ((1 : Nat) ≠ (0 : Nat) ∧ (1 : Nat) = (1 : Nat) ∧ false = false) ∧
      ((0 : Int) ≤ (1 : Int) ∧ (1 : Int) < (↑(8 : Nat) : Int) ∧ (8 : Nat) = (8 : Nat) ∧ (1 : Nat) = (1 : Nat)) ∧
       ((1 : Nat) ≠ (0 : Nat) ∧ (1 : Nat) = (1 : Nat) ∧ false = false) ∧
        ((0 : Int) ≤ (2 : Int) ∧ (2 : Int) < (↑(8 : Nat) : Int) ∧ (8 : Nat) = (8 : Nat) ∧ (1 : Nat) = (1 : Nat)) ∧
         ((1 : Nat) ≠ (0 : Nat) ∧ (1 : Nat) = (1 : Nat) ∧ false = false) ∧
          ((0 : Int) ≤ (3 : Int) ∧ (3 : Int) < (↑(8 : Nat) : Int) ∧ (8 : Nat) = (8 : Nat) ∧ (1 : Nat) = (1 : Nat)) ∧
           ((1 : Nat) ≠ (0 : Nat) ∧ (1 : Nat) = (1 : Nat) ∧ false = false) ∧
            ((0 : Int) ≤ (4 : Int) ∧ (4 : Int) < (↑(8 : Nat) : Int) ∧ (8 : Nat) = (8 : Nat) ∧ (1 : Nat) = (1 : Nat)) ∧
             ((1 : Nat) ≠ (0 : Nat) ∧ (1 : Nat) = (1 : Nat) ∧ false = false) ∧
              ((0 : Int) ≤ (5 : Int) ∧ (5 : Int) < (↑(8 : Nat) : Int) ∧ (8 : Nat) = (8 : Nat) ∧ (1 : Nat) = (1 : Nat)) ∧
               ((1 : Nat) ≠ (0 : Nat) ∧ (1 : Nat) = (1 : Nat) ∧ false = false) ∧
                ((0 : Int) ≤ (6 : Int) ∧ (6 : Int) < (↑(8 : Nat) : Int) ∧ (8 : Nat) = (8 : Nat) ∧ (1 : Nat) = (1 : Nat)) ∧
                 ((1 : Nat) ≠ (0 : Nat) ∧ (1 : Nat) = (1 : Nat) ∧ false = false) ∧
                  ((0 : Int) ≤ (7 : Int) ∧ (7 : Int) < (↑(8 : Nat) : Int) ∧ (8 : Nat) = (8 : Nat) ∧ (1 : Nat) = (1 : Nat)) ∧
                   ((1 : Nat) ≠ (0 : Nat) ∧ (1 : Nat) = (1 : Nat) ∧ false = false) ∧
                    ((1 : Nat) = (1 : Nat) ∧ (8 : Nat) ≤ (4096 : Nat)) ∧ (∃ (l : List Int), [D.ints IntKind.u64 [x0, x1, x2, x3, x4, x5, x6, x7]] = [D.ints IntKind.u64 l] ∧ okw l ∧ l.length ≤ (100 : Nat)) ∧ True ∧ (false = false ∧ True) ∧ D.ints IntKind.i64 (dg (vB (18446744073709551616 : Nat) [x0, x1, x2, x3, x4, x5, x6, x7])) = F) := by kernel_rfl
set_option maxRecDepth 100000 in
theorem vc74  (l m : List Int) (F : D)  :
    (owed c74 (inv74 l m) Try.f74 [dgs l, dgs m] F) = (
 True ∧
   True ∧
    True ∧
     True ∧
      True ∧
       IntKind.i64 = IntKind.i64 ∧
        True ∧
         True ∧
          (((AV.d (D.val (Value.int IntKind.i64 (IntKind.i64.wrap ((bif decide ((↑l.length : Int) < (↑m.length : Int)) then (↑m.length : Int) else (↑l.length : Int)) - (1 : Int))))) = AV.d (D.val (Value.int IntKind.i64 (IntKind.i64.wrap ((bif decide ((↑l.length : Int) < (↑m.length : Int)) then (↑m.length : Int) else (↑l.length : Int)) - (1 : Int))))) ∧ True) ∧ True ∧ true = true) ∧
            ((-1 : Int) ≤ IntKind.i64.wrap ((bif decide ((↑l.length : Int) < (↑m.length : Int)) then (↑m.length : Int) else (↑l.length : Int)) - (1 : Int)) ∧ IntKind.i64.wrap ((bif decide ((↑l.length : Int) < (↑m.length : Int)) then (↑m.length : Int) else (↑l.length : Int)) - (1 : Int)) ≤ (65536 : Int)) ∧
             vB (65536 : Nat) (List.drop (IntKind.i64.wrap ((bif decide ((↑l.length : Int) < (↑m.length : Int)) then (↑m.length : Int) else (↑l.length : Int)) - (1 : Int)) + (1 : Int)).toNat l) = vB (65536 : Nat) (List.drop (IntKind.i64.wrap ((bif decide ((↑l.length : Int) < (↑m.length : Int)) then (↑m.length : Int) else (↑l.length : Int)) - (1 : Int)) + (1 : Int)).toNat m)) ∧
           ∀ (x : Int),
            ((-1 : Int) ≤ x ∧ x ≤ (65536 : Int)) ∧ vB (65536 : Nat) (List.drop (x + (1 : Int)).toNat l) = vB (65536 : Nat) (List.drop (x + (1 : Int)).toNat m) →
             true = true ∧
              True ∧
               True ∧
                match decide (x ≥ (0 : Int)) with
                | true =>
                 True ∧
                  True ∧
                   (∃ (l_1 : List Int), ∃ (i : Int), [D.ints IntKind.i64 l, D.val (Value.int IntKind.i64 x)] = [D.ints IntKind.i64 l_1, D.val (Value.int IntKind.i64 i)] ∧ lenOk l_1) ∧
                    True ∧
                     True ∧
                      (∃ (l : List Int), ∃ (i : Int), [D.ints IntKind.i64 m, D.val (Value.int IntKind.i64 x)] = [D.ints IntKind.i64 l, D.val (Value.int IntKind.i64 i)] ∧ lenOk l) ∧
                       True ∧
                        True ∧
                         True ∧
                          True ∧
                           True ∧
                            match decide (dig l x < dig m x) with
                            | true => True ∧ (false = false ∧ True) ∧ D.val (Value.int IntKind.i64 (-1 : Int)) = F
                            | false =>
                             True ∧
                              True ∧
                               True ∧
                                match decide (dig l x > dig m x) with
                                | true => True ∧ (false = false ∧ True) ∧ D.val (Value.int IntKind.i64 (1 : Int)) = F
                                | false =>
                                 True ∧
                                  True ∧
                                   True ∧
                                    ((AV.d (D.val (Value.int IntKind.i64 (IntKind.i64.wrap (x - (1 : Int))))) = AV.d (D.val (Value.int IntKind.i64 (IntKind.i64.wrap (x - (1 : Int))))) ∧ True) ∧ True ∧ true = true) ∧
                                     (((-1 : Int) ≤ IntKind.i64.wrap (x - (1 : Int)) ∧ IntKind.i64.wrap (x - (1 : Int)) ≤ (65536 : Int)) ∧ vB (65536 : Nat) (List.drop (IntKind.i64.wrap (x - (1 : Int)) + (1 : Int)).toNat l) = vB (65536 : Nat) (List.drop (IntKind.i64.wrap (x - (1 : Int)) + (1 : Int)).toNat m)) ∧
                                      (IntKind.i64.wrap (x - (1 : Int)) + (1 : Int)).toNat < (x + (1 : Int)).toNat
                | false => True ∧ (false = false ∧ True) ∧ D.val (Value.int IntKind.i64 (0 : Int)) = F) := by kernel_rfl
set_option maxRecDepth 100000 in
theorem vc75  (l m : List Int) (F : D)  :
    (owed c75 (inv75 l m) Try.f75 [dgs l, dgs m] F) = (
 True ∧
   (1 : Nat) ≠ (0 : Nat) ∧
    True ∧
     True ∧
      True ∧
       True ∧
        (((AV.d (D.val (Value.int IntKind.i64 (0 : Int))) = AV.d (D.val (Value.int IntKind.i64 (↑(Int.toNat (0 : Int)) : Int))) ∧ AV.d (D.val (Value.int IntKind.i64 (0 : Int))) = AV.d (D.val (Value.int IntKind.i64 (↑(bor (vB (65536 : Nat) (List.take (Int.toNat (0 : Int)) l)) (vB (65536 : Nat) (List.take (Int.toNat (0 : Int)) m))) : Int))) ∧ AV.row (5 : Nat) = AV.row (5 : Nat) ∧ True) ∧
           (some (Blk.row (3 : TypeId) (D.ints IntKind.i64 [])) = some (Blk.row (3 : TypeId) (D.ints IntKind.i64 (nB (65536 : Nat) (Int.toNat (0 : Int)) (sbD l m (Int.toNat (0 : Int)))))) ∧ True) ∧ true = true) ∧
          Int.toNat (0 : Int) ≤ l.length) ∧
         ∀ (x : Nat),
          x ≤ l.length →
           true = true ∧
            True ∧
             match decide ((↑x : Int) < (↑l.length : Int)) with
             | true =>
              True ∧
               True ∧
                True ∧
                 True ∧
                  ((0 : Int) ≤ (↑x : Int) ∧ (↑x : Int) < (↑l.length : Int) ∧ (1 : Nat) = (1 : Nat)) ∧
                   ((1 : Nat) ≠ (0 : Nat) ∧ (1 : Nat) = (1 : Nat) ∧ false = false) ∧
                    True ∧
                     True ∧
                      (∃ (l : List Int), ∃ (i : Int), [D.ints IntKind.i64 m, D.val (Value.int IntKind.i64 (↑x : Int))] = [D.ints IntKind.i64 l, D.val (Value.int IntKind.i64 i)] ∧ lenOk l) ∧
                       True ∧
                        True ∧
                         True ∧
                          True ∧
                           True ∧
                            True ∧
                             True ∧
                              match decide (IntKind.i64.wrap (IntKind.i64.wrap (l.getD (↑x : Int).toNat (0 : Int) - dig m (↑x : Int)) - (↑(bor (vB (65536 : Nat) (List.take x l)) (vB (65536 : Nat) (List.take x m))) : Int)) < (0 : Int)) with
                              | true =>
                               True ∧
                                True ∧
                                 True ∧
                                  True ∧
                                   True ∧
                                    True ∧
                                     ((1 : Nat) = (1 : Nat) ∧ (1 : Nat) ≤ (4096 : Nat)) ∧
                                      ((3 : TypeId) = (3 : TypeId) ∧
                                        (24 : Nat) = (24 : Nat) ∧
                                         true = true ∧
                                          (nB (65536 : Nat) x (sbD l m x) ++ [IntKind.i64.wrap (IntKind.i64.wrap (IntKind.i64.wrap (l.getD (↑x : Int).toNat (0 : Int) - dig m (↑x : Int)) - (↑(bor (vB (65536 : Nat) (List.take x l)) (vB (65536 : Nat) (List.take x m))) : Int)) + (65536 : Int))]).length ≤ (140737488355328 : Nat) ∧
                                           (nB (65536 : Nat) x (sbD l m x) ++ [IntKind.i64.wrap (IntKind.i64.wrap (IntKind.i64.wrap (l.getD (↑x : Int).toNat (0 : Int) - dig m (↑x : Int)) - (↑(bor (vB (65536 : Nat) (List.take x l)) (vB (65536 : Nat) (List.take x m))) : Int)) + (65536 : Int))]).length * (8 : Nat) ≤ (140737488355328 : Nat) ∧
                                            (1 : Nat) ≠ (0 : Nat) ∧ (1 : Nat) = (1 : Nat)) ∧
                                       True ∧
                                        True ∧
                                         True ∧
                                          ((AV.d (D.val (Value.int IntKind.i64 (IntKind.i64.wrap ((↑x : Int) + (1 : Int))))) = AV.d (D.val (Value.int IntKind.i64 (↑(IntKind.i64.wrap ((↑x : Int) + (1 : Int))).toNat : Int))) ∧
                                             AV.d (D.val (Value.int IntKind.i64 (1 : Int))) = AV.d (D.val (Value.int IntKind.i64 (↑(bor (vB (65536 : Nat) (List.take (IntKind.i64.wrap ((↑x : Int) + (1 : Int))).toNat l)) (vB (65536 : Nat) (List.take (IntKind.i64.wrap ((↑x : Int) + (1 : Int))).toNat m))) : Int))) ∧
                                              AV.row (5 : Nat) = AV.row (5 : Nat) ∧ True) ∧
                                            (some (Blk.row (3 : TypeId) (D.ints IntKind.i64 (nB (65536 : Nat) x (sbD l m x) ++ [IntKind.i64.wrap (IntKind.i64.wrap (IntKind.i64.wrap (l.getD (↑x : Int).toNat (0 : Int) - dig m (↑x : Int)) - (↑(bor (vB (65536 : Nat) (List.take x l)) (vB (65536 : Nat) (List.take x m))) : Int)) + (65536 : Int))]))) =
                                               some (Blk.row (3 : TypeId) (D.ints IntKind.i64 (nB (65536 : Nat) (IntKind.i64.wrap ((↑x : Int) + (1 : Int))).toNat (sbD l m (IntKind.i64.wrap ((↑x : Int) + (1 : Int))).toNat)))) ∧
                                              True) ∧
                                             true = true) ∧
                                           (IntKind.i64.wrap ((↑x : Int) + (1 : Int))).toNat ≤ l.length ∧ l.length - (IntKind.i64.wrap ((↑x : Int) + (1 : Int))).toNat < l.length - x
                              | false =>
                               True ∧
                                True ∧
                                 ((1 : Nat) = (1 : Nat) ∧ (1 : Nat) ≤ (4096 : Nat)) ∧
                                  ((3 : TypeId) = (3 : TypeId) ∧
                                    (24 : Nat) = (24 : Nat) ∧
                                     true = true ∧
                                      (nB (65536 : Nat) x (sbD l m x) ++ [IntKind.i64.wrap (IntKind.i64.wrap (l.getD (↑x : Int).toNat (0 : Int) - dig m (↑x : Int)) - (↑(bor (vB (65536 : Nat) (List.take x l)) (vB (65536 : Nat) (List.take x m))) : Int))]).length ≤ (140737488355328 : Nat) ∧
                                       (nB (65536 : Nat) x (sbD l m x) ++ [IntKind.i64.wrap (IntKind.i64.wrap (l.getD (↑x : Int).toNat (0 : Int) - dig m (↑x : Int)) - (↑(bor (vB (65536 : Nat) (List.take x l)) (vB (65536 : Nat) (List.take x m))) : Int))]).length * (8 : Nat) ≤ (140737488355328 : Nat) ∧ (1 : Nat) ≠ (0 : Nat) ∧ (1 : Nat) = (1 : Nat)) ∧
                                   True ∧
                                    True ∧
                                     True ∧
                                      ((AV.d (D.val (Value.int IntKind.i64 (IntKind.i64.wrap ((↑x : Int) + (1 : Int))))) = AV.d (D.val (Value.int IntKind.i64 (↑(IntKind.i64.wrap ((↑x : Int) + (1 : Int))).toNat : Int))) ∧
                                         AV.d (D.val (Value.int IntKind.i64 (0 : Int))) = AV.d (D.val (Value.int IntKind.i64 (↑(bor (vB (65536 : Nat) (List.take (IntKind.i64.wrap ((↑x : Int) + (1 : Int))).toNat l)) (vB (65536 : Nat) (List.take (IntKind.i64.wrap ((↑x : Int) + (1 : Int))).toNat m))) : Int))) ∧ AV.row (5 : Nat) = AV.row (5 : Nat) ∧ True) ∧
                                        (some (Blk.row (3 : TypeId) (D.ints IntKind.i64 (nB (65536 : Nat) x (sbD l m x) ++ [IntKind.i64.wrap (IntKind.i64.wrap (l.getD (↑x : Int).toNat (0 : Int) - dig m (↑x : Int)) - (↑(bor (vB (65536 : Nat) (List.take x l)) (vB (65536 : Nat) (List.take x m))) : Int))]))) =
                                           some (Blk.row (3 : TypeId) (D.ints IntKind.i64 (nB (65536 : Nat) (IntKind.i64.wrap ((↑x : Int) + (1 : Int))).toNat (sbD l m (IntKind.i64.wrap ((↑x : Int) + (1 : Int))).toNat)))) ∧
                                          True) ∧
                                         true = true) ∧
                                       (IntKind.i64.wrap ((↑x : Int) + (1 : Int))).toNat ≤ l.length ∧ l.length - (IntKind.i64.wrap ((↑x : Int) + (1 : Int))).toNat < l.length - x
             | false => True ∧ (∃ (l_1 : List Int), [D.ints IntKind.i64 (nB (65536 : Nat) x (sbD l m x))] = [D.ints IntKind.i64 l_1] ∧ lenOk l_1) ∧ True ∧ (false = false ∧ True) ∧ D.ints IntKind.i64 (trimL (nB (65536 : Nat) x (sbD l m x))) = F) := by kernel_rfl
set_option maxRecDepth 100000 in
theorem vc55  (l m : List Int) (F : D)  :
    (owed c55 (inv55 l m) Try.f55 [dgs l, dgs m] F) = (
 True ∧
   True ∧
    True ∧
     True ∧
      ((0 : Int) ≤ (↑l.length : Int) ∧ (↑l.length : Int) = (↑l.length : Int) ∧ (↑l.length : Int) ≤ (281474976710656 : Int) ∧ (↑(8 : Nat) : Int) * (↑l.length : Int) ≤ (281474976710656 : Int) ∧ (1 : Nat) = (1 : Nat)) ∧
       True ∧
        True ∧
         True ∧
          True ∧
           True ∧
            True ∧
             (((AV.d (D.val (Value.int IntKind.i64 (IntKind.i64.wrap ((↑l.length : Int) - (1 : Int))))) = AV.d (D.val (Value.int IntKind.i64 ((↑(IntKind.i64.wrap ((↑l.length : Int) - (1 : Int)) + (1 : Int)).toNat : Int) - (1 : Int)))) ∧ dg (vB (65536 : Nat) (List.drop (IntKind.i64.wrap ((↑l.length : Int) - (1 : Int)) + (1 : Int)).toNat l) % vB (65536 : Nat) m) = [] ∧ True) ∧
                (some (Blk.fix (D.arr IntKind.i64 (↑l.length : Int).toNat (List.replicate (↑l.length : Int).toNat (0 : Int)))) =
                   some
                    (Blk.fix (D.arr IntKind.i64 l.length (List.replicate (IntKind.i64.wrap ((↑l.length : Int) - (1 : Int)) + (1 : Int)).toNat (0 : Int) ++ nB (65536 : Nat) (l.length - (IntKind.i64.wrap ((↑l.length : Int) - (1 : Int)) + (1 : Int)).toNat) (vB (65536 : Nat) (List.drop (IntKind.i64.wrap ((↑l.length : Int) - (1 : Int)) + (1 : Int)).toNat l) / vB (65536 : Nat) m)))) ∧
                  True) ∧
                 true = true) ∧
               (IntKind.i64.wrap ((↑l.length : Int) - (1 : Int)) + (1 : Int)).toNat ≤ l.length) ∧
              ∀ (x : Nat),
               x ≤ l.length →
                true = true ∧
                 True ∧
                  True ∧
                   match decide ((↑x : Int) - (1 : Int) ≥ (0 : Int)) with
                   | true =>
                    True ∧
                     True ∧
                      ((0 : Int) ≤ (↑x : Int) - (1 : Int) ∧ (↑x : Int) - (1 : Int) < (↑l.length : Int) ∧ (1 : Nat) = (1 : Nat)) ∧
                       ((1 : Nat) ≠ (0 : Nat) ∧ (1 : Nat) = (1 : Nat) ∧ false = false) ∧
                        ((1 : Nat) = (1 : Nat) ∧ (1 : Nat) ≤ (4096 : Nat)) ∧
                         True ∧
                          ((3 : TypeId) = (3 : TypeId) ∧
                            (24 : Nat) = (24 : Nat) ∧
                             true = true ∧
                              (l.getD ((↑x : Int) - (1 : Int)).toNat (0 : Int) :: dg (vB (65536 : Nat) (List.drop x l) % vB (65536 : Nat) m)).length ≤ (140737488355328 : Nat) ∧
                               (l.getD ((↑x : Int) - (1 : Int)).toNat (0 : Int) :: dg (vB (65536 : Nat) (List.drop x l) % vB (65536 : Nat) m)).length * (8 : Nat) ≤ (140737488355328 : Nat) ∧ (1 : Nat) ≠ (0 : Nat) ∧ (1 : Nat) = (1 : Nat)) ∧
                           (∃ (l_1 : List Int), [D.ints IntKind.i64 (l.getD ((↑x : Int) - (1 : Int)).toNat (0 : Int) :: dg (vB (65536 : Nat) (List.drop x l) % vB (65536 : Nat) m))] = [D.ints IntKind.i64 l_1] ∧ lenOk l_1) ∧
                            True ∧
                             True ∧
                              True ∧
                               (((AV.d (D.val (Value.int IntKind.i64 (0 : Int))) = AV.d (D.val (Value.int IntKind.i64 (↑(0 : Nat) : Int))) ∧ AV.d (D.val (Value.int IntKind.i64 (65536 : Int))) = AV.d (D.val (Value.int IntKind.i64 (↑(65536 : Nat) : Int))) ∧ True) ∧
                                  (some (Blk.fix (D.arr IntKind.i64 l.length (List.replicate x (0 : Int) ++ nB (65536 : Nat) (l.length - x) (vB (65536 : Nat) (List.drop x l) / vB (65536 : Nat) m)))) = some (Blk.fix (D.arr IntKind.i64 l.length (List.replicate x (0 : Int) ++ nB (65536 : Nat) (l.length - x) (vB (65536 : Nat) (List.drop x l) / vB (65536 : Nat) m)))) ∧
                                    True) ∧
                                   true = true) ∧
                                 ((0 : Nat) < (65536 : Nat) ∧ (65536 : Nat) ≤ (65536 : Nat)) ∧
                                  vB (65536 : Nat) m * (0 : Nat) ≤ vB (65536 : Nat) (trimL (l.getD ((↑x : Int) - (1 : Int)).toNat (0 : Int) :: dg (vB (65536 : Nat) (List.drop x l) % vB (65536 : Nat) m))) ∧
                                   vB (65536 : Nat) (trimL (l.getD ((↑x : Int) - (1 : Int)).toNat (0 : Int) :: dg (vB (65536 : Nat) (List.drop x l) % vB (65536 : Nat) m))) < vB (65536 : Nat) m * (65536 : Nat)) ∧
                                ∀ (x_1 : Nat × Nat),
                                 (x_1.fst < x_1.snd ∧ x_1.snd ≤ (65536 : Nat)) ∧
                                   vB (65536 : Nat) m * x_1.fst ≤ vB (65536 : Nat) (trimL (l.getD ((↑x : Int) - (1 : Int)).toNat (0 : Int) :: dg (vB (65536 : Nat) (List.drop x l) % vB (65536 : Nat) m))) ∧
                                    vB (65536 : Nat) (trimL (l.getD ((↑x : Int) - (1 : Int)).toNat (0 : Int) :: dg (vB (65536 : Nat) (List.drop x l) % vB (65536 : Nat) m))) < vB (65536 : Nat) m * x_1.snd →
                                  true = true ∧
                                   True ∧
                                    True ∧
                                     True ∧
                                      True ∧
                                       match decide (IntKind.i64.wrap ((↑x_1.snd : Int) - (↑x_1.fst : Int)) > (1 : Int)) with
                                       | true =>
                                        True ∧
                                         True ∧
                                          True ∧
                                           (2 : Int) ≠ (0 : Int) ∧
                                            True ∧
                                             True ∧
                                              True ∧
                                               ((1 : Nat) = (1 : Nat) ∧ (1 : Nat) ≤ (4096 : Nat)) ∧
                                                (∃ (l : List Int), ∃ (m_1 : List Int), [D.ints IntKind.i64 m, D.ints IntKind.i64 [IntKind.i64.wrap ((IntKind.i64.wrap ((↑x_1.fst : Int) + (↑x_1.snd : Int))).tdiv (2 : Int))]] = [D.ints IntKind.i64 l, D.ints IntKind.i64 m_1] ∧ (okd l ∧ lenS l) ∧ okd m_1 ∧ lenS m_1) ∧
                                                 True ∧
                                                  (∃ (l_1 : List Int),
                                                    ∃ (m_1 : List Int),
                                                     [D.ints IntKind.i64 (dg (vB (65536 : Nat) m * vB (65536 : Nat) [IntKind.i64.wrap ((IntKind.i64.wrap ((↑x_1.fst : Int) + (↑x_1.snd : Int))).tdiv (2 : Int))])),
                                                        D.ints IntKind.i64 (trimL (l.getD ((↑x : Int) - (1 : Int)).toNat (0 : Int) :: dg (vB (65536 : Nat) (List.drop x l) % vB (65536 : Nat) m)))] =
                                                       [D.ints IntKind.i64 l_1, D.ints IntKind.i64 m_1] ∧
                                                      (okd l_1 ∧ lenS l_1) ∧ okd m_1 ∧ lenS m_1) ∧
                                                   True ∧
                                                    match
                                                     decide
                                                      (cmpN (vB (65536 : Nat) (dg (vB (65536 : Nat) m * vB (65536 : Nat) [IntKind.i64.wrap ((IntKind.i64.wrap ((↑x_1.fst : Int) + (↑x_1.snd : Int))).tdiv (2 : Int))])))
                                                        (vB (65536 : Nat) (trimL (l.getD ((↑x : Int) - (1 : Int)).toNat (0 : Int) :: dg (vB (65536 : Nat) (List.drop x l) % vB (65536 : Nat) m)))) ≤
                                                       (0 : Int)) with
                                                    | true =>
                                                     True ∧
                                                      True ∧
                                                       ((AV.d (D.val (Value.int IntKind.i64 (IntKind.i64.wrap ((IntKind.i64.wrap ((↑x_1.fst : Int) + (↑x_1.snd : Int))).tdiv (2 : Int))))) = AV.d (D.val (Value.int IntKind.i64 (↑(IntKind.i64.wrap ((IntKind.i64.wrap ((↑x_1.fst : Int) + (↑x_1.snd : Int))).tdiv (2 : Int))).toNat : Int))) ∧
                                                          AV.d (D.val (Value.int IntKind.i64 (↑x_1.snd : Int))) = AV.d (D.val (Value.int IntKind.i64 (↑(↑x_1.snd : Int).toNat : Int))) ∧ True) ∧
                                                         (some (Blk.fix (D.arr IntKind.i64 l.length (List.replicate x (0 : Int) ++ nB (65536 : Nat) (l.length - x) (vB (65536 : Nat) (List.drop x l) / vB (65536 : Nat) m)))) =
                                                            some (Blk.fix (D.arr IntKind.i64 l.length (List.replicate x (0 : Int) ++ nB (65536 : Nat) (l.length - x) (vB (65536 : Nat) (List.drop x l) / vB (65536 : Nat) m)))) ∧
                                                           True) ∧
                                                          true = true) ∧
                                                        (((IntKind.i64.wrap ((IntKind.i64.wrap ((↑x_1.fst : Int) + (↑x_1.snd : Int))).tdiv (2 : Int))).toNat < (↑x_1.snd : Int).toNat ∧ (↑x_1.snd : Int).toNat ≤ (65536 : Nat)) ∧
                                                          vB (65536 : Nat) m * (IntKind.i64.wrap ((IntKind.i64.wrap ((↑x_1.fst : Int) + (↑x_1.snd : Int))).tdiv (2 : Int))).toNat ≤ vB (65536 : Nat) (trimL (l.getD ((↑x : Int) - (1 : Int)).toNat (0 : Int) :: dg (vB (65536 : Nat) (List.drop x l) % vB (65536 : Nat) m))) ∧
                                                           vB (65536 : Nat) (trimL (l.getD ((↑x : Int) - (1 : Int)).toNat (0 : Int) :: dg (vB (65536 : Nat) (List.drop x l) % vB (65536 : Nat) m))) < vB (65536 : Nat) m * (↑x_1.snd : Int).toNat) ∧
                                                         (↑x_1.snd : Int).toNat - (IntKind.i64.wrap ((IntKind.i64.wrap ((↑x_1.fst : Int) + (↑x_1.snd : Int))).tdiv (2 : Int))).toNat < x_1.snd - x_1.fst
                                                    | false =>
                                                     True ∧
                                                      True ∧
                                                       ((AV.d (D.val (Value.int IntKind.i64 (↑x_1.fst : Int))) = AV.d (D.val (Value.int IntKind.i64 (↑(↑x_1.fst : Int).toNat : Int))) ∧
                                                          AV.d (D.val (Value.int IntKind.i64 (IntKind.i64.wrap ((IntKind.i64.wrap ((↑x_1.fst : Int) + (↑x_1.snd : Int))).tdiv (2 : Int))))) = AV.d (D.val (Value.int IntKind.i64 (↑(IntKind.i64.wrap ((IntKind.i64.wrap ((↑x_1.fst : Int) + (↑x_1.snd : Int))).tdiv (2 : Int))).toNat : Int))) ∧ True) ∧
                                                         (some (Blk.fix (D.arr IntKind.i64 l.length (List.replicate x (0 : Int) ++ nB (65536 : Nat) (l.length - x) (vB (65536 : Nat) (List.drop x l) / vB (65536 : Nat) m)))) =
                                                            some (Blk.fix (D.arr IntKind.i64 l.length (List.replicate x (0 : Int) ++ nB (65536 : Nat) (l.length - x) (vB (65536 : Nat) (List.drop x l) / vB (65536 : Nat) m)))) ∧
                                                           True) ∧
                                                          true = true) ∧
                                                        (((↑x_1.fst : Int).toNat < (IntKind.i64.wrap ((IntKind.i64.wrap ((↑x_1.fst : Int) + (↑x_1.snd : Int))).tdiv (2 : Int))).toNat ∧ (IntKind.i64.wrap ((IntKind.i64.wrap ((↑x_1.fst : Int) + (↑x_1.snd : Int))).tdiv (2 : Int))).toNat ≤ (65536 : Nat)) ∧
                                                          vB (65536 : Nat) m * (↑x_1.fst : Int).toNat ≤ vB (65536 : Nat) (trimL (l.getD ((↑x : Int) - (1 : Int)).toNat (0 : Int) :: dg (vB (65536 : Nat) (List.drop x l) % vB (65536 : Nat) m))) ∧
                                                           vB (65536 : Nat) (trimL (l.getD ((↑x : Int) - (1 : Int)).toNat (0 : Int) :: dg (vB (65536 : Nat) (List.drop x l) % vB (65536 : Nat) m))) < vB (65536 : Nat) m * (IntKind.i64.wrap ((IntKind.i64.wrap ((↑x_1.fst : Int) + (↑x_1.snd : Int))).tdiv (2 : Int))).toNat) ∧
                                                         (IntKind.i64.wrap ((IntKind.i64.wrap ((↑x_1.fst : Int) + (↑x_1.snd : Int))).tdiv (2 : Int))).toNat - (↑x_1.fst : Int).toNat < x_1.snd - x_1.fst
                                       | false =>
                                        True ∧
                                         True ∧
                                          match decide ((↑x_1.fst : Int) > (0 : Int)) with
                                          | true =>
                                           True ∧
                                            True ∧
                                             True ∧
                                              ((1 : Nat) = (1 : Nat) ∧ (1 : Nat) ≤ (4096 : Nat)) ∧
                                               (∃ (l : List Int), ∃ (m_1 : List Int), [D.ints IntKind.i64 m, D.ints IntKind.i64 [(↑x_1.fst : Int)]] = [D.ints IntKind.i64 l, D.ints IntKind.i64 m_1] ∧ (okd l ∧ lenS l) ∧ okd m_1 ∧ lenS m_1) ∧
                                                (∃ (l_1 : List Int),
                                                  ∃ (m_1 : List Int),
                                                   [D.ints IntKind.i64 (trimL (l.getD ((↑x : Int) - (1 : Int)).toNat (0 : Int) :: dg (vB (65536 : Nat) (List.drop x l) % vB (65536 : Nat) m))), D.ints IntKind.i64 (dg (vB (65536 : Nat) m * vB (65536 : Nat) [(↑x_1.fst : Int)]))] = [D.ints IntKind.i64 l_1, D.ints IntKind.i64 m_1] ∧
                                                    (okd l_1 ∧ lenS l_1) ∧ (okd m_1 ∧ lenS m_1) ∧ vB (65536 : Nat) m_1 ≤ vB (65536 : Nat) l_1) ∧
                                                 True ∧
                                                  True ∧
                                                   True ∧
                                                    True ∧
                                                     ((0 : Int) ≤ (↑x : Int) - (1 : Int) ∧ (↑x : Int) - (1 : Int) < (↑(↑l.length : Int).toNat : Int) ∧ (1 : Nat) = (1 : Nat)) ∧
                                                      (((0 : Nat) + ((↑x : Int) - (1 : Int)).toNat < l.length ∧ ([] : List Nat) = [] ∧ true = true) ∧ (1 : Nat) ≠ (0 : Nat) ∧ (1 : Nat) = (1 : Nat) ∧ false = false) ∧
                                                       True ∧
                                                        True ∧
                                                         True ∧
                                                          ((AV.d (D.val (Value.int IntKind.i64 (IntKind.i64.wrap ((↑x : Int) - (1 : Int) - (1 : Int))))) = AV.d (D.val (Value.int IntKind.i64 ((↑(IntKind.i64.wrap ((↑x : Int) - (1 : Int) - (1 : Int)) + (1 : Int)).toNat : Int) - (1 : Int)))) ∧
                                                             AV.d (D.ints IntKind.i64 (dg (vB (65536 : Nat) (trimL (l.getD ((↑x : Int) - (1 : Int)).toNat (0 : Int) :: dg (vB (65536 : Nat) (List.drop x l) % vB (65536 : Nat) m))) - vB (65536 : Nat) (dg (vB (65536 : Nat) m * vB (65536 : Nat) [(↑x_1.fst : Int)]))))) =
                                                               AV.d (D.ints IntKind.i64 (dg (vB (65536 : Nat) (List.drop (IntKind.i64.wrap ((↑x : Int) - (1 : Int) - (1 : Int)) + (1 : Int)).toNat l) % vB (65536 : Nat) m))) ∧
                                                              True) ∧
                                                            (some (Blk.fix (D.arr IntKind.i64 l.length ((List.replicate x (0 : Int) ++ nB (65536 : Nat) (l.length - x) (vB (65536 : Nat) (List.drop x l) / vB (65536 : Nat) m)).set ((0 : Nat) + ((↑x : Int) - (1 : Int)).toNat) (↑x_1.fst : Int)))) =
                                                               some
                                                                (Blk.fix
                                                                 (D.arr IntKind.i64 l.length
                                                                  (List.replicate (IntKind.i64.wrap ((↑x : Int) - (1 : Int) - (1 : Int)) + (1 : Int)).toNat (0 : Int) ++
                                                                   nB (65536 : Nat) (l.length - (IntKind.i64.wrap ((↑x : Int) - (1 : Int) - (1 : Int)) + (1 : Int)).toNat) (vB (65536 : Nat) (List.drop (IntKind.i64.wrap ((↑x : Int) - (1 : Int) - (1 : Int)) + (1 : Int)).toNat l) / vB (65536 : Nat) m)))) ∧
                                                              True) ∧
                                                             true = true) ∧
                                                           (IntKind.i64.wrap ((↑x : Int) - (1 : Int) - (1 : Int)) + (1 : Int)).toNat ≤ l.length ∧ (IntKind.i64.wrap ((↑x : Int) - (1 : Int) - (1 : Int)) + (1 : Int)).toNat < x
                                          | false =>
                                           True ∧
                                            True ∧
                                             True ∧
                                              ((0 : Int) ≤ (↑x : Int) - (1 : Int) ∧ (↑x : Int) - (1 : Int) < (↑(↑l.length : Int).toNat : Int) ∧ (1 : Nat) = (1 : Nat)) ∧
                                               (((0 : Nat) + ((↑x : Int) - (1 : Int)).toNat < l.length ∧ ([] : List Nat) = [] ∧ true = true) ∧ (1 : Nat) ≠ (0 : Nat) ∧ (1 : Nat) = (1 : Nat) ∧ false = false) ∧
                                                True ∧
                                                 True ∧
                                                  True ∧
                                                   ((AV.d (D.val (Value.int IntKind.i64 (IntKind.i64.wrap ((↑x : Int) - (1 : Int) - (1 : Int))))) = AV.d (D.val (Value.int IntKind.i64 ((↑(IntKind.i64.wrap ((↑x : Int) - (1 : Int) - (1 : Int)) + (1 : Int)).toNat : Int) - (1 : Int)))) ∧
                                                      AV.d (D.ints IntKind.i64 (trimL (l.getD ((↑x : Int) - (1 : Int)).toNat (0 : Int) :: dg (vB (65536 : Nat) (List.drop x l) % vB (65536 : Nat) m)))) =
                                                        AV.d (D.ints IntKind.i64 (dg (vB (65536 : Nat) (List.drop (IntKind.i64.wrap ((↑x : Int) - (1 : Int) - (1 : Int)) + (1 : Int)).toNat l) % vB (65536 : Nat) m))) ∧
                                                       True) ∧
                                                     (some (Blk.fix (D.arr IntKind.i64 l.length ((List.replicate x (0 : Int) ++ nB (65536 : Nat) (l.length - x) (vB (65536 : Nat) (List.drop x l) / vB (65536 : Nat) m)).set ((0 : Nat) + ((↑x : Int) - (1 : Int)).toNat) (↑x_1.fst : Int)))) =
                                                        some
                                                         (Blk.fix
                                                          (D.arr IntKind.i64 l.length
                                                           (List.replicate (IntKind.i64.wrap ((↑x : Int) - (1 : Int) - (1 : Int)) + (1 : Int)).toNat (0 : Int) ++
                                                            nB (65536 : Nat) (l.length - (IntKind.i64.wrap ((↑x : Int) - (1 : Int) - (1 : Int)) + (1 : Int)).toNat) (vB (65536 : Nat) (List.drop (IntKind.i64.wrap ((↑x : Int) - (1 : Int) - (1 : Int)) + (1 : Int)).toNat l) / vB (65536 : Nat) m)))) ∧
                                                       True) ∧
                                                      true = true) ∧
                                                    (IntKind.i64.wrap ((↑x : Int) - (1 : Int) - (1 : Int)) + (1 : Int)).toNat ≤ l.length ∧ (IntKind.i64.wrap ((↑x : Int) - (1 : Int) - (1 : Int)) + (1 : Int)).toNat < x
                   | false =>
                    True ∧
                     (∃ (l_1 : List Int), [D.ints IntKind.i64 (List.take (↑l.length : Int).toNat (List.drop (0 : Nat) (List.replicate x (0 : Int) ++ nB (65536 : Nat) (l.length - x) (vB (65536 : Nat) (List.drop x l) / vB (65536 : Nat) m))))] = [D.ints IntKind.i64 l_1] ∧ lenOk l_1) ∧
                      True ∧
                       True ∧ True ∧ (false = false ∧ false = false ∧ True) ∧ D.tup [D.ints IntKind.i64 (trimL (List.take (↑l.length : Int).toNat (List.drop (0 : Nat) (List.replicate x (0 : Int) ++ nB (65536 : Nat) (l.length - x) (vB (65536 : Nat) (List.drop x l) / vB (65536 : Nat) m))))), D.ints IntKind.i64 (dg (vB (65536 : Nat) (List.drop x l) % vB (65536 : Nat) m))] = F) := by kernel_rfl
set_option maxRecDepth 100000 in
theorem vc76  (l m : List Int) (F : D)  :
    (owed c76 (fun _ => none) Try.f76 [dgs l, dgs m] F) = (
 True ∧
   True ∧
    True ∧
     (∃ (l_1 : List Int), ∃ (m_1 : List Int), [D.ints IntKind.i64 l, D.ints IntKind.i64 m] = [D.ints IntKind.i64 l_1, D.ints IntKind.i64 m_1] ∧ (okd l_1 ∧ len1 l_1) ∧ (okd m_1 ∧ len1 m_1) ∧ vB (65536 : Nat) m_1 ≠ (0 : Nat)) ∧
      True ∧ ((0 : Nat) < (2 : Nat) ∧ false = false) ∧ ((1 : Nat) < (2 : Nat) ∧ false = false) ∧ True ∧ True ∧ True ∧ True ∧ (false = false ∧ True) ∧ D.ints IntKind.i64 (dg (vB (65536 : Nat) l % vB (65536 : Nat) m)) = F) := by kernel_rfl
set_option maxRecDepth 100000 in
theorem vc57  (X Y : Nat) (F : D)  :
    (owed c57 (inv57 X Y) Try.f57 [dgs (dg X), dgs (dg Y)] F) = (
 True ∧
   (((AV.d (D.ints IntKind.i64 (dg X)) = AV.d (D.ints IntKind.i64 (dg (vB (65536 : Nat) (dg X)))) ∧ AV.d (D.ints IntKind.i64 (dg Y)) = AV.d (D.ints IntKind.i64 (dg (vB (65536 : Nat) (dg Y)))) ∧ True) ∧ True ∧ true = true) ∧ (len1 (dg (vB (65536 : Nat) (dg X))) ∧ len1 (dg (vB (65536 : Nat) (dg Y)))) ∧ (vB (65536 : Nat) (dg X)).gcd (vB (65536 : Nat) (dg Y)) = X.gcd Y) ∧
    ∀ (x : Nat × Nat),
     (len1 (dg x.fst) ∧ len1 (dg x.snd)) ∧ x.fst.gcd x.snd = X.gcd Y →
      true = true ∧
       True ∧
        True ∧
         True ∧
          match decide ((↑(dg x.snd).length : Int) > (0 : Int)) with
          | true =>
           True ∧
            True ∧
             True ∧
              (∃ (l : List Int), ∃ (m : List Int), [D.ints IntKind.i64 (dg x.fst), D.ints IntKind.i64 (dg x.snd)] = [D.ints IntKind.i64 l, D.ints IntKind.i64 m] ∧ (okd l ∧ len1 l) ∧ (okd m ∧ len1 m) ∧ vB (65536 : Nat) m ≠ (0 : Nat)) ∧
               True ∧
                True ∧
                 ((AV.d (D.ints IntKind.i64 (dg x.snd)) = AV.d (D.ints IntKind.i64 (dg (vB (65536 : Nat) (dg x.snd)))) ∧ AV.d (D.ints IntKind.i64 (dg (vB (65536 : Nat) (dg x.fst) % vB (65536 : Nat) (dg x.snd)))) = AV.d (D.ints IntKind.i64 (dg (vB (65536 : Nat) (dg (vB (65536 : Nat) (dg x.fst) % vB (65536 : Nat) (dg x.snd)))))) ∧ True) ∧ True ∧ true = true) ∧
                  ((len1 (dg (vB (65536 : Nat) (dg x.snd))) ∧ len1 (dg (vB (65536 : Nat) (dg (vB (65536 : Nat) (dg x.fst) % vB (65536 : Nat) (dg x.snd)))))) ∧ (vB (65536 : Nat) (dg x.snd)).gcd (vB (65536 : Nat) (dg (vB (65536 : Nat) (dg x.fst) % vB (65536 : Nat) (dg x.snd)))) = X.gcd Y) ∧ vB (65536 : Nat) (dg (vB (65536 : Nat) (dg x.fst) % vB (65536 : Nat) (dg x.snd))) < x.snd
          | false => True ∧ True ∧ (false = false ∧ True) ∧ D.ints IntKind.i64 (dg x.fst) = F) := by kernel_rfl

end Go.Proofs.Ytcdjhhepgkcabaa
