/- PinPlays: what the law owes. -/
import Derived.Test.YtkicjckhkefnpaaDoorZb12
namespace Go.Proofs.YtkicjckhkefnpaaDoor
open Go Go.Vg

abbrev Ty3 := Int × List Int × List Int
def tyD (x : Ty3) : D := .st [i64 x.1, bys x.2.1, bys x.2.2]
def sp30 : Go.Vg.Spec := ⟨fun ds => ∃ l, ds = [.ints .u8 l], fun ds => .val (.bool (rgt (intsOf (ds.headD default)))), true, [26]⟩
noncomputable def c6 : Ctx := ⟨tab, lkS [(31, sp31), (32, sp32), (28, sp28), (30, sp30), (33, sp33), (34, sp34), (29, sp29), (26, sp26), (27, sp27)], [], []⟩
noncomputable def c6b : Ctx := ⟨tab, lkS [(31, sp31b), (32, sp32), (28, sp28), (30, sp30)], [], []⟩
def blkM (s : Go.Vg.St) (b : Nat) : D := match Go.Vg.look s.M b with
  | some (.fix x) => x
  | _ => default
/-- What a step is to be answered, and how many tries are left by it (a fresh PIN apart). -/
def wnt (s : List Int) (k : Int) (o q m : List Int) (n : Int) : Int := if 1 < k ∧ rgt q = false then 1 else if k < 3 then tryE s m n o else 0
def nxt (s : List Int) (k : Int) (o q m : List Int) (n : Int) : Int := if 1 < k ∧ rgt q = false then n else if k < 3 then tryN s m n o else n
def mk2 (s : List Int) (w k : Int) (q m : List Int) : List Int := if w = 0 ∧ 1 < k then strL s q else m
def lf2 (w k n : Int) : Int := if w = 0 ∧ 1 < k then 3 else n
def inv6 (s p : List Int) (xs : List D) : Nat → Option Inv
  | 13 => some ⟨Nat × List Int × Int, fun x => [(56, .d (i64 x.1))], fun x => [(10, .fix (keptD x.2.1 x.2.2)), (20, .fix (lockD s x.2.1 x.2.2))],
      fun st => ((slotN st 56).toNat, arrOf (fldOf (blkM st 10) 0), numOf (fldOf (blkM st 10) 1)), fun _ x => x.1 ≤ xs.length ∧ isM x.2.1 ∧ lfOk x.2.2, fun x => xs.length - x.1⟩
  | 100017 => some ⟨Int × List Int × Int, fun x => [(13, .d (i64 x.1))], fun x => [(10, .fix (keptD x.2.1 x.2.2))],
      fun st => (slotN st 13, arrOf (fldOf (blkM st 10) 0), numOf (fldOf (blkM st 10) 1)),
      fun st x => x.2.1 = arrOf (fldOf (blkM st 10) 0) ∧ x.1 = wnt s (numOf (fldOf (blkM st 12) 0)) (intsOf (fldOf (blkM st 12) 1)) (intsOf (fldOf (blkM st 12) 2)) (arrOf (fldOf (blkM st 10) 0)) (numOf (fldOf (blkM st 10) 1)) ∧
        x.2.2 = nxt s (numOf (fldOf (blkM st 12) 0)) (intsOf (fldOf (blkM st 12) 1)) (intsOf (fldOf (blkM st 12) 2)) (arrOf (fldOf (blkM st 10) 0)) (numOf (fldOf (blkM st 10) 1)), fun _ => 0⟩
  | 100026 => some ⟨List Int × Int, fun _ => [], fun x => [(10, .fix (keptD x.1 x.2))],
      fun st => (arrOf (fldOf (blkM st 10) 0), numOf (fldOf (blkM st 10) 1)),
      fun st x => x.1 = mk2 s (slotN st 13) (numOf (fldOf (blkM st 12) 0)) (intsOf (fldOf (blkM st 12) 2)) (arrOf (fldOf (blkM st 10) 0)) ∧ x.2 = lf2 (slotN st 13) (numOf (fldOf (blkM st 12) 0)) (numOf (fldOf (blkM st 10) 1)), fun _ => 0⟩
  | 100032 => some ⟨Int × List Int × Int, fun x => [(9, .d (i64 x.1))], fun x => [(20, .fix (lockD s x.2.1 x.2.2))],
      fun st => (slotN st 9, mkO (blkM st 20), lfO (blkM st 20)),
      fun st x => x.1 = slotN st 13 ∧ x.2.1 = arrOf (fldOf (blkM st 10) 0) ∧ x.2.2 = numOf (fldOf (blkM st 10) 1), fun _ => 0⟩
  | _ => none
--KEEP ofR BitVec.toNat prL pr Go.Proofs.YtkicjckhkefnpaaDoor.R8.l wrS ofS okS padL fhK outL sumL fromL digL woL wl woI iv st0 rsS rsE wat fullL Go.Vg.eqB ofM xK mNew mWr mSum mkL padK mixK sameI okM isB strN strL isP rgt isM tryE tryN rpE rpM rpN chE chM chN lfOk wnt nxt mk2 lf2
set_option maxRecDepth 100000 in
theorem vc30  (l : List Int) (F : D)  :
    (owed c0 (fun _ => none) Tryd.f30 [.ints .u8 l] F) = (
 True ∧
   True ∧
    True ∧
     True ∧
      True ∧
       match decide ((↑l.length : Int) ≥ (4 : Int)) with
       | true => True ∧ True ∧ True ∧ True ∧ True ∧ (false = false ∧ True) ∧ D.val (Value.bool (decide ((↑l.length : Int) ≤ (16 : Int)))) = F
       | false => True ∧ True ∧ (false = false ∧ True) ∧ D.val (Value.bool false) = F) := by kernel_rfl
set_option maxRecDepth 100000 in
theorem vc6b  (s p : List Int) (xs : List D) (F : D)  :
    (owed c6b (fun _ => none) Tryd.f6 [.ints .u8 s, .ints .u8 p, .slc 3 xs] F) = (
 True ∧
   True ∧
    True ∧
     True ∧
      match decide ((↑xs.length : Int) > (30 : Int)) with
      | true => True ∧ (false = false ∧ True) ∧ D.val (Value.bool true) = F
      | false =>
       True ∧
        True ∧
         True ∧
          (∃ (s_1 : List Int), ∃ (p_1 : List Int), [D.ints IntKind.u8 s, D.ints IntKind.u8 p] = [D.ints IntKind.u8 s_1, D.ints IntKind.u8 p_1] ∧ isP s_1 ∧ isP p_1 ∧ rgt p_1 = false) ∧
           True ∧
            ((0 : Nat) < (2 : Nat) ∧ false = false) ∧
             ((1 : Nat) < (2 : Nat) ∧ false = false) ∧
              True ∧
               True ∧
                True ∧
                 True ∧
                  (∃ (k : List Int), ∃ (p_1 : List Int), [D.ints IntKind.u8 s, D.ints IntKind.u8 p] = [D.ints IntKind.u8 k, D.ints IntKind.u8 p_1] ∧ isP k ∧ isP p_1) ∧
                   True ∧
                    isBytes s ∧
                     True ∧
                      isBytes p ∧
                       (∃ (k : List Int), ∃ (p_1 : List Int), [D.str s, D.str p] = [D.str k, D.str p_1] ∧ isP k ∧ isP p_1) ∧
                        (IntKind.u8 = IntKind.u8 ∧ IntKind.u8 = IntKind.u8 ∧ (32 : Nat) = (32 : Nat) ∧ (32 : Nat) = (32 : Nat) ∧ (1 : Nat) = (1 : Nat)) ∧
                         match !eqB (strL s p) (strL s p) with
                         | true => True ∧ (false = false ∧ True) ∧ D.val (Value.bool false) = F
                         | false =>
                          True ∧
                           True ∧
                            (∃ (l : List Int), [D.ints IntKind.u8 p] = [D.ints IntKind.u8 l]) ∧
                             True ∧
                              match !rgt p with
                              | true => True ∧ True ∧ True ∧ True ∧ True ∧ True ∧ True ∧ (false = false ∧ True) ∧ D.val (Value.bool ((1 : Int) == (1 : Int))) = F
                              | false => True ∧ True ∧ True ∧ True ∧ True ∧ (false = false ∧ True) ∧ D.val (Value.bool false) = F) := by kernel_rfl
set_option maxRecDepth 100000 in
theorem vc6  (s p : List Int) (xs : List D) (F : D)  :
    (owed c6 (inv6 s p xs) Tryd.f6 [.ints .u8 s, .ints .u8 p, .slc 3 xs] F) = (
 True ∧
   True ∧
    True ∧
     True ∧
      match decide ((↑xs.length : Int) > (30 : Int)) with
      | true => True ∧ (false = false ∧ True) ∧ D.val (Value.bool true) = F
      | false =>
       True ∧
        True ∧
         True ∧
          ((∃ (s_1 : List Int), ∃ (p_1 : List Int), [D.ints IntKind.u8 s, D.ints IntKind.u8 p] = [D.ints IntKind.u8 s_1, D.ints IntKind.u8 p_1] ∧ isP s_1 ∧ isP p_1 ∧ rgt p_1 = true) ∧ True) ∧
           True ∧
            True ∧
             ((0 : Nat) < (1 : Nat) ∧ false = false) ∧
              True ∧
               True ∧
                True ∧
                 True ∧
                  (∃ (k : List Int), ∃ (p_1 : List Int), [D.ints IntKind.u8 s, D.ints IntKind.u8 p] = [D.ints IntKind.u8 k, D.ints IntKind.u8 p_1] ∧ isP k ∧ isP p_1) ∧
                   True ∧
                    isBytes s ∧
                     True ∧
                      isBytes p ∧
                       (∃ (k : List Int), ∃ (p_1 : List Int), [D.str s, D.str p] = [D.str k, D.str p_1] ∧ isP k ∧ isP p_1) ∧
                        (IntKind.u8 = IntKind.u8 ∧ IntKind.u8 = IntKind.u8 ∧ (32 : Nat) = (32 : Nat) ∧ (32 : Nat) = (32 : Nat) ∧ (1 : Nat) = (1 : Nat)) ∧
                         match !eqB (strL s p) (strL s p) with
                         | true => True ∧ (false = false ∧ True) ∧ D.val (Value.bool false) = F
                         | false =>
                          True ∧
                           True ∧
                            (∃ (l : List Int), [D.ints IntKind.u8 p] = [D.ints IntKind.u8 l]) ∧
                             True ∧
                              match !rgt p with
                              | true => True ∧ True ∧ True ∧ True ∧ True ∧ (false = false ∧ True) ∧ D.val (Value.bool false) = F
                              | false =>
                               True ∧
                                True ∧
                                 True ∧
                                  True ∧
                                   True ∧
                                    True ∧
                                     True ∧
                                      isBytes s ∧
                                       True ∧
                                        isBytes p ∧
                                         (∃ (k : List Int), ∃ (p_1 : List Int), [D.str s, D.str p] = [D.str k, D.str p_1] ∧ isP k ∧ isP p_1) ∧
                                          (false = false ∧ ((0 : Nat) < (2 : Nat) ∧ Sk.arr (32 : Nat) = Sk.arr (32 : Nat)) ∧ false = false ∧ ((1 : Nat) < (2 : Nat) ∧ Sk.one = Sk.one) ∧ True) ∧
                                           (True ∧ (33 : Nat) ≠ (0 : Nat)) ∧
                                            (Sk.st [Sk.arr (32 : Nat), Sk.one] = Sk.st [Sk.arr (32 : Nat), Sk.one] ∧ (33 : Nat) ≠ (0 : Nat) ∧ (33 : Nat) = (33 : Nat) ∧ false = false) ∧
                                             True ∧
                                              True ∧
                                               True ∧
                                                (((AV.d (D.val (Value.int IntKind.i64 (0 : Int))) = AV.d (D.val (Value.int IntKind.i64 (↑(0 : Nat) : Int))) ∧ True) ∧
                                                   (some (Blk.fix (D.st [D.arr IntKind.u8 (32 : Nat) (strL s p), D.val (Value.int IntKind.i64 (3 : Int))])) = some (Blk.fix (D.st [D.arr IntKind.u8 (32 : Nat) (strL s p), D.val (Value.int IntKind.i64 (3 : Int))])) ∧
                                                     some (Blk.fix (D.st [D.ints IntKind.u8 s, D.st [D.arr IntKind.u8 (32 : Nat) (strL s p), D.val (Value.int IntKind.i64 (3 : Int))]])) = some (Blk.fix (D.st [D.ints IntKind.u8 s, D.st [D.arr IntKind.u8 (32 : Nat) (strL s p), D.val (Value.int IntKind.i64 (3 : Int))]])) ∧ True) ∧
                                                    true = true) ∧
                                                  (0 : Nat) ≤ xs.length ∧ isM (strL s p) ∧ lfOk (3 : Int)) ∧
                                                 ∀ (x : Nat × List Int × Int),
                                                  x.fst ≤ xs.length ∧ isM x.snd.fst ∧ lfOk x.snd.snd →
                                                   true = true ∧
                                                    True ∧
                                                     match decide ((↑x.fst : Int) < (↑xs.length : Int)) with
                                                     | true =>
                                                      ((0 : Int) ≤ (↑x.fst : Int) ∧
                                                        (↑x.fst : Int) < (↑xs.length : Int) ∧
                                                         (3 : Nat) ≠ (0 : Nat) ∧
                                                          (3 : Nat) = (3 : Nat) ∧
                                                           D.st
                                                             [D.val (Value.int IntKind.i64 (numOf (fldOf (xs.getD (↑x.fst : Int).toNat (D.val (Value.bool false))) (0 : Nat)))), D.ints IntKind.u8 (intsOf (fldOf (xs.getD (↑x.fst : Int).toNat (D.val (Value.bool false))) (1 : Nat))),
                                                              D.ints IntKind.u8 (intsOf (fldOf (xs.getD (↑x.fst : Int).toNat (D.val (Value.bool false))) (2 : Nat)))] =
                                                            xs.getD (↑x.fst : Int).toNat (D.val (Value.bool false))) ∧
                                                       ((3 : Nat) ≠ (0 : Nat) ∧ (3 : Nat) = (3 : Nat) ∧ true = true) ∧
                                                        (True ∧ (3 : Nat) ≠ (0 : Nat)) ∧
                                                         (Sk.st [Sk.one, Sk.one, Sk.one] = Sk.st [Sk.one, Sk.one, Sk.one] ∧ (3 : Nat) ≠ (0 : Nat) ∧ (3 : Nat) = (3 : Nat) ∧ false = false) ∧
                                                          True ∧
                                                           (Sk.st [Sk.one, Sk.one, Sk.one] = Sk.st [Sk.one, Sk.one, Sk.one] ∧ (0 : Nat) < (3 : Nat)) ∧
                                                            ((1 : Nat) ≠ (0 : Nat) ∧ (1 : Nat) = (1 : Nat) ∧ false = false) ∧
                                                             True ∧
                                                              True ∧
                                                               match decide (numOf (fldOf (xs.getD (↑x.fst : Int).toNat (D.val (Value.bool false))) (0 : Nat)) > (1 : Int)) with
                                                               | true =>
                                                                True ∧
                                                                 (Sk.st [Sk.one, Sk.one, Sk.one] = Sk.st [Sk.one, Sk.one, Sk.one] ∧ (2 : Nat) < (3 : Nat)) ∧
                                                                  ((1 : Nat) ≠ (0 : Nat) ∧ (1 : Nat) = (1 : Nat) ∧ false = false) ∧
                                                                   (∃ (l : List Int), [D.ints IntKind.u8 (intsOf (fldOf (xs.getD (↑x.fst : Int).toNat (D.val (Value.bool false))) (2 : Nat)))] = [D.ints IntKind.u8 l]) ∧
                                                                    True ∧
                                                                     True ∧
                                                                      (match !rgt (intsOf (fldOf (xs.getD (↑x.fst : Int).toNat (D.val (Value.bool false))) (2 : Nat))) with
                                                                       | true =>
                                                                        True ∧
                                                                         ((AV.d (D.val (Value.int IntKind.i64 (1 : Int))) = AV.d (D.val (Value.int IntKind.i64 (1 : Int))) ∧ True) ∧
                                                                           (some (Blk.fix (D.st [D.arr IntKind.u8 (32 : Nat) x.snd.fst, D.val (Value.int IntKind.i64 x.snd.snd)])) = some (Blk.fix (D.st [D.arr IntKind.u8 (32 : Nat) x.snd.fst, D.val (Value.int IntKind.i64 x.snd.snd)])) ∧
                                                                             some
                                                                                (Blk.fix
                                                                                 (D.st
                                                                                  [D.val (Value.int IntKind.i64 (numOf (fldOf (xs.getD (↑x.fst : Int).toNat (D.val (Value.bool false))) (0 : Nat)))), D.ints IntKind.u8 (intsOf (fldOf (xs.getD (↑x.fst : Int).toNat (D.val (Value.bool false))) (1 : Nat))),
                                                                                   D.ints IntKind.u8 (intsOf (fldOf (xs.getD (↑x.fst : Int).toNat (D.val (Value.bool false))) (2 : Nat)))])) =
                                                                               some
                                                                                (Blk.fix
                                                                                 (D.st
                                                                                  [D.val (Value.int IntKind.i64 (numOf (fldOf (xs.getD (↑x.fst : Int).toNat (D.val (Value.bool false))) (0 : Nat)))), D.ints IntKind.u8 (intsOf (fldOf (xs.getD (↑x.fst : Int).toNat (D.val (Value.bool false))) (1 : Nat))),
                                                                                   D.ints IntKind.u8 (intsOf (fldOf (xs.getD (↑x.fst : Int).toNat (D.val (Value.bool false))) (2 : Nat)))])) ∧
                                                                              some (Blk.fix (D.st [D.ints IntKind.u8 s, D.st [D.arr IntKind.u8 (32 : Nat) x.snd.fst, D.val (Value.int IntKind.i64 x.snd.snd)]])) =
                                                                                some (Blk.fix (D.st [D.ints IntKind.u8 s, D.st [D.arr IntKind.u8 (32 : Nat) x.snd.fst, D.val (Value.int IntKind.i64 x.snd.snd)]])) ∧
                                                                               True) ∧
                                                                            true = true) ∧
                                                                          x.snd.fst = x.snd.fst ∧
                                                                           (1 : Int) =
                                                                             wnt s (numOf (fldOf (xs.getD (↑x.fst : Int).toNat (D.val (Value.bool false))) (0 : Nat))) (intsOf (fldOf (xs.getD (↑x.fst : Int).toNat (D.val (Value.bool false))) (1 : Nat)))
                                                                              (intsOf (fldOf (xs.getD (↑x.fst : Int).toNat (D.val (Value.bool false))) (2 : Nat))) x.snd.fst x.snd.snd ∧
                                                                            x.snd.snd =
                                                                             nxt s (numOf (fldOf (xs.getD (↑x.fst : Int).toNat (D.val (Value.bool false))) (0 : Nat))) (intsOf (fldOf (xs.getD (↑x.fst : Int).toNat (D.val (Value.bool false))) (1 : Nat)))
                                                                              (intsOf (fldOf (xs.getD (↑x.fst : Int).toNat (D.val (Value.bool false))) (2 : Nat))) x.snd.fst x.snd.snd
                                                                       | false =>
                                                                        (Sk.st [Sk.one, Sk.one, Sk.one] = Sk.st [Sk.one, Sk.one, Sk.one] ∧ (0 : Nat) < (3 : Nat)) ∧
                                                                         ((1 : Nat) ≠ (0 : Nat) ∧ (1 : Nat) = (1 : Nat) ∧ false = false) ∧
                                                                          True ∧
                                                                           match decide (numOf (fldOf (xs.getD (↑x.fst : Int).toNat (D.val (Value.bool false))) (0 : Nat)) < (3 : Int)) with
                                                                           | true =>
                                                                            (Sk.st [Sk.arr (32 : Nat), Sk.one] = Sk.st [Sk.arr (32 : Nat), Sk.one] ∧ (1 : Nat) < (2 : Nat)) ∧
                                                                             ((1 : Nat) ≠ (0 : Nat) ∧ (1 : Nat) = (1 : Nat) ∧ false = false) ∧
                                                                              True ∧
                                                                               True ∧
                                                                                match x.snd.snd == (0 : Int) with
                                                                                | true =>
                                                                                 True ∧
                                                                                  ((AV.d (D.val (Value.int IntKind.i64 (11 : Int))) = AV.d (D.val (Value.int IntKind.i64 (11 : Int))) ∧ True) ∧
                                                                                    (some (Blk.fix (D.st [D.arr IntKind.u8 (32 : Nat) x.snd.fst, D.val (Value.int IntKind.i64 x.snd.snd)])) = some (Blk.fix (D.st [D.arr IntKind.u8 (32 : Nat) x.snd.fst, D.val (Value.int IntKind.i64 x.snd.snd)])) ∧
                                                                                      some
                                                                                         (Blk.fix
                                                                                          (D.st
                                                                                           [D.val (Value.int IntKind.i64 (numOf (fldOf (xs.getD (↑x.fst : Int).toNat (D.val (Value.bool false))) (0 : Nat)))), D.ints IntKind.u8 (intsOf (fldOf (xs.getD (↑x.fst : Int).toNat (D.val (Value.bool false))) (1 : Nat))),
                                                                                            D.ints IntKind.u8 (intsOf (fldOf (xs.getD (↑x.fst : Int).toNat (D.val (Value.bool false))) (2 : Nat)))])) =
                                                                                        some
                                                                                         (Blk.fix
                                                                                          (D.st
                                                                                           [D.val (Value.int IntKind.i64 (numOf (fldOf (xs.getD (↑x.fst : Int).toNat (D.val (Value.bool false))) (0 : Nat)))), D.ints IntKind.u8 (intsOf (fldOf (xs.getD (↑x.fst : Int).toNat (D.val (Value.bool false))) (1 : Nat))),
                                                                                            D.ints IntKind.u8 (intsOf (fldOf (xs.getD (↑x.fst : Int).toNat (D.val (Value.bool false))) (2 : Nat)))])) ∧
                                                                                       some (Blk.fix (D.st [D.ints IntKind.u8 s, D.st [D.arr IntKind.u8 (32 : Nat) x.snd.fst, D.val (Value.int IntKind.i64 x.snd.snd)]])) =
                                                                                         some (Blk.fix (D.st [D.ints IntKind.u8 s, D.st [D.arr IntKind.u8 (32 : Nat) x.snd.fst, D.val (Value.int IntKind.i64 x.snd.snd)]])) ∧
                                                                                        True) ∧
                                                                                     true = true) ∧
                                                                                   x.snd.fst = x.snd.fst ∧
                                                                                    (11 : Int) =
                                                                                      wnt s (numOf (fldOf (xs.getD (↑x.fst : Int).toNat (D.val (Value.bool false))) (0 : Nat))) (intsOf (fldOf (xs.getD (↑x.fst : Int).toNat (D.val (Value.bool false))) (1 : Nat)))
                                                                                       (intsOf (fldOf (xs.getD (↑x.fst : Int).toNat (D.val (Value.bool false))) (2 : Nat))) x.snd.fst x.snd.snd ∧
                                                                                     x.snd.snd =
                                                                                      nxt s (numOf (fldOf (xs.getD (↑x.fst : Int).toNat (D.val (Value.bool false))) (0 : Nat))) (intsOf (fldOf (xs.getD (↑x.fst : Int).toNat (D.val (Value.bool false))) (1 : Nat)))
                                                                                       (intsOf (fldOf (xs.getD (↑x.fst : Int).toNat (D.val (Value.bool false))) (2 : Nat))) x.snd.fst x.snd.snd
                                                                                | false =>
                                                                                 True ∧
                                                                                  isBytes s ∧
                                                                                   (Sk.st [Sk.one, Sk.one, Sk.one] = Sk.st [Sk.one, Sk.one, Sk.one] ∧ (1 : Nat) < (3 : Nat)) ∧
                                                                                    ((1 : Nat) ≠ (0 : Nat) ∧ (1 : Nat) = (1 : Nat) ∧ false = false) ∧
                                                                                     isBytes (intsOf (fldOf (xs.getD (↑x.fst : Int).toNat (D.val (Value.bool false))) (1 : Nat))) ∧
                                                                                      (∃ (k : List Int), ∃ (p : List Int), [D.str s, D.str (intsOf (fldOf (xs.getD (↑x.fst : Int).toNat (D.val (Value.bool false))) (1 : Nat)))] = [D.str k, D.str p] ∧ isP k ∧ isP p) ∧
                                                                                       (Sk.st [Sk.arr (32 : Nat), Sk.one] = Sk.st [Sk.arr (32 : Nat), Sk.one] ∧ (0 : Nat) < (2 : Nat)) ∧
                                                                                        ((32 : Nat) ≠ (0 : Nat) ∧ (32 : Nat) = (32 : Nat) ∧ true = true) ∧
                                                                                         (IntKind.u8 = IntKind.u8 ∧ IntKind.u8 = IntKind.u8 ∧ (32 : Nat) = (32 : Nat) ∧ (32 : Nat) = (32 : Nat) ∧ (1 : Nat) = (1 : Nat)) ∧
                                                                                          True ∧
                                                                                           match !eqB (strL s (intsOf (fldOf (xs.getD (↑x.fst : Int).toNat (D.val (Value.bool false))) (1 : Nat)))) x.snd.fst with
                                                                                           | true =>
                                                                                            True ∧
                                                                                             (Sk.st [Sk.arr (32 : Nat), Sk.one] = Sk.st [Sk.arr (32 : Nat), Sk.one] ∧ (1 : Nat) < (2 : Nat)) ∧
                                                                                              ((1 : Nat) ≠ (0 : Nat) ∧ (1 : Nat) = (1 : Nat) ∧ false = false) ∧
                                                                                               True ∧
                                                                                                (Sk.st [Sk.arr (32 : Nat), Sk.one] = Sk.st [Sk.arr (32 : Nat), Sk.one] ∧ (1 : Nat) < (2 : Nat)) ∧
                                                                                                 (((1 : Nat) < (2 : Nat) ∧ Sk.one = Sk.one) ∧ (1 : Nat) ≠ (0 : Nat) ∧ (1 : Nat) = (1 : Nat) ∧ false = false) ∧
                                                                                                  ((AV.d (D.val (Value.int IntKind.i64 (10 : Int))) = AV.d (D.val (Value.int IntKind.i64 (10 : Int))) ∧ True) ∧
                                                                                                    (some (Blk.fix (D.st [D.arr IntKind.u8 (32 : Nat) x.snd.fst, D.val (Value.int IntKind.i64 (IntKind.i64.wrap (x.snd.snd - (1 : Int))))])) =
                                                                                                       some (Blk.fix (D.st [D.arr IntKind.u8 (32 : Nat) x.snd.fst, D.val (Value.int IntKind.i64 (IntKind.i64.wrap (x.snd.snd - (1 : Int))))])) ∧
                                                                                                      some
                                                                                                         (Blk.fix
                                                                                                          (D.st
                                                                                                           [D.val (Value.int IntKind.i64 (numOf (fldOf (xs.getD (↑x.fst : Int).toNat (D.val (Value.bool false))) (0 : Nat)))),
                                                                                                            D.ints IntKind.u8 (intsOf (fldOf (xs.getD (↑x.fst : Int).toNat (D.val (Value.bool false))) (1 : Nat))),
                                                                                                            D.ints IntKind.u8 (intsOf (fldOf (xs.getD (↑x.fst : Int).toNat (D.val (Value.bool false))) (2 : Nat)))])) =
                                                                                                        some
                                                                                                         (Blk.fix
                                                                                                          (D.st
                                                                                                           [D.val (Value.int IntKind.i64 (numOf (fldOf (xs.getD (↑x.fst : Int).toNat (D.val (Value.bool false))) (0 : Nat)))),
                                                                                                            D.ints IntKind.u8 (intsOf (fldOf (xs.getD (↑x.fst : Int).toNat (D.val (Value.bool false))) (1 : Nat))),
                                                                                                            D.ints IntKind.u8 (intsOf (fldOf (xs.getD (↑x.fst : Int).toNat (D.val (Value.bool false))) (2 : Nat)))])) ∧
                                                                                                       some (Blk.fix (D.st [D.ints IntKind.u8 s, D.st [D.arr IntKind.u8 (32 : Nat) x.snd.fst, D.val (Value.int IntKind.i64 x.snd.snd)]])) =
                                                                                                         some (Blk.fix (D.st [D.ints IntKind.u8 s, D.st [D.arr IntKind.u8 (32 : Nat) x.snd.fst, D.val (Value.int IntKind.i64 x.snd.snd)]])) ∧
                                                                                                        True) ∧
                                                                                                     true = true) ∧
                                                                                                   x.snd.fst = x.snd.fst ∧
                                                                                                    (10 : Int) =
                                                                                                      wnt s (numOf (fldOf (xs.getD (↑x.fst : Int).toNat (D.val (Value.bool false))) (0 : Nat))) (intsOf (fldOf (xs.getD (↑x.fst : Int).toNat (D.val (Value.bool false))) (1 : Nat)))
                                                                                                       (intsOf (fldOf (xs.getD (↑x.fst : Int).toNat (D.val (Value.bool false))) (2 : Nat))) x.snd.fst x.snd.snd ∧
                                                                                                     IntKind.i64.wrap (x.snd.snd - (1 : Int)) =
                                                                                                      nxt s (numOf (fldOf (xs.getD (↑x.fst : Int).toNat (D.val (Value.bool false))) (0 : Nat))) (intsOf (fldOf (xs.getD (↑x.fst : Int).toNat (D.val (Value.bool false))) (1 : Nat)))
                                                                                                       (intsOf (fldOf (xs.getD (↑x.fst : Int).toNat (D.val (Value.bool false))) (2 : Nat))) x.snd.fst x.snd.snd
                                                                                           | false =>
                                                                                            (Sk.st [Sk.arr (32 : Nat), Sk.one] = Sk.st [Sk.arr (32 : Nat), Sk.one] ∧ (1 : Nat) < (2 : Nat)) ∧
                                                                                             (((1 : Nat) < (2 : Nat) ∧ Sk.one = Sk.one) ∧ (1 : Nat) ≠ (0 : Nat) ∧ (1 : Nat) = (1 : Nat) ∧ false = false) ∧
                                                                                              ((AV.d (D.val (Value.int IntKind.i64 (0 : Int))) = AV.d (D.val (Value.int IntKind.i64 (0 : Int))) ∧ True) ∧
                                                                                                (some (Blk.fix (D.st [D.arr IntKind.u8 (32 : Nat) x.snd.fst, D.val (Value.int IntKind.i64 (3 : Int))])) = some (Blk.fix (D.st [D.arr IntKind.u8 (32 : Nat) x.snd.fst, D.val (Value.int IntKind.i64 (3 : Int))])) ∧
                                                                                                  some
                                                                                                     (Blk.fix
                                                                                                      (D.st
                                                                                                       [D.val (Value.int IntKind.i64 (numOf (fldOf (xs.getD (↑x.fst : Int).toNat (D.val (Value.bool false))) (0 : Nat)))),
                                                                                                        D.ints IntKind.u8 (intsOf (fldOf (xs.getD (↑x.fst : Int).toNat (D.val (Value.bool false))) (1 : Nat))),
                                                                                                        D.ints IntKind.u8 (intsOf (fldOf (xs.getD (↑x.fst : Int).toNat (D.val (Value.bool false))) (2 : Nat)))])) =
                                                                                                    some
                                                                                                     (Blk.fix
                                                                                                      (D.st
                                                                                                       [D.val (Value.int IntKind.i64 (numOf (fldOf (xs.getD (↑x.fst : Int).toNat (D.val (Value.bool false))) (0 : Nat)))),
                                                                                                        D.ints IntKind.u8 (intsOf (fldOf (xs.getD (↑x.fst : Int).toNat (D.val (Value.bool false))) (1 : Nat))),
                                                                                                        D.ints IntKind.u8 (intsOf (fldOf (xs.getD (↑x.fst : Int).toNat (D.val (Value.bool false))) (2 : Nat)))])) ∧
                                                                                                   some (Blk.fix (D.st [D.ints IntKind.u8 s, D.st [D.arr IntKind.u8 (32 : Nat) x.snd.fst, D.val (Value.int IntKind.i64 x.snd.snd)]])) =
                                                                                                     some (Blk.fix (D.st [D.ints IntKind.u8 s, D.st [D.arr IntKind.u8 (32 : Nat) x.snd.fst, D.val (Value.int IntKind.i64 x.snd.snd)]])) ∧
                                                                                                    True) ∧
                                                                                                 true = true) ∧
                                                                                               x.snd.fst = x.snd.fst ∧
                                                                                                (0 : Int) =
                                                                                                  wnt s (numOf (fldOf (xs.getD (↑x.fst : Int).toNat (D.val (Value.bool false))) (0 : Nat))) (intsOf (fldOf (xs.getD (↑x.fst : Int).toNat (D.val (Value.bool false))) (1 : Nat)))
                                                                                                   (intsOf (fldOf (xs.getD (↑x.fst : Int).toNat (D.val (Value.bool false))) (2 : Nat))) x.snd.fst x.snd.snd ∧
                                                                                                 (3 : Int) =
                                                                                                  nxt s (numOf (fldOf (xs.getD (↑x.fst : Int).toNat (D.val (Value.bool false))) (0 : Nat))) (intsOf (fldOf (xs.getD (↑x.fst : Int).toNat (D.val (Value.bool false))) (1 : Nat)))
                                                                                                   (intsOf (fldOf (xs.getD (↑x.fst : Int).toNat (D.val (Value.bool false))) (2 : Nat))) x.snd.fst x.snd.snd
                                                                           | false =>
                                                                            ((AV.d (D.val (Value.int IntKind.i64 (0 : Int))) = AV.d (D.val (Value.int IntKind.i64 (0 : Int))) ∧ True) ∧
                                                                              (some (Blk.fix (D.st [D.arr IntKind.u8 (32 : Nat) x.snd.fst, D.val (Value.int IntKind.i64 x.snd.snd)])) = some (Blk.fix (D.st [D.arr IntKind.u8 (32 : Nat) x.snd.fst, D.val (Value.int IntKind.i64 x.snd.snd)])) ∧
                                                                                some
                                                                                   (Blk.fix
                                                                                    (D.st
                                                                                     [D.val (Value.int IntKind.i64 (numOf (fldOf (xs.getD (↑x.fst : Int).toNat (D.val (Value.bool false))) (0 : Nat)))), D.ints IntKind.u8 (intsOf (fldOf (xs.getD (↑x.fst : Int).toNat (D.val (Value.bool false))) (1 : Nat))),
                                                                                      D.ints IntKind.u8 (intsOf (fldOf (xs.getD (↑x.fst : Int).toNat (D.val (Value.bool false))) (2 : Nat)))])) =
                                                                                  some
                                                                                   (Blk.fix
                                                                                    (D.st
                                                                                     [D.val (Value.int IntKind.i64 (numOf (fldOf (xs.getD (↑x.fst : Int).toNat (D.val (Value.bool false))) (0 : Nat)))), D.ints IntKind.u8 (intsOf (fldOf (xs.getD (↑x.fst : Int).toNat (D.val (Value.bool false))) (1 : Nat))),
                                                                                      D.ints IntKind.u8 (intsOf (fldOf (xs.getD (↑x.fst : Int).toNat (D.val (Value.bool false))) (2 : Nat)))])) ∧
                                                                                 some (Blk.fix (D.st [D.ints IntKind.u8 s, D.st [D.arr IntKind.u8 (32 : Nat) x.snd.fst, D.val (Value.int IntKind.i64 x.snd.snd)]])) =
                                                                                   some (Blk.fix (D.st [D.ints IntKind.u8 s, D.st [D.arr IntKind.u8 (32 : Nat) x.snd.fst, D.val (Value.int IntKind.i64 x.snd.snd)]])) ∧
                                                                                  True) ∧
                                                                               true = true) ∧
                                                                             x.snd.fst = x.snd.fst ∧
                                                                              (0 : Int) =
                                                                                wnt s (numOf (fldOf (xs.getD (↑x.fst : Int).toNat (D.val (Value.bool false))) (0 : Nat))) (intsOf (fldOf (xs.getD (↑x.fst : Int).toNat (D.val (Value.bool false))) (1 : Nat)))
                                                                                 (intsOf (fldOf (xs.getD (↑x.fst : Int).toNat (D.val (Value.bool false))) (2 : Nat))) x.snd.fst x.snd.snd ∧
                                                                               x.snd.snd =
                                                                                nxt s (numOf (fldOf (xs.getD (↑x.fst : Int).toNat (D.val (Value.bool false))) (0 : Nat))) (intsOf (fldOf (xs.getD (↑x.fst : Int).toNat (D.val (Value.bool false))) (1 : Nat)))
                                                                                 (intsOf (fldOf (xs.getD (↑x.fst : Int).toNat (D.val (Value.bool false))) (2 : Nat))) x.snd.fst x.snd.snd) ∧
                                                                       ∀ (z : Int × List Int × Int),
                                                                        z.snd.fst = x.snd.fst ∧
                                                                          z.fst =
                                                                            wnt s (numOf (fldOf (xs.getD (↑x.fst : Int).toNat (D.val (Value.bool false))) (0 : Nat))) (intsOf (fldOf (xs.getD (↑x.fst : Int).toNat (D.val (Value.bool false))) (1 : Nat)))
                                                                             (intsOf (fldOf (xs.getD (↑x.fst : Int).toNat (D.val (Value.bool false))) (2 : Nat))) x.snd.fst x.snd.snd ∧
                                                                           z.snd.snd =
                                                                            nxt s (numOf (fldOf (xs.getD (↑x.fst : Int).toNat (D.val (Value.bool false))) (0 : Nat))) (intsOf (fldOf (xs.getD (↑x.fst : Int).toNat (D.val (Value.bool false))) (1 : Nat)))
                                                                             (intsOf (fldOf (xs.getD (↑x.fst : Int).toNat (D.val (Value.bool false))) (2 : Nat))) x.snd.fst x.snd.snd →
                                                                         true = true ∧
                                                                          True ∧
                                                                           True ∧
                                                                            True ∧
                                                                             match z.fst == (0 : Int) with
                                                                             | true =>
                                                                              (Sk.st [Sk.one, Sk.one, Sk.one] = Sk.st [Sk.one, Sk.one, Sk.one] ∧ (0 : Nat) < (3 : Nat)) ∧
                                                                               ((1 : Nat) ≠ (0 : Nat) ∧ (1 : Nat) = (1 : Nat) ∧ false = false) ∧
                                                                                True ∧
                                                                                 True ∧
                                                                                  (match decide (numOf (fldOf (xs.getD (↑x.fst : Int).toNat (D.val (Value.bool false))) (0 : Nat)) > (1 : Int)) with
                                                                                   | true =>
                                                                                    True ∧
                                                                                     isBytes s ∧
                                                                                      (Sk.st [Sk.one, Sk.one, Sk.one] = Sk.st [Sk.one, Sk.one, Sk.one] ∧ (2 : Nat) < (3 : Nat)) ∧
                                                                                       ((1 : Nat) ≠ (0 : Nat) ∧ (1 : Nat) = (1 : Nat) ∧ false = false) ∧
                                                                                        isBytes (intsOf (fldOf (xs.getD (↑x.fst : Int).toNat (D.val (Value.bool false))) (2 : Nat))) ∧
                                                                                         (∃ (k : List Int), ∃ (p : List Int), [D.str s, D.str (intsOf (fldOf (xs.getD (↑x.fst : Int).toNat (D.val (Value.bool false))) (2 : Nat)))] = [D.str k, D.str p] ∧ isP k ∧ isP p) ∧
                                                                                          (false = false ∧ ((0 : Nat) < (2 : Nat) ∧ Sk.arr (32 : Nat) = Sk.arr (32 : Nat)) ∧ false = false ∧ ((1 : Nat) < (2 : Nat) ∧ Sk.one = Sk.one) ∧ True) ∧
                                                                                           (Sk.st [Sk.arr (32 : Nat), Sk.one] = Sk.st [Sk.arr (32 : Nat), Sk.one] ∧ (33 : Nat) ≠ (0 : Nat) ∧ (33 : Nat) = (33 : Nat) ∧ false = false) ∧
                                                                                            (True ∧
                                                                                              (some (Blk.fix (D.st [D.arr IntKind.u8 (32 : Nat) (strL s (intsOf (fldOf (xs.getD (↑x.fst : Int).toNat (D.val (Value.bool false))) (2 : Nat)))), D.val (Value.int IntKind.i64 (3 : Int))])) =
                                                                                                 some (Blk.fix (D.st [D.arr IntKind.u8 (32 : Nat) (strL s (intsOf (fldOf (xs.getD (↑x.fst : Int).toNat (D.val (Value.bool false))) (2 : Nat)))), D.val (Value.int IntKind.i64 (3 : Int))])) ∧
                                                                                                some
                                                                                                   (Blk.fix
                                                                                                    (D.st
                                                                                                     [D.val (Value.int IntKind.i64 (numOf (fldOf (xs.getD (↑x.fst : Int).toNat (D.val (Value.bool false))) (0 : Nat)))),
                                                                                                      D.ints IntKind.u8 (intsOf (fldOf (xs.getD (↑x.fst : Int).toNat (D.val (Value.bool false))) (1 : Nat))),
                                                                                                      D.ints IntKind.u8 (intsOf (fldOf (xs.getD (↑x.fst : Int).toNat (D.val (Value.bool false))) (2 : Nat)))])) =
                                                                                                  some
                                                                                                   (Blk.fix
                                                                                                    (D.st
                                                                                                     [D.val (Value.int IntKind.i64 (numOf (fldOf (xs.getD (↑x.fst : Int).toNat (D.val (Value.bool false))) (0 : Nat)))),
                                                                                                      D.ints IntKind.u8 (intsOf (fldOf (xs.getD (↑x.fst : Int).toNat (D.val (Value.bool false))) (1 : Nat))),
                                                                                                      D.ints IntKind.u8 (intsOf (fldOf (xs.getD (↑x.fst : Int).toNat (D.val (Value.bool false))) (2 : Nat)))])) ∧
                                                                                                 some (Blk.fix (D.st [D.ints IntKind.u8 s, D.st [D.arr IntKind.u8 (32 : Nat) x.snd.fst, D.val (Value.int IntKind.i64 x.snd.snd)]])) =
                                                                                                   some (Blk.fix (D.st [D.ints IntKind.u8 s, D.st [D.arr IntKind.u8 (32 : Nat) x.snd.fst, D.val (Value.int IntKind.i64 x.snd.snd)]])) ∧
                                                                                                  True) ∧
                                                                                               true = true) ∧
                                                                                             strL s (intsOf (fldOf (xs.getD (↑x.fst : Int).toNat (D.val (Value.bool false))) (2 : Nat))) =
                                                                                               mk2 s z.fst (numOf (fldOf (xs.getD (↑x.fst : Int).toNat (D.val (Value.bool false))) (0 : Nat))) (intsOf (fldOf (xs.getD (↑x.fst : Int).toNat (D.val (Value.bool false))) (2 : Nat))) z.snd.fst ∧
                                                                                              (3 : Int) = lf2 z.fst (numOf (fldOf (xs.getD (↑x.fst : Int).toNat (D.val (Value.bool false))) (0 : Nat))) z.snd.snd
                                                                                   | false =>
                                                                                    (True ∧
                                                                                      (some (Blk.fix (D.st [D.arr IntKind.u8 (32 : Nat) z.snd.fst, D.val (Value.int IntKind.i64 z.snd.snd)])) = some (Blk.fix (D.st [D.arr IntKind.u8 (32 : Nat) z.snd.fst, D.val (Value.int IntKind.i64 z.snd.snd)])) ∧
                                                                                        some
                                                                                           (Blk.fix
                                                                                            (D.st
                                                                                             [D.val (Value.int IntKind.i64 (numOf (fldOf (xs.getD (↑x.fst : Int).toNat (D.val (Value.bool false))) (0 : Nat)))),
                                                                                              D.ints IntKind.u8 (intsOf (fldOf (xs.getD (↑x.fst : Int).toNat (D.val (Value.bool false))) (1 : Nat))), D.ints IntKind.u8 (intsOf (fldOf (xs.getD (↑x.fst : Int).toNat (D.val (Value.bool false))) (2 : Nat)))])) =
                                                                                          some
                                                                                           (Blk.fix
                                                                                            (D.st
                                                                                             [D.val (Value.int IntKind.i64 (numOf (fldOf (xs.getD (↑x.fst : Int).toNat (D.val (Value.bool false))) (0 : Nat)))),
                                                                                              D.ints IntKind.u8 (intsOf (fldOf (xs.getD (↑x.fst : Int).toNat (D.val (Value.bool false))) (1 : Nat))), D.ints IntKind.u8 (intsOf (fldOf (xs.getD (↑x.fst : Int).toNat (D.val (Value.bool false))) (2 : Nat)))])) ∧
                                                                                         some (Blk.fix (D.st [D.ints IntKind.u8 s, D.st [D.arr IntKind.u8 (32 : Nat) x.snd.fst, D.val (Value.int IntKind.i64 x.snd.snd)]])) =
                                                                                           some (Blk.fix (D.st [D.ints IntKind.u8 s, D.st [D.arr IntKind.u8 (32 : Nat) x.snd.fst, D.val (Value.int IntKind.i64 x.snd.snd)]])) ∧
                                                                                          True) ∧
                                                                                       true = true) ∧
                                                                                     z.snd.fst = mk2 s z.fst (numOf (fldOf (xs.getD (↑x.fst : Int).toNat (D.val (Value.bool false))) (0 : Nat))) (intsOf (fldOf (xs.getD (↑x.fst : Int).toNat (D.val (Value.bool false))) (2 : Nat))) z.snd.fst ∧
                                                                                      z.snd.snd = lf2 z.fst (numOf (fldOf (xs.getD (↑x.fst : Int).toNat (D.val (Value.bool false))) (0 : Nat))) z.snd.snd) ∧
                                                                                   ∀ (z_1 : List Int × Int),
                                                                                    z_1.fst = mk2 s z.fst (numOf (fldOf (xs.getD (↑x.fst : Int).toNat (D.val (Value.bool false))) (0 : Nat))) (intsOf (fldOf (xs.getD (↑x.fst : Int).toNat (D.val (Value.bool false))) (2 : Nat))) z.snd.fst ∧
                                                                                      z_1.snd = lf2 z.fst (numOf (fldOf (xs.getD (↑x.fst : Int).toNat (D.val (Value.bool false))) (0 : Nat))) z.snd.snd →
                                                                                     true = true ∧
                                                                                      (Sk.st [Sk.one, Sk.one, Sk.one] = Sk.st [Sk.one, Sk.one, Sk.one] ∧ (0 : Nat) < (3 : Nat)) ∧
                                                                                       ((1 : Nat) ≠ (0 : Nat) ∧ (1 : Nat) = (1 : Nat) ∧ false = false) ∧
                                                                                        True ∧
                                                                                         True ∧
                                                                                          (match numOf (fldOf (xs.getD (↑x.fst : Int).toNat (D.val (Value.bool false))) (0 : Nat)) == (2 : Int) with
                                                                                           | true =>
                                                                                            True ∧
                                                                                             (Sk.st [Sk.one, Sk.one, Sk.one] = Sk.st [Sk.one, Sk.one, Sk.one] ∧ (1 : Nat) < (3 : Nat)) ∧
                                                                                              ((1 : Nat) ≠ (0 : Nat) ∧ (1 : Nat) = (1 : Nat) ∧ false = false) ∧
                                                                                               (Sk.st [Sk.one, Sk.one, Sk.one] = Sk.st [Sk.one, Sk.one, Sk.one] ∧ (2 : Nat) < (3 : Nat)) ∧
                                                                                                ((1 : Nat) ≠ (0 : Nat) ∧ (1 : Nat) = (1 : Nat) ∧ false = false) ∧
                                                                                                 (∃ (s_1 : List Int),
                                                                                                   ∃ (m : List Int),
                                                                                                    ∃ (n : Int),
                                                                                                     ∃ (p : List Int),
                                                                                                      ∃ (q : List Int),
                                                                                                       [D.st [D.ints IntKind.u8 s, D.st [D.arr IntKind.u8 (32 : Nat) x.snd.fst, D.val (Value.int IntKind.i64 x.snd.snd)]],
                                                                                                          D.ints IntKind.u8 (intsOf (fldOf (xs.getD (↑x.fst : Int).toNat (D.val (Value.bool false))) (1 : Nat))),
                                                                                                          D.ints IntKind.u8 (intsOf (fldOf (xs.getD (↑x.fst : Int).toNat (D.val (Value.bool false))) (2 : Nat)))] =
                                                                                                         [D.st [D.ints IntKind.u8 s_1, D.st [D.arr IntKind.u8 (32 : Nat) m, D.val (Value.int IntKind.i64 n)]], D.ints IntKind.u8 p, D.ints IntKind.u8 q] ∧
                                                                                                        (isP s_1 ∧ isM m ∧ lfOk n) ∧ isP p ∧ isP q) ∧
                                                                                                  True ∧
                                                                                                   ((AV.d
                                                                                                        (D.val
                                                                                                         (Value.int IntKind.i64
                                                                                                          (chE s x.snd.fst x.snd.snd (intsOf (fldOf (xs.getD (↑x.fst : Int).toNat (D.val (Value.bool false))) (1 : Nat)))
                                                                                                           (intsOf (fldOf (xs.getD (↑x.fst : Int).toNat (D.val (Value.bool false))) (2 : Nat)))))) =
                                                                                                       AV.d
                                                                                                        (D.val
                                                                                                         (Value.int IntKind.i64
                                                                                                          (chE s x.snd.fst x.snd.snd (intsOf (fldOf (xs.getD (↑x.fst : Int).toNat (D.val (Value.bool false))) (1 : Nat)))
                                                                                                           (intsOf (fldOf (xs.getD (↑x.fst : Int).toNat (D.val (Value.bool false))) (2 : Nat)))))) ∧
                                                                                                      True) ∧
                                                                                                     (some (Blk.fix (D.st [D.arr IntKind.u8 (32 : Nat) z_1.fst, D.val (Value.int IntKind.i64 z_1.snd)])) =
                                                                                                        some (Blk.fix (D.st [D.arr IntKind.u8 (32 : Nat) z_1.fst, D.val (Value.int IntKind.i64 z_1.snd)])) ∧
                                                                                                       some
                                                                                                          (Blk.fix
                                                                                                           (D.st
                                                                                                            [D.val (Value.int IntKind.i64 (numOf (fldOf (xs.getD (↑x.fst : Int).toNat (D.val (Value.bool false))) (0 : Nat)))),
                                                                                                             D.ints IntKind.u8 (intsOf (fldOf (xs.getD (↑x.fst : Int).toNat (D.val (Value.bool false))) (1 : Nat))),
                                                                                                             D.ints IntKind.u8 (intsOf (fldOf (xs.getD (↑x.fst : Int).toNat (D.val (Value.bool false))) (2 : Nat)))])) =
                                                                                                         some
                                                                                                          (Blk.fix
                                                                                                           (D.st
                                                                                                            [D.val (Value.int IntKind.i64 (numOf (fldOf (xs.getD (↑x.fst : Int).toNat (D.val (Value.bool false))) (0 : Nat)))),
                                                                                                             D.ints IntKind.u8 (intsOf (fldOf (xs.getD (↑x.fst : Int).toNat (D.val (Value.bool false))) (1 : Nat))),
                                                                                                             D.ints IntKind.u8 (intsOf (fldOf (xs.getD (↑x.fst : Int).toNat (D.val (Value.bool false))) (2 : Nat)))])) ∧
                                                                                                        some
                                                                                                           (Blk.fix
                                                                                                            (D.st
                                                                                                             [D.ints IntKind.u8 s,
                                                                                                              D.st
                                                                                                               [D.arr IntKind.u8 (32 : Nat)
                                                                                                                 (chM s x.snd.fst x.snd.snd (intsOf (fldOf (xs.getD (↑x.fst : Int).toNat (D.val (Value.bool false))) (1 : Nat)))
                                                                                                                  (intsOf (fldOf (xs.getD (↑x.fst : Int).toNat (D.val (Value.bool false))) (2 : Nat)))),
                                                                                                                D.val
                                                                                                                 (Value.int IntKind.i64
                                                                                                                  (chN s x.snd.fst x.snd.snd (intsOf (fldOf (xs.getD (↑x.fst : Int).toNat (D.val (Value.bool false))) (1 : Nat)))
                                                                                                                   (intsOf (fldOf (xs.getD (↑x.fst : Int).toNat (D.val (Value.bool false))) (2 : Nat)))))]])) =
                                                                                                          some
                                                                                                           (Blk.fix
                                                                                                            (D.st
                                                                                                             [D.ints IntKind.u8 s,
                                                                                                              D.st
                                                                                                               [D.arr IntKind.u8 (32 : Nat)
                                                                                                                 (chM s x.snd.fst x.snd.snd (intsOf (fldOf (xs.getD (↑x.fst : Int).toNat (D.val (Value.bool false))) (1 : Nat)))
                                                                                                                  (intsOf (fldOf (xs.getD (↑x.fst : Int).toNat (D.val (Value.bool false))) (2 : Nat)))),
                                                                                                                D.val
                                                                                                                 (Value.int IntKind.i64
                                                                                                                  (chN s x.snd.fst x.snd.snd (intsOf (fldOf (xs.getD (↑x.fst : Int).toNat (D.val (Value.bool false))) (1 : Nat)))
                                                                                                                   (intsOf (fldOf (xs.getD (↑x.fst : Int).toNat (D.val (Value.bool false))) (2 : Nat)))))]])) ∧
                                                                                                         True) ∧
                                                                                                      true = true) ∧
                                                                                                    chE s x.snd.fst x.snd.snd (intsOf (fldOf (xs.getD (↑x.fst : Int).toNat (D.val (Value.bool false))) (1 : Nat))) (intsOf (fldOf (xs.getD (↑x.fst : Int).toNat (D.val (Value.bool false))) (2 : Nat))) =
                                                                                                      z.fst ∧
                                                                                                     chM s x.snd.fst x.snd.snd (intsOf (fldOf (xs.getD (↑x.fst : Int).toNat (D.val (Value.bool false))) (1 : Nat))) (intsOf (fldOf (xs.getD (↑x.fst : Int).toNat (D.val (Value.bool false))) (2 : Nat))) =
                                                                                                       z_1.fst ∧
                                                                                                      chN s x.snd.fst x.snd.snd (intsOf (fldOf (xs.getD (↑x.fst : Int).toNat (D.val (Value.bool false))) (1 : Nat))) (intsOf (fldOf (xs.getD (↑x.fst : Int).toNat (D.val (Value.bool false))) (2 : Nat))) =
                                                                                                       z_1.snd
                                                                                           | false =>
                                                                                            True ∧
                                                                                             True ∧
                                                                                              match numOf (fldOf (xs.getD (↑x.fst : Int).toNat (D.val (Value.bool false))) (0 : Nat)) == (3 : Int) with
                                                                                              | true =>
                                                                                               True ∧
                                                                                                (Sk.st [Sk.one, Sk.one, Sk.one] = Sk.st [Sk.one, Sk.one, Sk.one] ∧ (2 : Nat) < (3 : Nat)) ∧
                                                                                                 ((1 : Nat) ≠ (0 : Nat) ∧ (1 : Nat) = (1 : Nat) ∧ false = false) ∧
                                                                                                  (∃ (s_1 : List Int),
                                                                                                    ∃ (m : List Int),
                                                                                                     ∃ (n : Int),
                                                                                                      ∃ (p : List Int),
                                                                                                       [D.st [D.ints IntKind.u8 s, D.st [D.arr IntKind.u8 (32 : Nat) x.snd.fst, D.val (Value.int IntKind.i64 x.snd.snd)]],
                                                                                                          D.ints IntKind.u8 (intsOf (fldOf (xs.getD (↑x.fst : Int).toNat (D.val (Value.bool false))) (2 : Nat)))] =
                                                                                                         [D.st [D.ints IntKind.u8 s_1, D.st [D.arr IntKind.u8 (32 : Nat) m, D.val (Value.int IntKind.i64 n)]], D.ints IntKind.u8 p] ∧
                                                                                                        (isP s_1 ∧ isM m ∧ lfOk n) ∧ isP p) ∧
                                                                                                   True ∧
                                                                                                    ((AV.d (D.val (Value.int IntKind.i64 (rpE (intsOf (fldOf (xs.getD (↑x.fst : Int).toNat (D.val (Value.bool false))) (2 : Nat)))))) =
                                                                                                        AV.d (D.val (Value.int IntKind.i64 (rpE (intsOf (fldOf (xs.getD (↑x.fst : Int).toNat (D.val (Value.bool false))) (2 : Nat)))))) ∧
                                                                                                       True) ∧
                                                                                                      (some (Blk.fix (D.st [D.arr IntKind.u8 (32 : Nat) z_1.fst, D.val (Value.int IntKind.i64 z_1.snd)])) =
                                                                                                         some (Blk.fix (D.st [D.arr IntKind.u8 (32 : Nat) z_1.fst, D.val (Value.int IntKind.i64 z_1.snd)])) ∧
                                                                                                        some
                                                                                                           (Blk.fix
                                                                                                            (D.st
                                                                                                             [D.val (Value.int IntKind.i64 (numOf (fldOf (xs.getD (↑x.fst : Int).toNat (D.val (Value.bool false))) (0 : Nat)))),
                                                                                                              D.ints IntKind.u8 (intsOf (fldOf (xs.getD (↑x.fst : Int).toNat (D.val (Value.bool false))) (1 : Nat))),
                                                                                                              D.ints IntKind.u8 (intsOf (fldOf (xs.getD (↑x.fst : Int).toNat (D.val (Value.bool false))) (2 : Nat)))])) =
                                                                                                          some
                                                                                                           (Blk.fix
                                                                                                            (D.st
                                                                                                             [D.val (Value.int IntKind.i64 (numOf (fldOf (xs.getD (↑x.fst : Int).toNat (D.val (Value.bool false))) (0 : Nat)))),
                                                                                                              D.ints IntKind.u8 (intsOf (fldOf (xs.getD (↑x.fst : Int).toNat (D.val (Value.bool false))) (1 : Nat))),
                                                                                                              D.ints IntKind.u8 (intsOf (fldOf (xs.getD (↑x.fst : Int).toNat (D.val (Value.bool false))) (2 : Nat)))])) ∧
                                                                                                         some
                                                                                                            (Blk.fix
                                                                                                             (D.st
                                                                                                              [D.ints IntKind.u8 s,
                                                                                                               D.st
                                                                                                                [D.arr IntKind.u8 (32 : Nat) (rpM s x.snd.fst (intsOf (fldOf (xs.getD (↑x.fst : Int).toNat (D.val (Value.bool false))) (2 : Nat)))),
                                                                                                                 D.val (Value.int IntKind.i64 (rpN x.snd.snd (intsOf (fldOf (xs.getD (↑x.fst : Int).toNat (D.val (Value.bool false))) (2 : Nat)))))]])) =
                                                                                                           some
                                                                                                            (Blk.fix
                                                                                                             (D.st
                                                                                                              [D.ints IntKind.u8 s,
                                                                                                               D.st
                                                                                                                [D.arr IntKind.u8 (32 : Nat) (rpM s x.snd.fst (intsOf (fldOf (xs.getD (↑x.fst : Int).toNat (D.val (Value.bool false))) (2 : Nat)))),
                                                                                                                 D.val (Value.int IntKind.i64 (rpN x.snd.snd (intsOf (fldOf (xs.getD (↑x.fst : Int).toNat (D.val (Value.bool false))) (2 : Nat)))))]])) ∧
                                                                                                          True) ∧
                                                                                                       true = true) ∧
                                                                                                     rpE (intsOf (fldOf (xs.getD (↑x.fst : Int).toNat (D.val (Value.bool false))) (2 : Nat))) = z.fst ∧
                                                                                                      rpM s x.snd.fst (intsOf (fldOf (xs.getD (↑x.fst : Int).toNat (D.val (Value.bool false))) (2 : Nat))) = z_1.fst ∧
                                                                                                       rpN x.snd.snd (intsOf (fldOf (xs.getD (↑x.fst : Int).toNat (D.val (Value.bool false))) (2 : Nat))) = z_1.snd
                                                                                              | false =>
                                                                                               (Sk.st [Sk.one, Sk.one, Sk.one] = Sk.st [Sk.one, Sk.one, Sk.one] ∧ (0 : Nat) < (3 : Nat)) ∧
                                                                                                ((1 : Nat) ≠ (0 : Nat) ∧ (1 : Nat) = (1 : Nat) ∧ false = false) ∧
                                                                                                 True ∧
                                                                                                  match decide (numOf (fldOf (xs.getD (↑x.fst : Int).toNat (D.val (Value.bool false))) (0 : Nat)) > (3 : Int)) with
                                                                                                  | true => True ∧ (false = false ∧ True) ∧ D.val (Value.bool true) = F
                                                                                                  | false =>
                                                                                                   True ∧
                                                                                                    (Sk.st [Sk.one, Sk.one, Sk.one] = Sk.st [Sk.one, Sk.one, Sk.one] ∧ (1 : Nat) < (3 : Nat)) ∧
                                                                                                     ((1 : Nat) ≠ (0 : Nat) ∧ (1 : Nat) = (1 : Nat) ∧ false = false) ∧
                                                                                                      (∃ (s_1 : List Int),
                                                                                                        ∃ (m : List Int),
                                                                                                         ∃ (n : Int),
                                                                                                          ∃ (p : List Int),
                                                                                                           [D.st [D.ints IntKind.u8 s, D.st [D.arr IntKind.u8 (32 : Nat) x.snd.fst, D.val (Value.int IntKind.i64 x.snd.snd)]],
                                                                                                              D.ints IntKind.u8 (intsOf (fldOf (xs.getD (↑x.fst : Int).toNat (D.val (Value.bool false))) (1 : Nat)))] =
                                                                                                             [D.st [D.ints IntKind.u8 s_1, D.st [D.arr IntKind.u8 (32 : Nat) m, D.val (Value.int IntKind.i64 n)]], D.ints IntKind.u8 p] ∧
                                                                                                            (isP s_1 ∧ isM m ∧ lfOk n) ∧ isP p) ∧
                                                                                                       True ∧
                                                                                                        ((AV.d (D.val (Value.int IntKind.i64 (tryE s x.snd.fst x.snd.snd (intsOf (fldOf (xs.getD (↑x.fst : Int).toNat (D.val (Value.bool false))) (1 : Nat)))))) =
                                                                                                            AV.d (D.val (Value.int IntKind.i64 (tryE s x.snd.fst x.snd.snd (intsOf (fldOf (xs.getD (↑x.fst : Int).toNat (D.val (Value.bool false))) (1 : Nat)))))) ∧
                                                                                                           True) ∧
                                                                                                          (some (Blk.fix (D.st [D.arr IntKind.u8 (32 : Nat) z_1.fst, D.val (Value.int IntKind.i64 z_1.snd)])) =
                                                                                                             some (Blk.fix (D.st [D.arr IntKind.u8 (32 : Nat) z_1.fst, D.val (Value.int IntKind.i64 z_1.snd)])) ∧
                                                                                                            some
                                                                                                               (Blk.fix
                                                                                                                (D.st
                                                                                                                 [D.val (Value.int IntKind.i64 (numOf (fldOf (xs.getD (↑x.fst : Int).toNat (D.val (Value.bool false))) (0 : Nat)))),
                                                                                                                  D.ints IntKind.u8 (intsOf (fldOf (xs.getD (↑x.fst : Int).toNat (D.val (Value.bool false))) (1 : Nat))),
                                                                                                                  D.ints IntKind.u8 (intsOf (fldOf (xs.getD (↑x.fst : Int).toNat (D.val (Value.bool false))) (2 : Nat)))])) =
                                                                                                              some
                                                                                                               (Blk.fix
                                                                                                                (D.st
                                                                                                                 [D.val (Value.int IntKind.i64 (numOf (fldOf (xs.getD (↑x.fst : Int).toNat (D.val (Value.bool false))) (0 : Nat)))),
                                                                                                                  D.ints IntKind.u8 (intsOf (fldOf (xs.getD (↑x.fst : Int).toNat (D.val (Value.bool false))) (1 : Nat))),
                                                                                                                  D.ints IntKind.u8 (intsOf (fldOf (xs.getD (↑x.fst : Int).toNat (D.val (Value.bool false))) (2 : Nat)))])) ∧
                                                                                                             some
                                                                                                                (Blk.fix
                                                                                                                 (D.st
                                                                                                                  [D.ints IntKind.u8 s,
                                                                                                                   D.st
                                                                                                                    [D.arr IntKind.u8 (32 : Nat) x.snd.fst,
                                                                                                                     D.val (Value.int IntKind.i64 (tryN s x.snd.fst x.snd.snd (intsOf (fldOf (xs.getD (↑x.fst : Int).toNat (D.val (Value.bool false))) (1 : Nat)))))]])) =
                                                                                                               some
                                                                                                                (Blk.fix
                                                                                                                 (D.st
                                                                                                                  [D.ints IntKind.u8 s,
                                                                                                                   D.st
                                                                                                                    [D.arr IntKind.u8 (32 : Nat) x.snd.fst,
                                                                                                                     D.val (Value.int IntKind.i64 (tryN s x.snd.fst x.snd.snd (intsOf (fldOf (xs.getD (↑x.fst : Int).toNat (D.val (Value.bool false))) (1 : Nat)))))]])) ∧
                                                                                                              True) ∧
                                                                                                           true = true) ∧
                                                                                                         tryE s x.snd.fst x.snd.snd (intsOf (fldOf (xs.getD (↑x.fst : Int).toNat (D.val (Value.bool false))) (1 : Nat))) = z.fst ∧
                                                                                                          x.snd.fst = z_1.fst ∧ tryN s x.snd.fst x.snd.snd (intsOf (fldOf (xs.getD (↑x.fst : Int).toNat (D.val (Value.bool false))) (1 : Nat))) = z_1.snd) ∧
                                                                                           ∀ (z_2 : Int × List Int × Int),
                                                                                            z_2.fst = z.fst ∧ z_2.snd.fst = z_1.fst ∧ z_2.snd.snd = z_1.snd →
                                                                                             true = true ∧
                                                                                              True ∧
                                                                                               True ∧
                                                                                                True ∧
                                                                                                 True ∧
                                                                                                  match z_2.fst != z.fst with
                                                                                                  | true => True ∧ True ∧ True ∧ True ∧ (false = false ∧ True) ∧ D.val (Value.bool false) = F
                                                                                                  | false =>
                                                                                                   True ∧
                                                                                                    (∃ (s_1 : List Int),
                                                                                                      ∃ (m : List Int),
                                                                                                       ∃ (n : Int),
                                                                                                        [(D.st [D.ints IntKind.u8 s, D.st [D.arr IntKind.u8 (32 : Nat) z_2.snd.fst, D.val (Value.int IntKind.i64 z_2.snd.snd)]]).ref] =
                                                                                                         [(D.st [D.ints IntKind.u8 s_1, D.st [D.arr IntKind.u8 (32 : Nat) m, D.val (Value.int IntKind.i64 n)]]).ref]) ∧
                                                                                                     ((33 : Nat) ≠ (0 : Nat) ∧ (33 : Nat) = (33 : Nat) ∧ true = true) ∧
                                                                                                      (true = true ∧
                                                                                                        Sk.st [Sk.arr (32 : Nat), Sk.one] = Sk.st [Sk.arr (32 : Nat), Sk.one] ∧
                                                                                                         Sk.st [Sk.arr (32 : Nat), Sk.one] = Sk.st [Sk.arr (32 : Nat), Sk.one] ∧
                                                                                                          true = true ∧
                                                                                                           true = true ∧
                                                                                                            (IntKind.u8 = IntKind.u8 ∧ IntKind.u8 = IntKind.u8 ∧ (32 : Nat) = (32 : Nat) ∧ (32 : Nat) = (32 : Nat) ∧ (1 : Nat) = (1 : Nat)) ∧
                                                                                                             false = false ∧ false = false ∧ (IntKind.i64 = IntKind.i64 ∧ IntKind.i64 = IntKind.i64) ∧ True) ∧
                                                                                                       True ∧
                                                                                                        True ∧
                                                                                                         match !(eqB z_2.snd.fst z_1.fst && (z_2.snd.snd == z_1.snd && true)) with
                                                                                                         | true => True ∧ True ∧ (false = false ∧ True) ∧ D.val (Value.bool false) = F
                                                                                                         | false =>
                                                                                                          True ∧
                                                                                                           (∃ (s_1 : List Int),
                                                                                                             ∃ (m : List Int),
                                                                                                              ∃ (n : Int),
                                                                                                               [(D.st [D.ints IntKind.u8 s, D.st [D.arr IntKind.u8 (32 : Nat) z_2.snd.fst, D.val (Value.int IntKind.i64 z_2.snd.snd)]]).ref] =
                                                                                                                [(D.st [D.ints IntKind.u8 s_1, D.st [D.arr IntKind.u8 (32 : Nat) m, D.val (Value.int IntKind.i64 n)]]).ref]) ∧
                                                                                                            (Sk.st [Sk.arr (32 : Nat), Sk.one] = Sk.st [Sk.arr (32 : Nat), Sk.one] ∧ (1 : Nat) < (2 : Nat)) ∧
                                                                                                             ((1 : Nat) ≠ (0 : Nat) ∧ (1 : Nat) = (1 : Nat) ∧ false = false) ∧
                                                                                                              True ∧
                                                                                                               True ∧
                                                                                                                match z_2.snd.snd != z_1.snd with
                                                                                                                | true => True ∧ (false = false ∧ True) ∧ D.val (Value.bool false) = F
                                                                                                                | false =>
                                                                                                                 True ∧
                                                                                                                  True ∧
                                                                                                                   ((AV.d (D.val (Value.int IntKind.i64 (IntKind.i64.wrap ((↑x.fst : Int) + (1 : Int))))) =
                                                                                                                       AV.d (D.val (Value.int IntKind.i64 (↑(IntKind.i64.wrap ((↑x.fst : Int) + (1 : Int))).toNat : Int))) ∧
                                                                                                                      True) ∧
                                                                                                                     (some (Blk.fix (D.st [D.arr IntKind.u8 (32 : Nat) z_1.fst, D.val (Value.int IntKind.i64 z_1.snd)])) =
                                                                                                                        some (Blk.fix (D.st [D.arr IntKind.u8 (32 : Nat) z_1.fst, D.val (Value.int IntKind.i64 z_1.snd)])) ∧
                                                                                                                       some (Blk.fix (D.st [D.ints IntKind.u8 s, D.st [D.arr IntKind.u8 (32 : Nat) z_2.snd.fst, D.val (Value.int IntKind.i64 z_2.snd.snd)]])) =
                                                                                                                         some (Blk.fix (D.st [D.ints IntKind.u8 s, D.st [D.arr IntKind.u8 (32 : Nat) z_1.fst, D.val (Value.int IntKind.i64 z_1.snd)]])) ∧
                                                                                                                        True) ∧
                                                                                                                      true = true) ∧
                                                                                                                    ((IntKind.i64.wrap ((↑x.fst : Int) + (1 : Int))).toNat ≤ xs.length ∧ isM z_1.fst ∧ lfOk z_1.snd) ∧
                                                                                                                     xs.length - (IntKind.i64.wrap ((↑x.fst : Int) + (1 : Int))).toNat < xs.length - x.fst
                                                                             | false =>
                                                                              True ∧
                                                                               ((True ∧
                                                                                  (some (Blk.fix (D.st [D.arr IntKind.u8 (32 : Nat) z.snd.fst, D.val (Value.int IntKind.i64 z.snd.snd)])) = some (Blk.fix (D.st [D.arr IntKind.u8 (32 : Nat) z.snd.fst, D.val (Value.int IntKind.i64 z.snd.snd)])) ∧
                                                                                    some
                                                                                       (Blk.fix
                                                                                        (D.st
                                                                                         [D.val (Value.int IntKind.i64 (numOf (fldOf (xs.getD (↑x.fst : Int).toNat (D.val (Value.bool false))) (0 : Nat)))), D.ints IntKind.u8 (intsOf (fldOf (xs.getD (↑x.fst : Int).toNat (D.val (Value.bool false))) (1 : Nat))),
                                                                                          D.ints IntKind.u8 (intsOf (fldOf (xs.getD (↑x.fst : Int).toNat (D.val (Value.bool false))) (2 : Nat)))])) =
                                                                                      some
                                                                                       (Blk.fix
                                                                                        (D.st
                                                                                         [D.val (Value.int IntKind.i64 (numOf (fldOf (xs.getD (↑x.fst : Int).toNat (D.val (Value.bool false))) (0 : Nat)))), D.ints IntKind.u8 (intsOf (fldOf (xs.getD (↑x.fst : Int).toNat (D.val (Value.bool false))) (1 : Nat))),
                                                                                          D.ints IntKind.u8 (intsOf (fldOf (xs.getD (↑x.fst : Int).toNat (D.val (Value.bool false))) (2 : Nat)))])) ∧
                                                                                     some (Blk.fix (D.st [D.ints IntKind.u8 s, D.st [D.arr IntKind.u8 (32 : Nat) x.snd.fst, D.val (Value.int IntKind.i64 x.snd.snd)]])) =
                                                                                       some (Blk.fix (D.st [D.ints IntKind.u8 s, D.st [D.arr IntKind.u8 (32 : Nat) x.snd.fst, D.val (Value.int IntKind.i64 x.snd.snd)]])) ∧
                                                                                      True) ∧
                                                                                   true = true) ∧
                                                                                 z.snd.fst = mk2 s z.fst (numOf (fldOf (xs.getD (↑x.fst : Int).toNat (D.val (Value.bool false))) (0 : Nat))) (intsOf (fldOf (xs.getD (↑x.fst : Int).toNat (D.val (Value.bool false))) (2 : Nat))) z.snd.fst ∧
                                                                                  z.snd.snd = lf2 z.fst (numOf (fldOf (xs.getD (↑x.fst : Int).toNat (D.val (Value.bool false))) (0 : Nat))) z.snd.snd) ∧
                                                                                ∀ (z_1 : List Int × Int),
                                                                                 z_1.fst = mk2 s z.fst (numOf (fldOf (xs.getD (↑x.fst : Int).toNat (D.val (Value.bool false))) (0 : Nat))) (intsOf (fldOf (xs.getD (↑x.fst : Int).toNat (D.val (Value.bool false))) (2 : Nat))) z.snd.fst ∧
                                                                                   z_1.snd = lf2 z.fst (numOf (fldOf (xs.getD (↑x.fst : Int).toNat (D.val (Value.bool false))) (0 : Nat))) z.snd.snd →
                                                                                  true = true ∧
                                                                                   (Sk.st [Sk.one, Sk.one, Sk.one] = Sk.st [Sk.one, Sk.one, Sk.one] ∧ (0 : Nat) < (3 : Nat)) ∧
                                                                                    ((1 : Nat) ≠ (0 : Nat) ∧ (1 : Nat) = (1 : Nat) ∧ false = false) ∧
                                                                                     True ∧
                                                                                      True ∧
                                                                                       (match numOf (fldOf (xs.getD (↑x.fst : Int).toNat (D.val (Value.bool false))) (0 : Nat)) == (2 : Int) with
                                                                                        | true =>
                                                                                         True ∧
                                                                                          (Sk.st [Sk.one, Sk.one, Sk.one] = Sk.st [Sk.one, Sk.one, Sk.one] ∧ (1 : Nat) < (3 : Nat)) ∧
                                                                                           ((1 : Nat) ≠ (0 : Nat) ∧ (1 : Nat) = (1 : Nat) ∧ false = false) ∧
                                                                                            (Sk.st [Sk.one, Sk.one, Sk.one] = Sk.st [Sk.one, Sk.one, Sk.one] ∧ (2 : Nat) < (3 : Nat)) ∧
                                                                                             ((1 : Nat) ≠ (0 : Nat) ∧ (1 : Nat) = (1 : Nat) ∧ false = false) ∧
                                                                                              (∃ (s_1 : List Int),
                                                                                                ∃ (m : List Int),
                                                                                                 ∃ (n : Int),
                                                                                                  ∃ (p : List Int),
                                                                                                   ∃ (q : List Int),
                                                                                                    [D.st [D.ints IntKind.u8 s, D.st [D.arr IntKind.u8 (32 : Nat) x.snd.fst, D.val (Value.int IntKind.i64 x.snd.snd)]],
                                                                                                       D.ints IntKind.u8 (intsOf (fldOf (xs.getD (↑x.fst : Int).toNat (D.val (Value.bool false))) (1 : Nat))),
                                                                                                       D.ints IntKind.u8 (intsOf (fldOf (xs.getD (↑x.fst : Int).toNat (D.val (Value.bool false))) (2 : Nat)))] =
                                                                                                      [D.st [D.ints IntKind.u8 s_1, D.st [D.arr IntKind.u8 (32 : Nat) m, D.val (Value.int IntKind.i64 n)]], D.ints IntKind.u8 p, D.ints IntKind.u8 q] ∧
                                                                                                     (isP s_1 ∧ isM m ∧ lfOk n) ∧ isP p ∧ isP q) ∧
                                                                                               True ∧
                                                                                                ((AV.d
                                                                                                     (D.val
                                                                                                      (Value.int IntKind.i64
                                                                                                       (chE s x.snd.fst x.snd.snd (intsOf (fldOf (xs.getD (↑x.fst : Int).toNat (D.val (Value.bool false))) (1 : Nat)))
                                                                                                        (intsOf (fldOf (xs.getD (↑x.fst : Int).toNat (D.val (Value.bool false))) (2 : Nat)))))) =
                                                                                                    AV.d
                                                                                                     (D.val
                                                                                                      (Value.int IntKind.i64
                                                                                                       (chE s x.snd.fst x.snd.snd (intsOf (fldOf (xs.getD (↑x.fst : Int).toNat (D.val (Value.bool false))) (1 : Nat)))
                                                                                                        (intsOf (fldOf (xs.getD (↑x.fst : Int).toNat (D.val (Value.bool false))) (2 : Nat)))))) ∧
                                                                                                   True) ∧
                                                                                                  (some (Blk.fix (D.st [D.arr IntKind.u8 (32 : Nat) z_1.fst, D.val (Value.int IntKind.i64 z_1.snd)])) = some (Blk.fix (D.st [D.arr IntKind.u8 (32 : Nat) z_1.fst, D.val (Value.int IntKind.i64 z_1.snd)])) ∧
                                                                                                    some
                                                                                                       (Blk.fix
                                                                                                        (D.st
                                                                                                         [D.val (Value.int IntKind.i64 (numOf (fldOf (xs.getD (↑x.fst : Int).toNat (D.val (Value.bool false))) (0 : Nat)))),
                                                                                                          D.ints IntKind.u8 (intsOf (fldOf (xs.getD (↑x.fst : Int).toNat (D.val (Value.bool false))) (1 : Nat))),
                                                                                                          D.ints IntKind.u8 (intsOf (fldOf (xs.getD (↑x.fst : Int).toNat (D.val (Value.bool false))) (2 : Nat)))])) =
                                                                                                      some
                                                                                                       (Blk.fix
                                                                                                        (D.st
                                                                                                         [D.val (Value.int IntKind.i64 (numOf (fldOf (xs.getD (↑x.fst : Int).toNat (D.val (Value.bool false))) (0 : Nat)))),
                                                                                                          D.ints IntKind.u8 (intsOf (fldOf (xs.getD (↑x.fst : Int).toNat (D.val (Value.bool false))) (1 : Nat))),
                                                                                                          D.ints IntKind.u8 (intsOf (fldOf (xs.getD (↑x.fst : Int).toNat (D.val (Value.bool false))) (2 : Nat)))])) ∧
                                                                                                     some
                                                                                                        (Blk.fix
                                                                                                         (D.st
                                                                                                          [D.ints IntKind.u8 s,
                                                                                                           D.st
                                                                                                            [D.arr IntKind.u8 (32 : Nat)
                                                                                                              (chM s x.snd.fst x.snd.snd (intsOf (fldOf (xs.getD (↑x.fst : Int).toNat (D.val (Value.bool false))) (1 : Nat)))
                                                                                                               (intsOf (fldOf (xs.getD (↑x.fst : Int).toNat (D.val (Value.bool false))) (2 : Nat)))),
                                                                                                             D.val
                                                                                                              (Value.int IntKind.i64
                                                                                                               (chN s x.snd.fst x.snd.snd (intsOf (fldOf (xs.getD (↑x.fst : Int).toNat (D.val (Value.bool false))) (1 : Nat)))
                                                                                                                (intsOf (fldOf (xs.getD (↑x.fst : Int).toNat (D.val (Value.bool false))) (2 : Nat)))))]])) =
                                                                                                       some
                                                                                                        (Blk.fix
                                                                                                         (D.st
                                                                                                          [D.ints IntKind.u8 s,
                                                                                                           D.st
                                                                                                            [D.arr IntKind.u8 (32 : Nat)
                                                                                                              (chM s x.snd.fst x.snd.snd (intsOf (fldOf (xs.getD (↑x.fst : Int).toNat (D.val (Value.bool false))) (1 : Nat)))
                                                                                                               (intsOf (fldOf (xs.getD (↑x.fst : Int).toNat (D.val (Value.bool false))) (2 : Nat)))),
                                                                                                             D.val
                                                                                                              (Value.int IntKind.i64
                                                                                                               (chN s x.snd.fst x.snd.snd (intsOf (fldOf (xs.getD (↑x.fst : Int).toNat (D.val (Value.bool false))) (1 : Nat)))
                                                                                                                (intsOf (fldOf (xs.getD (↑x.fst : Int).toNat (D.val (Value.bool false))) (2 : Nat)))))]])) ∧
                                                                                                      True) ∧
                                                                                                   true = true) ∧
                                                                                                 chE s x.snd.fst x.snd.snd (intsOf (fldOf (xs.getD (↑x.fst : Int).toNat (D.val (Value.bool false))) (1 : Nat))) (intsOf (fldOf (xs.getD (↑x.fst : Int).toNat (D.val (Value.bool false))) (2 : Nat))) = z.fst ∧
                                                                                                  chM s x.snd.fst x.snd.snd (intsOf (fldOf (xs.getD (↑x.fst : Int).toNat (D.val (Value.bool false))) (1 : Nat))) (intsOf (fldOf (xs.getD (↑x.fst : Int).toNat (D.val (Value.bool false))) (2 : Nat))) =
                                                                                                    z_1.fst ∧
                                                                                                   chN s x.snd.fst x.snd.snd (intsOf (fldOf (xs.getD (↑x.fst : Int).toNat (D.val (Value.bool false))) (1 : Nat))) (intsOf (fldOf (xs.getD (↑x.fst : Int).toNat (D.val (Value.bool false))) (2 : Nat))) =
                                                                                                    z_1.snd
                                                                                        | false =>
                                                                                         True ∧
                                                                                          True ∧
                                                                                           match numOf (fldOf (xs.getD (↑x.fst : Int).toNat (D.val (Value.bool false))) (0 : Nat)) == (3 : Int) with
                                                                                           | true =>
                                                                                            True ∧
                                                                                             (Sk.st [Sk.one, Sk.one, Sk.one] = Sk.st [Sk.one, Sk.one, Sk.one] ∧ (2 : Nat) < (3 : Nat)) ∧
                                                                                              ((1 : Nat) ≠ (0 : Nat) ∧ (1 : Nat) = (1 : Nat) ∧ false = false) ∧
                                                                                               (∃ (s_1 : List Int),
                                                                                                 ∃ (m : List Int),
                                                                                                  ∃ (n : Int),
                                                                                                   ∃ (p : List Int),
                                                                                                    [D.st [D.ints IntKind.u8 s, D.st [D.arr IntKind.u8 (32 : Nat) x.snd.fst, D.val (Value.int IntKind.i64 x.snd.snd)]],
                                                                                                       D.ints IntKind.u8 (intsOf (fldOf (xs.getD (↑x.fst : Int).toNat (D.val (Value.bool false))) (2 : Nat)))] =
                                                                                                      [D.st [D.ints IntKind.u8 s_1, D.st [D.arr IntKind.u8 (32 : Nat) m, D.val (Value.int IntKind.i64 n)]], D.ints IntKind.u8 p] ∧
                                                                                                     (isP s_1 ∧ isM m ∧ lfOk n) ∧ isP p) ∧
                                                                                                True ∧
                                                                                                 ((AV.d (D.val (Value.int IntKind.i64 (rpE (intsOf (fldOf (xs.getD (↑x.fst : Int).toNat (D.val (Value.bool false))) (2 : Nat)))))) =
                                                                                                     AV.d (D.val (Value.int IntKind.i64 (rpE (intsOf (fldOf (xs.getD (↑x.fst : Int).toNat (D.val (Value.bool false))) (2 : Nat)))))) ∧
                                                                                                    True) ∧
                                                                                                   (some (Blk.fix (D.st [D.arr IntKind.u8 (32 : Nat) z_1.fst, D.val (Value.int IntKind.i64 z_1.snd)])) = some (Blk.fix (D.st [D.arr IntKind.u8 (32 : Nat) z_1.fst, D.val (Value.int IntKind.i64 z_1.snd)])) ∧
                                                                                                     some
                                                                                                        (Blk.fix
                                                                                                         (D.st
                                                                                                          [D.val (Value.int IntKind.i64 (numOf (fldOf (xs.getD (↑x.fst : Int).toNat (D.val (Value.bool false))) (0 : Nat)))),
                                                                                                           D.ints IntKind.u8 (intsOf (fldOf (xs.getD (↑x.fst : Int).toNat (D.val (Value.bool false))) (1 : Nat))),
                                                                                                           D.ints IntKind.u8 (intsOf (fldOf (xs.getD (↑x.fst : Int).toNat (D.val (Value.bool false))) (2 : Nat)))])) =
                                                                                                       some
                                                                                                        (Blk.fix
                                                                                                         (D.st
                                                                                                          [D.val (Value.int IntKind.i64 (numOf (fldOf (xs.getD (↑x.fst : Int).toNat (D.val (Value.bool false))) (0 : Nat)))),
                                                                                                           D.ints IntKind.u8 (intsOf (fldOf (xs.getD (↑x.fst : Int).toNat (D.val (Value.bool false))) (1 : Nat))),
                                                                                                           D.ints IntKind.u8 (intsOf (fldOf (xs.getD (↑x.fst : Int).toNat (D.val (Value.bool false))) (2 : Nat)))])) ∧
                                                                                                      some
                                                                                                         (Blk.fix
                                                                                                          (D.st
                                                                                                           [D.ints IntKind.u8 s,
                                                                                                            D.st
                                                                                                             [D.arr IntKind.u8 (32 : Nat) (rpM s x.snd.fst (intsOf (fldOf (xs.getD (↑x.fst : Int).toNat (D.val (Value.bool false))) (2 : Nat)))),
                                                                                                              D.val (Value.int IntKind.i64 (rpN x.snd.snd (intsOf (fldOf (xs.getD (↑x.fst : Int).toNat (D.val (Value.bool false))) (2 : Nat)))))]])) =
                                                                                                        some
                                                                                                         (Blk.fix
                                                                                                          (D.st
                                                                                                           [D.ints IntKind.u8 s,
                                                                                                            D.st
                                                                                                             [D.arr IntKind.u8 (32 : Nat) (rpM s x.snd.fst (intsOf (fldOf (xs.getD (↑x.fst : Int).toNat (D.val (Value.bool false))) (2 : Nat)))),
                                                                                                              D.val (Value.int IntKind.i64 (rpN x.snd.snd (intsOf (fldOf (xs.getD (↑x.fst : Int).toNat (D.val (Value.bool false))) (2 : Nat)))))]])) ∧
                                                                                                       True) ∧
                                                                                                    true = true) ∧
                                                                                                  rpE (intsOf (fldOf (xs.getD (↑x.fst : Int).toNat (D.val (Value.bool false))) (2 : Nat))) = z.fst ∧
                                                                                                   rpM s x.snd.fst (intsOf (fldOf (xs.getD (↑x.fst : Int).toNat (D.val (Value.bool false))) (2 : Nat))) = z_1.fst ∧
                                                                                                    rpN x.snd.snd (intsOf (fldOf (xs.getD (↑x.fst : Int).toNat (D.val (Value.bool false))) (2 : Nat))) = z_1.snd
                                                                                           | false =>
                                                                                            (Sk.st [Sk.one, Sk.one, Sk.one] = Sk.st [Sk.one, Sk.one, Sk.one] ∧ (0 : Nat) < (3 : Nat)) ∧
                                                                                             ((1 : Nat) ≠ (0 : Nat) ∧ (1 : Nat) = (1 : Nat) ∧ false = false) ∧
                                                                                              True ∧
                                                                                               match decide (numOf (fldOf (xs.getD (↑x.fst : Int).toNat (D.val (Value.bool false))) (0 : Nat)) > (3 : Int)) with
                                                                                               | true => True ∧ (false = false ∧ True) ∧ D.val (Value.bool true) = F
                                                                                               | false =>
                                                                                                True ∧
                                                                                                 (Sk.st [Sk.one, Sk.one, Sk.one] = Sk.st [Sk.one, Sk.one, Sk.one] ∧ (1 : Nat) < (3 : Nat)) ∧
                                                                                                  ((1 : Nat) ≠ (0 : Nat) ∧ (1 : Nat) = (1 : Nat) ∧ false = false) ∧
                                                                                                   (∃ (s_1 : List Int),
                                                                                                     ∃ (m : List Int),
                                                                                                      ∃ (n : Int),
                                                                                                       ∃ (p : List Int),
                                                                                                        [D.st [D.ints IntKind.u8 s, D.st [D.arr IntKind.u8 (32 : Nat) x.snd.fst, D.val (Value.int IntKind.i64 x.snd.snd)]],
                                                                                                           D.ints IntKind.u8 (intsOf (fldOf (xs.getD (↑x.fst : Int).toNat (D.val (Value.bool false))) (1 : Nat)))] =
                                                                                                          [D.st [D.ints IntKind.u8 s_1, D.st [D.arr IntKind.u8 (32 : Nat) m, D.val (Value.int IntKind.i64 n)]], D.ints IntKind.u8 p] ∧
                                                                                                         (isP s_1 ∧ isM m ∧ lfOk n) ∧ isP p) ∧
                                                                                                    True ∧
                                                                                                     ((AV.d (D.val (Value.int IntKind.i64 (tryE s x.snd.fst x.snd.snd (intsOf (fldOf (xs.getD (↑x.fst : Int).toNat (D.val (Value.bool false))) (1 : Nat)))))) =
                                                                                                         AV.d (D.val (Value.int IntKind.i64 (tryE s x.snd.fst x.snd.snd (intsOf (fldOf (xs.getD (↑x.fst : Int).toNat (D.val (Value.bool false))) (1 : Nat)))))) ∧
                                                                                                        True) ∧
                                                                                                       (some (Blk.fix (D.st [D.arr IntKind.u8 (32 : Nat) z_1.fst, D.val (Value.int IntKind.i64 z_1.snd)])) =
                                                                                                          some (Blk.fix (D.st [D.arr IntKind.u8 (32 : Nat) z_1.fst, D.val (Value.int IntKind.i64 z_1.snd)])) ∧
                                                                                                         some
                                                                                                            (Blk.fix
                                                                                                             (D.st
                                                                                                              [D.val (Value.int IntKind.i64 (numOf (fldOf (xs.getD (↑x.fst : Int).toNat (D.val (Value.bool false))) (0 : Nat)))),
                                                                                                               D.ints IntKind.u8 (intsOf (fldOf (xs.getD (↑x.fst : Int).toNat (D.val (Value.bool false))) (1 : Nat))),
                                                                                                               D.ints IntKind.u8 (intsOf (fldOf (xs.getD (↑x.fst : Int).toNat (D.val (Value.bool false))) (2 : Nat)))])) =
                                                                                                           some
                                                                                                            (Blk.fix
                                                                                                             (D.st
                                                                                                              [D.val (Value.int IntKind.i64 (numOf (fldOf (xs.getD (↑x.fst : Int).toNat (D.val (Value.bool false))) (0 : Nat)))),
                                                                                                               D.ints IntKind.u8 (intsOf (fldOf (xs.getD (↑x.fst : Int).toNat (D.val (Value.bool false))) (1 : Nat))),
                                                                                                               D.ints IntKind.u8 (intsOf (fldOf (xs.getD (↑x.fst : Int).toNat (D.val (Value.bool false))) (2 : Nat)))])) ∧
                                                                                                          some
                                                                                                             (Blk.fix
                                                                                                              (D.st
                                                                                                               [D.ints IntKind.u8 s,
                                                                                                                D.st
                                                                                                                 [D.arr IntKind.u8 (32 : Nat) x.snd.fst,
                                                                                                                  D.val (Value.int IntKind.i64 (tryN s x.snd.fst x.snd.snd (intsOf (fldOf (xs.getD (↑x.fst : Int).toNat (D.val (Value.bool false))) (1 : Nat)))))]])) =
                                                                                                            some
                                                                                                             (Blk.fix
                                                                                                              (D.st
                                                                                                               [D.ints IntKind.u8 s,
                                                                                                                D.st
                                                                                                                 [D.arr IntKind.u8 (32 : Nat) x.snd.fst,
                                                                                                                  D.val (Value.int IntKind.i64 (tryN s x.snd.fst x.snd.snd (intsOf (fldOf (xs.getD (↑x.fst : Int).toNat (D.val (Value.bool false))) (1 : Nat)))))]])) ∧
                                                                                                           True) ∧
                                                                                                        true = true) ∧
                                                                                                      tryE s x.snd.fst x.snd.snd (intsOf (fldOf (xs.getD (↑x.fst : Int).toNat (D.val (Value.bool false))) (1 : Nat))) = z.fst ∧
                                                                                                       x.snd.fst = z_1.fst ∧ tryN s x.snd.fst x.snd.snd (intsOf (fldOf (xs.getD (↑x.fst : Int).toNat (D.val (Value.bool false))) (1 : Nat))) = z_1.snd) ∧
                                                                                        ∀ (z_2 : Int × List Int × Int),
                                                                                         z_2.fst = z.fst ∧ z_2.snd.fst = z_1.fst ∧ z_2.snd.snd = z_1.snd →
                                                                                          true = true ∧
                                                                                           True ∧
                                                                                            True ∧
                                                                                             True ∧
                                                                                              True ∧
                                                                                               match z_2.fst != z.fst with
                                                                                               | true => True ∧ True ∧ True ∧ True ∧ (false = false ∧ True) ∧ D.val (Value.bool false) = F
                                                                                               | false =>
                                                                                                True ∧
                                                                                                 (∃ (s_1 : List Int),
                                                                                                   ∃ (m : List Int),
                                                                                                    ∃ (n : Int),
                                                                                                     [(D.st [D.ints IntKind.u8 s, D.st [D.arr IntKind.u8 (32 : Nat) z_2.snd.fst, D.val (Value.int IntKind.i64 z_2.snd.snd)]]).ref] =
                                                                                                      [(D.st [D.ints IntKind.u8 s_1, D.st [D.arr IntKind.u8 (32 : Nat) m, D.val (Value.int IntKind.i64 n)]]).ref]) ∧
                                                                                                  ((33 : Nat) ≠ (0 : Nat) ∧ (33 : Nat) = (33 : Nat) ∧ true = true) ∧
                                                                                                   (true = true ∧
                                                                                                     Sk.st [Sk.arr (32 : Nat), Sk.one] = Sk.st [Sk.arr (32 : Nat), Sk.one] ∧
                                                                                                      Sk.st [Sk.arr (32 : Nat), Sk.one] = Sk.st [Sk.arr (32 : Nat), Sk.one] ∧
                                                                                                       true = true ∧
                                                                                                        true = true ∧
                                                                                                         (IntKind.u8 = IntKind.u8 ∧ IntKind.u8 = IntKind.u8 ∧ (32 : Nat) = (32 : Nat) ∧ (32 : Nat) = (32 : Nat) ∧ (1 : Nat) = (1 : Nat)) ∧
                                                                                                          false = false ∧ false = false ∧ (IntKind.i64 = IntKind.i64 ∧ IntKind.i64 = IntKind.i64) ∧ True) ∧
                                                                                                    True ∧
                                                                                                     True ∧
                                                                                                      match !(eqB z_2.snd.fst z_1.fst && (z_2.snd.snd == z_1.snd && true)) with
                                                                                                      | true => True ∧ True ∧ (false = false ∧ True) ∧ D.val (Value.bool false) = F
                                                                                                      | false =>
                                                                                                       True ∧
                                                                                                        (∃ (s_1 : List Int),
                                                                                                          ∃ (m : List Int),
                                                                                                           ∃ (n : Int),
                                                                                                            [(D.st [D.ints IntKind.u8 s, D.st [D.arr IntKind.u8 (32 : Nat) z_2.snd.fst, D.val (Value.int IntKind.i64 z_2.snd.snd)]]).ref] =
                                                                                                             [(D.st [D.ints IntKind.u8 s_1, D.st [D.arr IntKind.u8 (32 : Nat) m, D.val (Value.int IntKind.i64 n)]]).ref]) ∧
                                                                                                         (Sk.st [Sk.arr (32 : Nat), Sk.one] = Sk.st [Sk.arr (32 : Nat), Sk.one] ∧ (1 : Nat) < (2 : Nat)) ∧
                                                                                                          ((1 : Nat) ≠ (0 : Nat) ∧ (1 : Nat) = (1 : Nat) ∧ false = false) ∧
                                                                                                           True ∧
                                                                                                            True ∧
                                                                                                             match z_2.snd.snd != z_1.snd with
                                                                                                             | true => True ∧ (false = false ∧ True) ∧ D.val (Value.bool false) = F
                                                                                                             | false =>
                                                                                                              True ∧
                                                                                                               True ∧
                                                                                                                ((AV.d (D.val (Value.int IntKind.i64 (IntKind.i64.wrap ((↑x.fst : Int) + (1 : Int))))) =
                                                                                                                    AV.d (D.val (Value.int IntKind.i64 (↑(IntKind.i64.wrap ((↑x.fst : Int) + (1 : Int))).toNat : Int))) ∧
                                                                                                                   True) ∧
                                                                                                                  (some (Blk.fix (D.st [D.arr IntKind.u8 (32 : Nat) z_1.fst, D.val (Value.int IntKind.i64 z_1.snd)])) =
                                                                                                                     some (Blk.fix (D.st [D.arr IntKind.u8 (32 : Nat) z_1.fst, D.val (Value.int IntKind.i64 z_1.snd)])) ∧
                                                                                                                    some (Blk.fix (D.st [D.ints IntKind.u8 s, D.st [D.arr IntKind.u8 (32 : Nat) z_2.snd.fst, D.val (Value.int IntKind.i64 z_2.snd.snd)]])) =
                                                                                                                      some (Blk.fix (D.st [D.ints IntKind.u8 s, D.st [D.arr IntKind.u8 (32 : Nat) z_1.fst, D.val (Value.int IntKind.i64 z_1.snd)]])) ∧
                                                                                                                     True) ∧
                                                                                                                   true = true) ∧
                                                                                                                 ((IntKind.i64.wrap ((↑x.fst : Int) + (1 : Int))).toNat ≤ xs.length ∧ isM z_1.fst ∧ lfOk z_1.snd) ∧
                                                                                                                  xs.length - (IntKind.i64.wrap ((↑x.fst : Int) + (1 : Int))).toNat < xs.length - x.fst
                                                               | false =>
                                                                True ∧
                                                                 ((Sk.st [Sk.one, Sk.one, Sk.one] = Sk.st [Sk.one, Sk.one, Sk.one] ∧ (0 : Nat) < (3 : Nat)) ∧
                                                                   ((1 : Nat) ≠ (0 : Nat) ∧ (1 : Nat) = (1 : Nat) ∧ false = false) ∧
                                                                    True ∧
                                                                     match decide (numOf (fldOf (xs.getD (↑x.fst : Int).toNat (D.val (Value.bool false))) (0 : Nat)) < (3 : Int)) with
                                                                     | true =>
                                                                      (Sk.st [Sk.arr (32 : Nat), Sk.one] = Sk.st [Sk.arr (32 : Nat), Sk.one] ∧ (1 : Nat) < (2 : Nat)) ∧
                                                                       ((1 : Nat) ≠ (0 : Nat) ∧ (1 : Nat) = (1 : Nat) ∧ false = false) ∧
                                                                        True ∧
                                                                         True ∧
                                                                          match x.snd.snd == (0 : Int) with
                                                                          | true =>
                                                                           True ∧
                                                                            ((AV.d (D.val (Value.int IntKind.i64 (11 : Int))) = AV.d (D.val (Value.int IntKind.i64 (11 : Int))) ∧ True) ∧
                                                                              (some (Blk.fix (D.st [D.arr IntKind.u8 (32 : Nat) x.snd.fst, D.val (Value.int IntKind.i64 x.snd.snd)])) = some (Blk.fix (D.st [D.arr IntKind.u8 (32 : Nat) x.snd.fst, D.val (Value.int IntKind.i64 x.snd.snd)])) ∧
                                                                                some
                                                                                   (Blk.fix
                                                                                    (D.st
                                                                                     [D.val (Value.int IntKind.i64 (numOf (fldOf (xs.getD (↑x.fst : Int).toNat (D.val (Value.bool false))) (0 : Nat)))), D.ints IntKind.u8 (intsOf (fldOf (xs.getD (↑x.fst : Int).toNat (D.val (Value.bool false))) (1 : Nat))),
                                                                                      D.ints IntKind.u8 (intsOf (fldOf (xs.getD (↑x.fst : Int).toNat (D.val (Value.bool false))) (2 : Nat)))])) =
                                                                                  some
                                                                                   (Blk.fix
                                                                                    (D.st
                                                                                     [D.val (Value.int IntKind.i64 (numOf (fldOf (xs.getD (↑x.fst : Int).toNat (D.val (Value.bool false))) (0 : Nat)))), D.ints IntKind.u8 (intsOf (fldOf (xs.getD (↑x.fst : Int).toNat (D.val (Value.bool false))) (1 : Nat))),
                                                                                      D.ints IntKind.u8 (intsOf (fldOf (xs.getD (↑x.fst : Int).toNat (D.val (Value.bool false))) (2 : Nat)))])) ∧
                                                                                 some (Blk.fix (D.st [D.ints IntKind.u8 s, D.st [D.arr IntKind.u8 (32 : Nat) x.snd.fst, D.val (Value.int IntKind.i64 x.snd.snd)]])) =
                                                                                   some (Blk.fix (D.st [D.ints IntKind.u8 s, D.st [D.arr IntKind.u8 (32 : Nat) x.snd.fst, D.val (Value.int IntKind.i64 x.snd.snd)]])) ∧
                                                                                  True) ∧
                                                                               true = true) ∧
                                                                             x.snd.fst = x.snd.fst ∧
                                                                              (11 : Int) =
                                                                                wnt s (numOf (fldOf (xs.getD (↑x.fst : Int).toNat (D.val (Value.bool false))) (0 : Nat))) (intsOf (fldOf (xs.getD (↑x.fst : Int).toNat (D.val (Value.bool false))) (1 : Nat)))
                                                                                 (intsOf (fldOf (xs.getD (↑x.fst : Int).toNat (D.val (Value.bool false))) (2 : Nat))) x.snd.fst x.snd.snd ∧
                                                                               x.snd.snd =
                                                                                nxt s (numOf (fldOf (xs.getD (↑x.fst : Int).toNat (D.val (Value.bool false))) (0 : Nat))) (intsOf (fldOf (xs.getD (↑x.fst : Int).toNat (D.val (Value.bool false))) (1 : Nat)))
                                                                                 (intsOf (fldOf (xs.getD (↑x.fst : Int).toNat (D.val (Value.bool false))) (2 : Nat))) x.snd.fst x.snd.snd
                                                                          | false =>
                                                                           True ∧
                                                                            isBytes s ∧
                                                                             (Sk.st [Sk.one, Sk.one, Sk.one] = Sk.st [Sk.one, Sk.one, Sk.one] ∧ (1 : Nat) < (3 : Nat)) ∧
                                                                              ((1 : Nat) ≠ (0 : Nat) ∧ (1 : Nat) = (1 : Nat) ∧ false = false) ∧
                                                                               isBytes (intsOf (fldOf (xs.getD (↑x.fst : Int).toNat (D.val (Value.bool false))) (1 : Nat))) ∧
                                                                                (∃ (k : List Int), ∃ (p : List Int), [D.str s, D.str (intsOf (fldOf (xs.getD (↑x.fst : Int).toNat (D.val (Value.bool false))) (1 : Nat)))] = [D.str k, D.str p] ∧ isP k ∧ isP p) ∧
                                                                                 (Sk.st [Sk.arr (32 : Nat), Sk.one] = Sk.st [Sk.arr (32 : Nat), Sk.one] ∧ (0 : Nat) < (2 : Nat)) ∧
                                                                                  ((32 : Nat) ≠ (0 : Nat) ∧ (32 : Nat) = (32 : Nat) ∧ true = true) ∧
                                                                                   (IntKind.u8 = IntKind.u8 ∧ IntKind.u8 = IntKind.u8 ∧ (32 : Nat) = (32 : Nat) ∧ (32 : Nat) = (32 : Nat) ∧ (1 : Nat) = (1 : Nat)) ∧
                                                                                    True ∧
                                                                                     match !eqB (strL s (intsOf (fldOf (xs.getD (↑x.fst : Int).toNat (D.val (Value.bool false))) (1 : Nat)))) x.snd.fst with
                                                                                     | true =>
                                                                                      True ∧
                                                                                       (Sk.st [Sk.arr (32 : Nat), Sk.one] = Sk.st [Sk.arr (32 : Nat), Sk.one] ∧ (1 : Nat) < (2 : Nat)) ∧
                                                                                        ((1 : Nat) ≠ (0 : Nat) ∧ (1 : Nat) = (1 : Nat) ∧ false = false) ∧
                                                                                         True ∧
                                                                                          (Sk.st [Sk.arr (32 : Nat), Sk.one] = Sk.st [Sk.arr (32 : Nat), Sk.one] ∧ (1 : Nat) < (2 : Nat)) ∧
                                                                                           (((1 : Nat) < (2 : Nat) ∧ Sk.one = Sk.one) ∧ (1 : Nat) ≠ (0 : Nat) ∧ (1 : Nat) = (1 : Nat) ∧ false = false) ∧
                                                                                            ((AV.d (D.val (Value.int IntKind.i64 (10 : Int))) = AV.d (D.val (Value.int IntKind.i64 (10 : Int))) ∧ True) ∧
                                                                                              (some (Blk.fix (D.st [D.arr IntKind.u8 (32 : Nat) x.snd.fst, D.val (Value.int IntKind.i64 (IntKind.i64.wrap (x.snd.snd - (1 : Int))))])) =
                                                                                                 some (Blk.fix (D.st [D.arr IntKind.u8 (32 : Nat) x.snd.fst, D.val (Value.int IntKind.i64 (IntKind.i64.wrap (x.snd.snd - (1 : Int))))])) ∧
                                                                                                some
                                                                                                   (Blk.fix
                                                                                                    (D.st
                                                                                                     [D.val (Value.int IntKind.i64 (numOf (fldOf (xs.getD (↑x.fst : Int).toNat (D.val (Value.bool false))) (0 : Nat)))),
                                                                                                      D.ints IntKind.u8 (intsOf (fldOf (xs.getD (↑x.fst : Int).toNat (D.val (Value.bool false))) (1 : Nat))),
                                                                                                      D.ints IntKind.u8 (intsOf (fldOf (xs.getD (↑x.fst : Int).toNat (D.val (Value.bool false))) (2 : Nat)))])) =
                                                                                                  some
                                                                                                   (Blk.fix
                                                                                                    (D.st
                                                                                                     [D.val (Value.int IntKind.i64 (numOf (fldOf (xs.getD (↑x.fst : Int).toNat (D.val (Value.bool false))) (0 : Nat)))),
                                                                                                      D.ints IntKind.u8 (intsOf (fldOf (xs.getD (↑x.fst : Int).toNat (D.val (Value.bool false))) (1 : Nat))),
                                                                                                      D.ints IntKind.u8 (intsOf (fldOf (xs.getD (↑x.fst : Int).toNat (D.val (Value.bool false))) (2 : Nat)))])) ∧
                                                                                                 some (Blk.fix (D.st [D.ints IntKind.u8 s, D.st [D.arr IntKind.u8 (32 : Nat) x.snd.fst, D.val (Value.int IntKind.i64 x.snd.snd)]])) =
                                                                                                   some (Blk.fix (D.st [D.ints IntKind.u8 s, D.st [D.arr IntKind.u8 (32 : Nat) x.snd.fst, D.val (Value.int IntKind.i64 x.snd.snd)]])) ∧
                                                                                                  True) ∧
                                                                                               true = true) ∧
                                                                                             x.snd.fst = x.snd.fst ∧
                                                                                              (10 : Int) =
                                                                                                wnt s (numOf (fldOf (xs.getD (↑x.fst : Int).toNat (D.val (Value.bool false))) (0 : Nat))) (intsOf (fldOf (xs.getD (↑x.fst : Int).toNat (D.val (Value.bool false))) (1 : Nat)))
                                                                                                 (intsOf (fldOf (xs.getD (↑x.fst : Int).toNat (D.val (Value.bool false))) (2 : Nat))) x.snd.fst x.snd.snd ∧
                                                                                               IntKind.i64.wrap (x.snd.snd - (1 : Int)) =
                                                                                                nxt s (numOf (fldOf (xs.getD (↑x.fst : Int).toNat (D.val (Value.bool false))) (0 : Nat))) (intsOf (fldOf (xs.getD (↑x.fst : Int).toNat (D.val (Value.bool false))) (1 : Nat)))
                                                                                                 (intsOf (fldOf (xs.getD (↑x.fst : Int).toNat (D.val (Value.bool false))) (2 : Nat))) x.snd.fst x.snd.snd
                                                                                     | false =>
                                                                                      (Sk.st [Sk.arr (32 : Nat), Sk.one] = Sk.st [Sk.arr (32 : Nat), Sk.one] ∧ (1 : Nat) < (2 : Nat)) ∧
                                                                                       (((1 : Nat) < (2 : Nat) ∧ Sk.one = Sk.one) ∧ (1 : Nat) ≠ (0 : Nat) ∧ (1 : Nat) = (1 : Nat) ∧ false = false) ∧
                                                                                        ((AV.d (D.val (Value.int IntKind.i64 (0 : Int))) = AV.d (D.val (Value.int IntKind.i64 (0 : Int))) ∧ True) ∧
                                                                                          (some (Blk.fix (D.st [D.arr IntKind.u8 (32 : Nat) x.snd.fst, D.val (Value.int IntKind.i64 (3 : Int))])) = some (Blk.fix (D.st [D.arr IntKind.u8 (32 : Nat) x.snd.fst, D.val (Value.int IntKind.i64 (3 : Int))])) ∧
                                                                                            some
                                                                                               (Blk.fix
                                                                                                (D.st
                                                                                                 [D.val (Value.int IntKind.i64 (numOf (fldOf (xs.getD (↑x.fst : Int).toNat (D.val (Value.bool false))) (0 : Nat)))),
                                                                                                  D.ints IntKind.u8 (intsOf (fldOf (xs.getD (↑x.fst : Int).toNat (D.val (Value.bool false))) (1 : Nat))),
                                                                                                  D.ints IntKind.u8 (intsOf (fldOf (xs.getD (↑x.fst : Int).toNat (D.val (Value.bool false))) (2 : Nat)))])) =
                                                                                              some
                                                                                               (Blk.fix
                                                                                                (D.st
                                                                                                 [D.val (Value.int IntKind.i64 (numOf (fldOf (xs.getD (↑x.fst : Int).toNat (D.val (Value.bool false))) (0 : Nat)))),
                                                                                                  D.ints IntKind.u8 (intsOf (fldOf (xs.getD (↑x.fst : Int).toNat (D.val (Value.bool false))) (1 : Nat))),
                                                                                                  D.ints IntKind.u8 (intsOf (fldOf (xs.getD (↑x.fst : Int).toNat (D.val (Value.bool false))) (2 : Nat)))])) ∧
                                                                                             some (Blk.fix (D.st [D.ints IntKind.u8 s, D.st [D.arr IntKind.u8 (32 : Nat) x.snd.fst, D.val (Value.int IntKind.i64 x.snd.snd)]])) =
                                                                                               some (Blk.fix (D.st [D.ints IntKind.u8 s, D.st [D.arr IntKind.u8 (32 : Nat) x.snd.fst, D.val (Value.int IntKind.i64 x.snd.snd)]])) ∧
                                                                                              True) ∧
                                                                                           true = true) ∧
                                                                                         x.snd.fst = x.snd.fst ∧
                                                                                          (0 : Int) =
                                                                                            wnt s (numOf (fldOf (xs.getD (↑x.fst : Int).toNat (D.val (Value.bool false))) (0 : Nat))) (intsOf (fldOf (xs.getD (↑x.fst : Int).toNat (D.val (Value.bool false))) (1 : Nat)))
                                                                                             (intsOf (fldOf (xs.getD (↑x.fst : Int).toNat (D.val (Value.bool false))) (2 : Nat))) x.snd.fst x.snd.snd ∧
                                                                                           (3 : Int) =
                                                                                            nxt s (numOf (fldOf (xs.getD (↑x.fst : Int).toNat (D.val (Value.bool false))) (0 : Nat))) (intsOf (fldOf (xs.getD (↑x.fst : Int).toNat (D.val (Value.bool false))) (1 : Nat)))
                                                                                             (intsOf (fldOf (xs.getD (↑x.fst : Int).toNat (D.val (Value.bool false))) (2 : Nat))) x.snd.fst x.snd.snd
                                                                     | false =>
                                                                      ((AV.d (D.val (Value.int IntKind.i64 (0 : Int))) = AV.d (D.val (Value.int IntKind.i64 (0 : Int))) ∧ True) ∧
                                                                        (some (Blk.fix (D.st [D.arr IntKind.u8 (32 : Nat) x.snd.fst, D.val (Value.int IntKind.i64 x.snd.snd)])) = some (Blk.fix (D.st [D.arr IntKind.u8 (32 : Nat) x.snd.fst, D.val (Value.int IntKind.i64 x.snd.snd)])) ∧
                                                                          some
                                                                             (Blk.fix
                                                                              (D.st
                                                                               [D.val (Value.int IntKind.i64 (numOf (fldOf (xs.getD (↑x.fst : Int).toNat (D.val (Value.bool false))) (0 : Nat)))), D.ints IntKind.u8 (intsOf (fldOf (xs.getD (↑x.fst : Int).toNat (D.val (Value.bool false))) (1 : Nat))),
                                                                                D.ints IntKind.u8 (intsOf (fldOf (xs.getD (↑x.fst : Int).toNat (D.val (Value.bool false))) (2 : Nat)))])) =
                                                                            some
                                                                             (Blk.fix
                                                                              (D.st
                                                                               [D.val (Value.int IntKind.i64 (numOf (fldOf (xs.getD (↑x.fst : Int).toNat (D.val (Value.bool false))) (0 : Nat)))), D.ints IntKind.u8 (intsOf (fldOf (xs.getD (↑x.fst : Int).toNat (D.val (Value.bool false))) (1 : Nat))),
                                                                                D.ints IntKind.u8 (intsOf (fldOf (xs.getD (↑x.fst : Int).toNat (D.val (Value.bool false))) (2 : Nat)))])) ∧
                                                                           some (Blk.fix (D.st [D.ints IntKind.u8 s, D.st [D.arr IntKind.u8 (32 : Nat) x.snd.fst, D.val (Value.int IntKind.i64 x.snd.snd)]])) =
                                                                             some (Blk.fix (D.st [D.ints IntKind.u8 s, D.st [D.arr IntKind.u8 (32 : Nat) x.snd.fst, D.val (Value.int IntKind.i64 x.snd.snd)]])) ∧
                                                                            True) ∧
                                                                         true = true) ∧
                                                                       x.snd.fst = x.snd.fst ∧
                                                                        (0 : Int) =
                                                                          wnt s (numOf (fldOf (xs.getD (↑x.fst : Int).toNat (D.val (Value.bool false))) (0 : Nat))) (intsOf (fldOf (xs.getD (↑x.fst : Int).toNat (D.val (Value.bool false))) (1 : Nat)))
                                                                           (intsOf (fldOf (xs.getD (↑x.fst : Int).toNat (D.val (Value.bool false))) (2 : Nat))) x.snd.fst x.snd.snd ∧
                                                                         x.snd.snd =
                                                                          nxt s (numOf (fldOf (xs.getD (↑x.fst : Int).toNat (D.val (Value.bool false))) (0 : Nat))) (intsOf (fldOf (xs.getD (↑x.fst : Int).toNat (D.val (Value.bool false))) (1 : Nat)))
                                                                           (intsOf (fldOf (xs.getD (↑x.fst : Int).toNat (D.val (Value.bool false))) (2 : Nat))) x.snd.fst x.snd.snd) ∧
                                                                  ∀ (z : Int × List Int × Int),
                                                                   z.snd.fst = x.snd.fst ∧
                                                                     z.fst =
                                                                       wnt s (numOf (fldOf (xs.getD (↑x.fst : Int).toNat (D.val (Value.bool false))) (0 : Nat))) (intsOf (fldOf (xs.getD (↑x.fst : Int).toNat (D.val (Value.bool false))) (1 : Nat))) (intsOf (fldOf (xs.getD (↑x.fst : Int).toNat (D.val (Value.bool false))) (2 : Nat)))
                                                                        x.snd.fst x.snd.snd ∧
                                                                      z.snd.snd =
                                                                       nxt s (numOf (fldOf (xs.getD (↑x.fst : Int).toNat (D.val (Value.bool false))) (0 : Nat))) (intsOf (fldOf (xs.getD (↑x.fst : Int).toNat (D.val (Value.bool false))) (1 : Nat))) (intsOf (fldOf (xs.getD (↑x.fst : Int).toNat (D.val (Value.bool false))) (2 : Nat)))
                                                                        x.snd.fst x.snd.snd →
                                                                    true = true ∧
                                                                     True ∧
                                                                      True ∧
                                                                       True ∧
                                                                        match z.fst == (0 : Int) with
                                                                        | true =>
                                                                         (Sk.st [Sk.one, Sk.one, Sk.one] = Sk.st [Sk.one, Sk.one, Sk.one] ∧ (0 : Nat) < (3 : Nat)) ∧
                                                                          ((1 : Nat) ≠ (0 : Nat) ∧ (1 : Nat) = (1 : Nat) ∧ false = false) ∧
                                                                           True ∧
                                                                            True ∧
                                                                             (match decide (numOf (fldOf (xs.getD (↑x.fst : Int).toNat (D.val (Value.bool false))) (0 : Nat)) > (1 : Int)) with
                                                                              | true =>
                                                                               True ∧
                                                                                isBytes s ∧
                                                                                 (Sk.st [Sk.one, Sk.one, Sk.one] = Sk.st [Sk.one, Sk.one, Sk.one] ∧ (2 : Nat) < (3 : Nat)) ∧
                                                                                  ((1 : Nat) ≠ (0 : Nat) ∧ (1 : Nat) = (1 : Nat) ∧ false = false) ∧
                                                                                   isBytes (intsOf (fldOf (xs.getD (↑x.fst : Int).toNat (D.val (Value.bool false))) (2 : Nat))) ∧
                                                                                    (∃ (k : List Int), ∃ (p : List Int), [D.str s, D.str (intsOf (fldOf (xs.getD (↑x.fst : Int).toNat (D.val (Value.bool false))) (2 : Nat)))] = [D.str k, D.str p] ∧ isP k ∧ isP p) ∧
                                                                                     (false = false ∧ ((0 : Nat) < (2 : Nat) ∧ Sk.arr (32 : Nat) = Sk.arr (32 : Nat)) ∧ false = false ∧ ((1 : Nat) < (2 : Nat) ∧ Sk.one = Sk.one) ∧ True) ∧
                                                                                      (Sk.st [Sk.arr (32 : Nat), Sk.one] = Sk.st [Sk.arr (32 : Nat), Sk.one] ∧ (33 : Nat) ≠ (0 : Nat) ∧ (33 : Nat) = (33 : Nat) ∧ false = false) ∧
                                                                                       (True ∧
                                                                                         (some (Blk.fix (D.st [D.arr IntKind.u8 (32 : Nat) (strL s (intsOf (fldOf (xs.getD (↑x.fst : Int).toNat (D.val (Value.bool false))) (2 : Nat)))), D.val (Value.int IntKind.i64 (3 : Int))])) =
                                                                                            some (Blk.fix (D.st [D.arr IntKind.u8 (32 : Nat) (strL s (intsOf (fldOf (xs.getD (↑x.fst : Int).toNat (D.val (Value.bool false))) (2 : Nat)))), D.val (Value.int IntKind.i64 (3 : Int))])) ∧
                                                                                           some
                                                                                              (Blk.fix
                                                                                               (D.st
                                                                                                [D.val (Value.int IntKind.i64 (numOf (fldOf (xs.getD (↑x.fst : Int).toNat (D.val (Value.bool false))) (0 : Nat)))),
                                                                                                 D.ints IntKind.u8 (intsOf (fldOf (xs.getD (↑x.fst : Int).toNat (D.val (Value.bool false))) (1 : Nat))),
                                                                                                 D.ints IntKind.u8 (intsOf (fldOf (xs.getD (↑x.fst : Int).toNat (D.val (Value.bool false))) (2 : Nat)))])) =
                                                                                             some
                                                                                              (Blk.fix
                                                                                               (D.st
                                                                                                [D.val (Value.int IntKind.i64 (numOf (fldOf (xs.getD (↑x.fst : Int).toNat (D.val (Value.bool false))) (0 : Nat)))),
                                                                                                 D.ints IntKind.u8 (intsOf (fldOf (xs.getD (↑x.fst : Int).toNat (D.val (Value.bool false))) (1 : Nat))),
                                                                                                 D.ints IntKind.u8 (intsOf (fldOf (xs.getD (↑x.fst : Int).toNat (D.val (Value.bool false))) (2 : Nat)))])) ∧
                                                                                            some (Blk.fix (D.st [D.ints IntKind.u8 s, D.st [D.arr IntKind.u8 (32 : Nat) x.snd.fst, D.val (Value.int IntKind.i64 x.snd.snd)]])) =
                                                                                              some (Blk.fix (D.st [D.ints IntKind.u8 s, D.st [D.arr IntKind.u8 (32 : Nat) x.snd.fst, D.val (Value.int IntKind.i64 x.snd.snd)]])) ∧
                                                                                             True) ∧
                                                                                          true = true) ∧
                                                                                        strL s (intsOf (fldOf (xs.getD (↑x.fst : Int).toNat (D.val (Value.bool false))) (2 : Nat))) =
                                                                                          mk2 s z.fst (numOf (fldOf (xs.getD (↑x.fst : Int).toNat (D.val (Value.bool false))) (0 : Nat))) (intsOf (fldOf (xs.getD (↑x.fst : Int).toNat (D.val (Value.bool false))) (2 : Nat))) z.snd.fst ∧
                                                                                         (3 : Int) = lf2 z.fst (numOf (fldOf (xs.getD (↑x.fst : Int).toNat (D.val (Value.bool false))) (0 : Nat))) z.snd.snd
                                                                              | false =>
                                                                               (True ∧
                                                                                 (some (Blk.fix (D.st [D.arr IntKind.u8 (32 : Nat) z.snd.fst, D.val (Value.int IntKind.i64 z.snd.snd)])) = some (Blk.fix (D.st [D.arr IntKind.u8 (32 : Nat) z.snd.fst, D.val (Value.int IntKind.i64 z.snd.snd)])) ∧
                                                                                   some
                                                                                      (Blk.fix
                                                                                       (D.st
                                                                                        [D.val (Value.int IntKind.i64 (numOf (fldOf (xs.getD (↑x.fst : Int).toNat (D.val (Value.bool false))) (0 : Nat)))), D.ints IntKind.u8 (intsOf (fldOf (xs.getD (↑x.fst : Int).toNat (D.val (Value.bool false))) (1 : Nat))),
                                                                                         D.ints IntKind.u8 (intsOf (fldOf (xs.getD (↑x.fst : Int).toNat (D.val (Value.bool false))) (2 : Nat)))])) =
                                                                                     some
                                                                                      (Blk.fix
                                                                                       (D.st
                                                                                        [D.val (Value.int IntKind.i64 (numOf (fldOf (xs.getD (↑x.fst : Int).toNat (D.val (Value.bool false))) (0 : Nat)))), D.ints IntKind.u8 (intsOf (fldOf (xs.getD (↑x.fst : Int).toNat (D.val (Value.bool false))) (1 : Nat))),
                                                                                         D.ints IntKind.u8 (intsOf (fldOf (xs.getD (↑x.fst : Int).toNat (D.val (Value.bool false))) (2 : Nat)))])) ∧
                                                                                    some (Blk.fix (D.st [D.ints IntKind.u8 s, D.st [D.arr IntKind.u8 (32 : Nat) x.snd.fst, D.val (Value.int IntKind.i64 x.snd.snd)]])) =
                                                                                      some (Blk.fix (D.st [D.ints IntKind.u8 s, D.st [D.arr IntKind.u8 (32 : Nat) x.snd.fst, D.val (Value.int IntKind.i64 x.snd.snd)]])) ∧
                                                                                     True) ∧
                                                                                  true = true) ∧
                                                                                z.snd.fst = mk2 s z.fst (numOf (fldOf (xs.getD (↑x.fst : Int).toNat (D.val (Value.bool false))) (0 : Nat))) (intsOf (fldOf (xs.getD (↑x.fst : Int).toNat (D.val (Value.bool false))) (2 : Nat))) z.snd.fst ∧
                                                                                 z.snd.snd = lf2 z.fst (numOf (fldOf (xs.getD (↑x.fst : Int).toNat (D.val (Value.bool false))) (0 : Nat))) z.snd.snd) ∧
                                                                              ∀ (z_1 : List Int × Int),
                                                                               z_1.fst = mk2 s z.fst (numOf (fldOf (xs.getD (↑x.fst : Int).toNat (D.val (Value.bool false))) (0 : Nat))) (intsOf (fldOf (xs.getD (↑x.fst : Int).toNat (D.val (Value.bool false))) (2 : Nat))) z.snd.fst ∧
                                                                                 z_1.snd = lf2 z.fst (numOf (fldOf (xs.getD (↑x.fst : Int).toNat (D.val (Value.bool false))) (0 : Nat))) z.snd.snd →
                                                                                true = true ∧
                                                                                 (Sk.st [Sk.one, Sk.one, Sk.one] = Sk.st [Sk.one, Sk.one, Sk.one] ∧ (0 : Nat) < (3 : Nat)) ∧
                                                                                  ((1 : Nat) ≠ (0 : Nat) ∧ (1 : Nat) = (1 : Nat) ∧ false = false) ∧
                                                                                   True ∧
                                                                                    True ∧
                                                                                     (match numOf (fldOf (xs.getD (↑x.fst : Int).toNat (D.val (Value.bool false))) (0 : Nat)) == (2 : Int) with
                                                                                      | true =>
                                                                                       True ∧
                                                                                        (Sk.st [Sk.one, Sk.one, Sk.one] = Sk.st [Sk.one, Sk.one, Sk.one] ∧ (1 : Nat) < (3 : Nat)) ∧
                                                                                         ((1 : Nat) ≠ (0 : Nat) ∧ (1 : Nat) = (1 : Nat) ∧ false = false) ∧
                                                                                          (Sk.st [Sk.one, Sk.one, Sk.one] = Sk.st [Sk.one, Sk.one, Sk.one] ∧ (2 : Nat) < (3 : Nat)) ∧
                                                                                           ((1 : Nat) ≠ (0 : Nat) ∧ (1 : Nat) = (1 : Nat) ∧ false = false) ∧
                                                                                            (∃ (s_1 : List Int),
                                                                                              ∃ (m : List Int),
                                                                                               ∃ (n : Int),
                                                                                                ∃ (p : List Int),
                                                                                                 ∃ (q : List Int),
                                                                                                  [D.st [D.ints IntKind.u8 s, D.st [D.arr IntKind.u8 (32 : Nat) x.snd.fst, D.val (Value.int IntKind.i64 x.snd.snd)]],
                                                                                                     D.ints IntKind.u8 (intsOf (fldOf (xs.getD (↑x.fst : Int).toNat (D.val (Value.bool false))) (1 : Nat))),
                                                                                                     D.ints IntKind.u8 (intsOf (fldOf (xs.getD (↑x.fst : Int).toNat (D.val (Value.bool false))) (2 : Nat)))] =
                                                                                                    [D.st [D.ints IntKind.u8 s_1, D.st [D.arr IntKind.u8 (32 : Nat) m, D.val (Value.int IntKind.i64 n)]], D.ints IntKind.u8 p, D.ints IntKind.u8 q] ∧
                                                                                                   (isP s_1 ∧ isM m ∧ lfOk n) ∧ isP p ∧ isP q) ∧
                                                                                             True ∧
                                                                                              ((AV.d
                                                                                                   (D.val
                                                                                                    (Value.int IntKind.i64
                                                                                                     (chE s x.snd.fst x.snd.snd (intsOf (fldOf (xs.getD (↑x.fst : Int).toNat (D.val (Value.bool false))) (1 : Nat)))
                                                                                                      (intsOf (fldOf (xs.getD (↑x.fst : Int).toNat (D.val (Value.bool false))) (2 : Nat)))))) =
                                                                                                  AV.d
                                                                                                   (D.val
                                                                                                    (Value.int IntKind.i64
                                                                                                     (chE s x.snd.fst x.snd.snd (intsOf (fldOf (xs.getD (↑x.fst : Int).toNat (D.val (Value.bool false))) (1 : Nat)))
                                                                                                      (intsOf (fldOf (xs.getD (↑x.fst : Int).toNat (D.val (Value.bool false))) (2 : Nat)))))) ∧
                                                                                                 True) ∧
                                                                                                (some (Blk.fix (D.st [D.arr IntKind.u8 (32 : Nat) z_1.fst, D.val (Value.int IntKind.i64 z_1.snd)])) = some (Blk.fix (D.st [D.arr IntKind.u8 (32 : Nat) z_1.fst, D.val (Value.int IntKind.i64 z_1.snd)])) ∧
                                                                                                  some
                                                                                                     (Blk.fix
                                                                                                      (D.st
                                                                                                       [D.val (Value.int IntKind.i64 (numOf (fldOf (xs.getD (↑x.fst : Int).toNat (D.val (Value.bool false))) (0 : Nat)))),
                                                                                                        D.ints IntKind.u8 (intsOf (fldOf (xs.getD (↑x.fst : Int).toNat (D.val (Value.bool false))) (1 : Nat))),
                                                                                                        D.ints IntKind.u8 (intsOf (fldOf (xs.getD (↑x.fst : Int).toNat (D.val (Value.bool false))) (2 : Nat)))])) =
                                                                                                    some
                                                                                                     (Blk.fix
                                                                                                      (D.st
                                                                                                       [D.val (Value.int IntKind.i64 (numOf (fldOf (xs.getD (↑x.fst : Int).toNat (D.val (Value.bool false))) (0 : Nat)))),
                                                                                                        D.ints IntKind.u8 (intsOf (fldOf (xs.getD (↑x.fst : Int).toNat (D.val (Value.bool false))) (1 : Nat))),
                                                                                                        D.ints IntKind.u8 (intsOf (fldOf (xs.getD (↑x.fst : Int).toNat (D.val (Value.bool false))) (2 : Nat)))])) ∧
                                                                                                   some
                                                                                                      (Blk.fix
                                                                                                       (D.st
                                                                                                        [D.ints IntKind.u8 s,
                                                                                                         D.st
                                                                                                          [D.arr IntKind.u8 (32 : Nat)
                                                                                                            (chM s x.snd.fst x.snd.snd (intsOf (fldOf (xs.getD (↑x.fst : Int).toNat (D.val (Value.bool false))) (1 : Nat)))
                                                                                                             (intsOf (fldOf (xs.getD (↑x.fst : Int).toNat (D.val (Value.bool false))) (2 : Nat)))),
                                                                                                           D.val
                                                                                                            (Value.int IntKind.i64
                                                                                                             (chN s x.snd.fst x.snd.snd (intsOf (fldOf (xs.getD (↑x.fst : Int).toNat (D.val (Value.bool false))) (1 : Nat)))
                                                                                                              (intsOf (fldOf (xs.getD (↑x.fst : Int).toNat (D.val (Value.bool false))) (2 : Nat)))))]])) =
                                                                                                     some
                                                                                                      (Blk.fix
                                                                                                       (D.st
                                                                                                        [D.ints IntKind.u8 s,
                                                                                                         D.st
                                                                                                          [D.arr IntKind.u8 (32 : Nat)
                                                                                                            (chM s x.snd.fst x.snd.snd (intsOf (fldOf (xs.getD (↑x.fst : Int).toNat (D.val (Value.bool false))) (1 : Nat)))
                                                                                                             (intsOf (fldOf (xs.getD (↑x.fst : Int).toNat (D.val (Value.bool false))) (2 : Nat)))),
                                                                                                           D.val
                                                                                                            (Value.int IntKind.i64
                                                                                                             (chN s x.snd.fst x.snd.snd (intsOf (fldOf (xs.getD (↑x.fst : Int).toNat (D.val (Value.bool false))) (1 : Nat)))
                                                                                                              (intsOf (fldOf (xs.getD (↑x.fst : Int).toNat (D.val (Value.bool false))) (2 : Nat)))))]])) ∧
                                                                                                    True) ∧
                                                                                                 true = true) ∧
                                                                                               chE s x.snd.fst x.snd.snd (intsOf (fldOf (xs.getD (↑x.fst : Int).toNat (D.val (Value.bool false))) (1 : Nat))) (intsOf (fldOf (xs.getD (↑x.fst : Int).toNat (D.val (Value.bool false))) (2 : Nat))) = z.fst ∧
                                                                                                chM s x.snd.fst x.snd.snd (intsOf (fldOf (xs.getD (↑x.fst : Int).toNat (D.val (Value.bool false))) (1 : Nat))) (intsOf (fldOf (xs.getD (↑x.fst : Int).toNat (D.val (Value.bool false))) (2 : Nat))) = z_1.fst ∧
                                                                                                 chN s x.snd.fst x.snd.snd (intsOf (fldOf (xs.getD (↑x.fst : Int).toNat (D.val (Value.bool false))) (1 : Nat))) (intsOf (fldOf (xs.getD (↑x.fst : Int).toNat (D.val (Value.bool false))) (2 : Nat))) = z_1.snd
                                                                                      | false =>
                                                                                       True ∧
                                                                                        True ∧
                                                                                         match numOf (fldOf (xs.getD (↑x.fst : Int).toNat (D.val (Value.bool false))) (0 : Nat)) == (3 : Int) with
                                                                                         | true =>
                                                                                          True ∧
                                                                                           (Sk.st [Sk.one, Sk.one, Sk.one] = Sk.st [Sk.one, Sk.one, Sk.one] ∧ (2 : Nat) < (3 : Nat)) ∧
                                                                                            ((1 : Nat) ≠ (0 : Nat) ∧ (1 : Nat) = (1 : Nat) ∧ false = false) ∧
                                                                                             (∃ (s_1 : List Int),
                                                                                               ∃ (m : List Int),
                                                                                                ∃ (n : Int),
                                                                                                 ∃ (p : List Int),
                                                                                                  [D.st [D.ints IntKind.u8 s, D.st [D.arr IntKind.u8 (32 : Nat) x.snd.fst, D.val (Value.int IntKind.i64 x.snd.snd)]],
                                                                                                     D.ints IntKind.u8 (intsOf (fldOf (xs.getD (↑x.fst : Int).toNat (D.val (Value.bool false))) (2 : Nat)))] =
                                                                                                    [D.st [D.ints IntKind.u8 s_1, D.st [D.arr IntKind.u8 (32 : Nat) m, D.val (Value.int IntKind.i64 n)]], D.ints IntKind.u8 p] ∧
                                                                                                   (isP s_1 ∧ isM m ∧ lfOk n) ∧ isP p) ∧
                                                                                              True ∧
                                                                                               ((AV.d (D.val (Value.int IntKind.i64 (rpE (intsOf (fldOf (xs.getD (↑x.fst : Int).toNat (D.val (Value.bool false))) (2 : Nat)))))) =
                                                                                                   AV.d (D.val (Value.int IntKind.i64 (rpE (intsOf (fldOf (xs.getD (↑x.fst : Int).toNat (D.val (Value.bool false))) (2 : Nat)))))) ∧
                                                                                                  True) ∧
                                                                                                 (some (Blk.fix (D.st [D.arr IntKind.u8 (32 : Nat) z_1.fst, D.val (Value.int IntKind.i64 z_1.snd)])) = some (Blk.fix (D.st [D.arr IntKind.u8 (32 : Nat) z_1.fst, D.val (Value.int IntKind.i64 z_1.snd)])) ∧
                                                                                                   some
                                                                                                      (Blk.fix
                                                                                                       (D.st
                                                                                                        [D.val (Value.int IntKind.i64 (numOf (fldOf (xs.getD (↑x.fst : Int).toNat (D.val (Value.bool false))) (0 : Nat)))),
                                                                                                         D.ints IntKind.u8 (intsOf (fldOf (xs.getD (↑x.fst : Int).toNat (D.val (Value.bool false))) (1 : Nat))),
                                                                                                         D.ints IntKind.u8 (intsOf (fldOf (xs.getD (↑x.fst : Int).toNat (D.val (Value.bool false))) (2 : Nat)))])) =
                                                                                                     some
                                                                                                      (Blk.fix
                                                                                                       (D.st
                                                                                                        [D.val (Value.int IntKind.i64 (numOf (fldOf (xs.getD (↑x.fst : Int).toNat (D.val (Value.bool false))) (0 : Nat)))),
                                                                                                         D.ints IntKind.u8 (intsOf (fldOf (xs.getD (↑x.fst : Int).toNat (D.val (Value.bool false))) (1 : Nat))),
                                                                                                         D.ints IntKind.u8 (intsOf (fldOf (xs.getD (↑x.fst : Int).toNat (D.val (Value.bool false))) (2 : Nat)))])) ∧
                                                                                                    some
                                                                                                       (Blk.fix
                                                                                                        (D.st
                                                                                                         [D.ints IntKind.u8 s,
                                                                                                          D.st
                                                                                                           [D.arr IntKind.u8 (32 : Nat) (rpM s x.snd.fst (intsOf (fldOf (xs.getD (↑x.fst : Int).toNat (D.val (Value.bool false))) (2 : Nat)))),
                                                                                                            D.val (Value.int IntKind.i64 (rpN x.snd.snd (intsOf (fldOf (xs.getD (↑x.fst : Int).toNat (D.val (Value.bool false))) (2 : Nat)))))]])) =
                                                                                                      some
                                                                                                       (Blk.fix
                                                                                                        (D.st
                                                                                                         [D.ints IntKind.u8 s,
                                                                                                          D.st
                                                                                                           [D.arr IntKind.u8 (32 : Nat) (rpM s x.snd.fst (intsOf (fldOf (xs.getD (↑x.fst : Int).toNat (D.val (Value.bool false))) (2 : Nat)))),
                                                                                                            D.val (Value.int IntKind.i64 (rpN x.snd.snd (intsOf (fldOf (xs.getD (↑x.fst : Int).toNat (D.val (Value.bool false))) (2 : Nat)))))]])) ∧
                                                                                                     True) ∧
                                                                                                  true = true) ∧
                                                                                                rpE (intsOf (fldOf (xs.getD (↑x.fst : Int).toNat (D.val (Value.bool false))) (2 : Nat))) = z.fst ∧
                                                                                                 rpM s x.snd.fst (intsOf (fldOf (xs.getD (↑x.fst : Int).toNat (D.val (Value.bool false))) (2 : Nat))) = z_1.fst ∧
                                                                                                  rpN x.snd.snd (intsOf (fldOf (xs.getD (↑x.fst : Int).toNat (D.val (Value.bool false))) (2 : Nat))) = z_1.snd
                                                                                         | false =>
                                                                                          (Sk.st [Sk.one, Sk.one, Sk.one] = Sk.st [Sk.one, Sk.one, Sk.one] ∧ (0 : Nat) < (3 : Nat)) ∧
                                                                                           ((1 : Nat) ≠ (0 : Nat) ∧ (1 : Nat) = (1 : Nat) ∧ false = false) ∧
                                                                                            True ∧
                                                                                             match decide (numOf (fldOf (xs.getD (↑x.fst : Int).toNat (D.val (Value.bool false))) (0 : Nat)) > (3 : Int)) with
                                                                                             | true => True ∧ (false = false ∧ True) ∧ D.val (Value.bool true) = F
                                                                                             | false =>
                                                                                              True ∧
                                                                                               (Sk.st [Sk.one, Sk.one, Sk.one] = Sk.st [Sk.one, Sk.one, Sk.one] ∧ (1 : Nat) < (3 : Nat)) ∧
                                                                                                ((1 : Nat) ≠ (0 : Nat) ∧ (1 : Nat) = (1 : Nat) ∧ false = false) ∧
                                                                                                 (∃ (s_1 : List Int),
                                                                                                   ∃ (m : List Int),
                                                                                                    ∃ (n : Int),
                                                                                                     ∃ (p : List Int),
                                                                                                      [D.st [D.ints IntKind.u8 s, D.st [D.arr IntKind.u8 (32 : Nat) x.snd.fst, D.val (Value.int IntKind.i64 x.snd.snd)]],
                                                                                                         D.ints IntKind.u8 (intsOf (fldOf (xs.getD (↑x.fst : Int).toNat (D.val (Value.bool false))) (1 : Nat)))] =
                                                                                                        [D.st [D.ints IntKind.u8 s_1, D.st [D.arr IntKind.u8 (32 : Nat) m, D.val (Value.int IntKind.i64 n)]], D.ints IntKind.u8 p] ∧
                                                                                                       (isP s_1 ∧ isM m ∧ lfOk n) ∧ isP p) ∧
                                                                                                  True ∧
                                                                                                   ((AV.d (D.val (Value.int IntKind.i64 (tryE s x.snd.fst x.snd.snd (intsOf (fldOf (xs.getD (↑x.fst : Int).toNat (D.val (Value.bool false))) (1 : Nat)))))) =
                                                                                                       AV.d (D.val (Value.int IntKind.i64 (tryE s x.snd.fst x.snd.snd (intsOf (fldOf (xs.getD (↑x.fst : Int).toNat (D.val (Value.bool false))) (1 : Nat)))))) ∧
                                                                                                      True) ∧
                                                                                                     (some (Blk.fix (D.st [D.arr IntKind.u8 (32 : Nat) z_1.fst, D.val (Value.int IntKind.i64 z_1.snd)])) =
                                                                                                        some (Blk.fix (D.st [D.arr IntKind.u8 (32 : Nat) z_1.fst, D.val (Value.int IntKind.i64 z_1.snd)])) ∧
                                                                                                       some
                                                                                                          (Blk.fix
                                                                                                           (D.st
                                                                                                            [D.val (Value.int IntKind.i64 (numOf (fldOf (xs.getD (↑x.fst : Int).toNat (D.val (Value.bool false))) (0 : Nat)))),
                                                                                                             D.ints IntKind.u8 (intsOf (fldOf (xs.getD (↑x.fst : Int).toNat (D.val (Value.bool false))) (1 : Nat))),
                                                                                                             D.ints IntKind.u8 (intsOf (fldOf (xs.getD (↑x.fst : Int).toNat (D.val (Value.bool false))) (2 : Nat)))])) =
                                                                                                         some
                                                                                                          (Blk.fix
                                                                                                           (D.st
                                                                                                            [D.val (Value.int IntKind.i64 (numOf (fldOf (xs.getD (↑x.fst : Int).toNat (D.val (Value.bool false))) (0 : Nat)))),
                                                                                                             D.ints IntKind.u8 (intsOf (fldOf (xs.getD (↑x.fst : Int).toNat (D.val (Value.bool false))) (1 : Nat))),
                                                                                                             D.ints IntKind.u8 (intsOf (fldOf (xs.getD (↑x.fst : Int).toNat (D.val (Value.bool false))) (2 : Nat)))])) ∧
                                                                                                        some
                                                                                                           (Blk.fix
                                                                                                            (D.st
                                                                                                             [D.ints IntKind.u8 s,
                                                                                                              D.st
                                                                                                               [D.arr IntKind.u8 (32 : Nat) x.snd.fst,
                                                                                                                D.val (Value.int IntKind.i64 (tryN s x.snd.fst x.snd.snd (intsOf (fldOf (xs.getD (↑x.fst : Int).toNat (D.val (Value.bool false))) (1 : Nat)))))]])) =
                                                                                                          some
                                                                                                           (Blk.fix
                                                                                                            (D.st
                                                                                                             [D.ints IntKind.u8 s,
                                                                                                              D.st
                                                                                                               [D.arr IntKind.u8 (32 : Nat) x.snd.fst,
                                                                                                                D.val (Value.int IntKind.i64 (tryN s x.snd.fst x.snd.snd (intsOf (fldOf (xs.getD (↑x.fst : Int).toNat (D.val (Value.bool false))) (1 : Nat)))))]])) ∧
                                                                                                         True) ∧
                                                                                                      true = true) ∧
                                                                                                    tryE s x.snd.fst x.snd.snd (intsOf (fldOf (xs.getD (↑x.fst : Int).toNat (D.val (Value.bool false))) (1 : Nat))) = z.fst ∧
                                                                                                     x.snd.fst = z_1.fst ∧ tryN s x.snd.fst x.snd.snd (intsOf (fldOf (xs.getD (↑x.fst : Int).toNat (D.val (Value.bool false))) (1 : Nat))) = z_1.snd) ∧
                                                                                      ∀ (z_2 : Int × List Int × Int),
                                                                                       z_2.fst = z.fst ∧ z_2.snd.fst = z_1.fst ∧ z_2.snd.snd = z_1.snd →
                                                                                        true = true ∧
                                                                                         True ∧
                                                                                          True ∧
                                                                                           True ∧
                                                                                            True ∧
                                                                                             match z_2.fst != z.fst with
                                                                                             | true => True ∧ True ∧ True ∧ True ∧ (false = false ∧ True) ∧ D.val (Value.bool false) = F
                                                                                             | false =>
                                                                                              True ∧
                                                                                               (∃ (s_1 : List Int),
                                                                                                 ∃ (m : List Int),
                                                                                                  ∃ (n : Int),
                                                                                                   [(D.st [D.ints IntKind.u8 s, D.st [D.arr IntKind.u8 (32 : Nat) z_2.snd.fst, D.val (Value.int IntKind.i64 z_2.snd.snd)]]).ref] =
                                                                                                    [(D.st [D.ints IntKind.u8 s_1, D.st [D.arr IntKind.u8 (32 : Nat) m, D.val (Value.int IntKind.i64 n)]]).ref]) ∧
                                                                                                ((33 : Nat) ≠ (0 : Nat) ∧ (33 : Nat) = (33 : Nat) ∧ true = true) ∧
                                                                                                 (true = true ∧
                                                                                                   Sk.st [Sk.arr (32 : Nat), Sk.one] = Sk.st [Sk.arr (32 : Nat), Sk.one] ∧
                                                                                                    Sk.st [Sk.arr (32 : Nat), Sk.one] = Sk.st [Sk.arr (32 : Nat), Sk.one] ∧
                                                                                                     true = true ∧
                                                                                                      true = true ∧
                                                                                                       (IntKind.u8 = IntKind.u8 ∧ IntKind.u8 = IntKind.u8 ∧ (32 : Nat) = (32 : Nat) ∧ (32 : Nat) = (32 : Nat) ∧ (1 : Nat) = (1 : Nat)) ∧
                                                                                                        false = false ∧ false = false ∧ (IntKind.i64 = IntKind.i64 ∧ IntKind.i64 = IntKind.i64) ∧ True) ∧
                                                                                                  True ∧
                                                                                                   True ∧
                                                                                                    match !(eqB z_2.snd.fst z_1.fst && (z_2.snd.snd == z_1.snd && true)) with
                                                                                                    | true => True ∧ True ∧ (false = false ∧ True) ∧ D.val (Value.bool false) = F
                                                                                                    | false =>
                                                                                                     True ∧
                                                                                                      (∃ (s_1 : List Int),
                                                                                                        ∃ (m : List Int),
                                                                                                         ∃ (n : Int),
                                                                                                          [(D.st [D.ints IntKind.u8 s, D.st [D.arr IntKind.u8 (32 : Nat) z_2.snd.fst, D.val (Value.int IntKind.i64 z_2.snd.snd)]]).ref] =
                                                                                                           [(D.st [D.ints IntKind.u8 s_1, D.st [D.arr IntKind.u8 (32 : Nat) m, D.val (Value.int IntKind.i64 n)]]).ref]) ∧
                                                                                                       (Sk.st [Sk.arr (32 : Nat), Sk.one] = Sk.st [Sk.arr (32 : Nat), Sk.one] ∧ (1 : Nat) < (2 : Nat)) ∧
                                                                                                        ((1 : Nat) ≠ (0 : Nat) ∧ (1 : Nat) = (1 : Nat) ∧ false = false) ∧
                                                                                                         True ∧
                                                                                                          True ∧
                                                                                                           match z_2.snd.snd != z_1.snd with
                                                                                                           | true => True ∧ (false = false ∧ True) ∧ D.val (Value.bool false) = F
                                                                                                           | false =>
                                                                                                            True ∧
                                                                                                             True ∧
                                                                                                              ((AV.d (D.val (Value.int IntKind.i64 (IntKind.i64.wrap ((↑x.fst : Int) + (1 : Int))))) =
                                                                                                                  AV.d (D.val (Value.int IntKind.i64 (↑(IntKind.i64.wrap ((↑x.fst : Int) + (1 : Int))).toNat : Int))) ∧
                                                                                                                 True) ∧
                                                                                                                (some (Blk.fix (D.st [D.arr IntKind.u8 (32 : Nat) z_1.fst, D.val (Value.int IntKind.i64 z_1.snd)])) =
                                                                                                                   some (Blk.fix (D.st [D.arr IntKind.u8 (32 : Nat) z_1.fst, D.val (Value.int IntKind.i64 z_1.snd)])) ∧
                                                                                                                  some (Blk.fix (D.st [D.ints IntKind.u8 s, D.st [D.arr IntKind.u8 (32 : Nat) z_2.snd.fst, D.val (Value.int IntKind.i64 z_2.snd.snd)]])) =
                                                                                                                    some (Blk.fix (D.st [D.ints IntKind.u8 s, D.st [D.arr IntKind.u8 (32 : Nat) z_1.fst, D.val (Value.int IntKind.i64 z_1.snd)]])) ∧
                                                                                                                   True) ∧
                                                                                                                 true = true) ∧
                                                                                                               ((IntKind.i64.wrap ((↑x.fst : Int) + (1 : Int))).toNat ≤ xs.length ∧ isM z_1.fst ∧ lfOk z_1.snd) ∧
                                                                                                                xs.length - (IntKind.i64.wrap ((↑x.fst : Int) + (1 : Int))).toNat < xs.length - x.fst
                                                                        | false =>
                                                                         True ∧
                                                                          ((True ∧
                                                                             (some (Blk.fix (D.st [D.arr IntKind.u8 (32 : Nat) z.snd.fst, D.val (Value.int IntKind.i64 z.snd.snd)])) = some (Blk.fix (D.st [D.arr IntKind.u8 (32 : Nat) z.snd.fst, D.val (Value.int IntKind.i64 z.snd.snd)])) ∧
                                                                               some
                                                                                  (Blk.fix
                                                                                   (D.st
                                                                                    [D.val (Value.int IntKind.i64 (numOf (fldOf (xs.getD (↑x.fst : Int).toNat (D.val (Value.bool false))) (0 : Nat)))), D.ints IntKind.u8 (intsOf (fldOf (xs.getD (↑x.fst : Int).toNat (D.val (Value.bool false))) (1 : Nat))),
                                                                                     D.ints IntKind.u8 (intsOf (fldOf (xs.getD (↑x.fst : Int).toNat (D.val (Value.bool false))) (2 : Nat)))])) =
                                                                                 some
                                                                                  (Blk.fix
                                                                                   (D.st
                                                                                    [D.val (Value.int IntKind.i64 (numOf (fldOf (xs.getD (↑x.fst : Int).toNat (D.val (Value.bool false))) (0 : Nat)))), D.ints IntKind.u8 (intsOf (fldOf (xs.getD (↑x.fst : Int).toNat (D.val (Value.bool false))) (1 : Nat))),
                                                                                     D.ints IntKind.u8 (intsOf (fldOf (xs.getD (↑x.fst : Int).toNat (D.val (Value.bool false))) (2 : Nat)))])) ∧
                                                                                some (Blk.fix (D.st [D.ints IntKind.u8 s, D.st [D.arr IntKind.u8 (32 : Nat) x.snd.fst, D.val (Value.int IntKind.i64 x.snd.snd)]])) =
                                                                                  some (Blk.fix (D.st [D.ints IntKind.u8 s, D.st [D.arr IntKind.u8 (32 : Nat) x.snd.fst, D.val (Value.int IntKind.i64 x.snd.snd)]])) ∧
                                                                                 True) ∧
                                                                              true = true) ∧
                                                                            z.snd.fst = mk2 s z.fst (numOf (fldOf (xs.getD (↑x.fst : Int).toNat (D.val (Value.bool false))) (0 : Nat))) (intsOf (fldOf (xs.getD (↑x.fst : Int).toNat (D.val (Value.bool false))) (2 : Nat))) z.snd.fst ∧
                                                                             z.snd.snd = lf2 z.fst (numOf (fldOf (xs.getD (↑x.fst : Int).toNat (D.val (Value.bool false))) (0 : Nat))) z.snd.snd) ∧
                                                                           ∀ (z_1 : List Int × Int),
                                                                            z_1.fst = mk2 s z.fst (numOf (fldOf (xs.getD (↑x.fst : Int).toNat (D.val (Value.bool false))) (0 : Nat))) (intsOf (fldOf (xs.getD (↑x.fst : Int).toNat (D.val (Value.bool false))) (2 : Nat))) z.snd.fst ∧
                                                                              z_1.snd = lf2 z.fst (numOf (fldOf (xs.getD (↑x.fst : Int).toNat (D.val (Value.bool false))) (0 : Nat))) z.snd.snd →
                                                                             true = true ∧
                                                                              (Sk.st [Sk.one, Sk.one, Sk.one] = Sk.st [Sk.one, Sk.one, Sk.one] ∧ (0 : Nat) < (3 : Nat)) ∧
                                                                               ((1 : Nat) ≠ (0 : Nat) ∧ (1 : Nat) = (1 : Nat) ∧ false = false) ∧
                                                                                True ∧
                                                                                 True ∧
                                                                                  (match numOf (fldOf (xs.getD (↑x.fst : Int).toNat (D.val (Value.bool false))) (0 : Nat)) == (2 : Int) with
                                                                                   | true =>
                                                                                    True ∧
                                                                                     (Sk.st [Sk.one, Sk.one, Sk.one] = Sk.st [Sk.one, Sk.one, Sk.one] ∧ (1 : Nat) < (3 : Nat)) ∧
                                                                                      ((1 : Nat) ≠ (0 : Nat) ∧ (1 : Nat) = (1 : Nat) ∧ false = false) ∧
                                                                                       (Sk.st [Sk.one, Sk.one, Sk.one] = Sk.st [Sk.one, Sk.one, Sk.one] ∧ (2 : Nat) < (3 : Nat)) ∧
                                                                                        ((1 : Nat) ≠ (0 : Nat) ∧ (1 : Nat) = (1 : Nat) ∧ false = false) ∧
                                                                                         (∃ (s_1 : List Int),
                                                                                           ∃ (m : List Int),
                                                                                            ∃ (n : Int),
                                                                                             ∃ (p : List Int),
                                                                                              ∃ (q : List Int),
                                                                                               [D.st [D.ints IntKind.u8 s, D.st [D.arr IntKind.u8 (32 : Nat) x.snd.fst, D.val (Value.int IntKind.i64 x.snd.snd)]],
                                                                                                  D.ints IntKind.u8 (intsOf (fldOf (xs.getD (↑x.fst : Int).toNat (D.val (Value.bool false))) (1 : Nat))),
                                                                                                  D.ints IntKind.u8 (intsOf (fldOf (xs.getD (↑x.fst : Int).toNat (D.val (Value.bool false))) (2 : Nat)))] =
                                                                                                 [D.st [D.ints IntKind.u8 s_1, D.st [D.arr IntKind.u8 (32 : Nat) m, D.val (Value.int IntKind.i64 n)]], D.ints IntKind.u8 p, D.ints IntKind.u8 q] ∧
                                                                                                (isP s_1 ∧ isM m ∧ lfOk n) ∧ isP p ∧ isP q) ∧
                                                                                          True ∧
                                                                                           ((AV.d
                                                                                                (D.val
                                                                                                 (Value.int IntKind.i64
                                                                                                  (chE s x.snd.fst x.snd.snd (intsOf (fldOf (xs.getD (↑x.fst : Int).toNat (D.val (Value.bool false))) (1 : Nat))) (intsOf (fldOf (xs.getD (↑x.fst : Int).toNat (D.val (Value.bool false))) (2 : Nat)))))) =
                                                                                               AV.d
                                                                                                (D.val
                                                                                                 (Value.int IntKind.i64
                                                                                                  (chE s x.snd.fst x.snd.snd (intsOf (fldOf (xs.getD (↑x.fst : Int).toNat (D.val (Value.bool false))) (1 : Nat))) (intsOf (fldOf (xs.getD (↑x.fst : Int).toNat (D.val (Value.bool false))) (2 : Nat)))))) ∧
                                                                                              True) ∧
                                                                                             (some (Blk.fix (D.st [D.arr IntKind.u8 (32 : Nat) z_1.fst, D.val (Value.int IntKind.i64 z_1.snd)])) = some (Blk.fix (D.st [D.arr IntKind.u8 (32 : Nat) z_1.fst, D.val (Value.int IntKind.i64 z_1.snd)])) ∧
                                                                                               some
                                                                                                  (Blk.fix
                                                                                                   (D.st
                                                                                                    [D.val (Value.int IntKind.i64 (numOf (fldOf (xs.getD (↑x.fst : Int).toNat (D.val (Value.bool false))) (0 : Nat)))),
                                                                                                     D.ints IntKind.u8 (intsOf (fldOf (xs.getD (↑x.fst : Int).toNat (D.val (Value.bool false))) (1 : Nat))),
                                                                                                     D.ints IntKind.u8 (intsOf (fldOf (xs.getD (↑x.fst : Int).toNat (D.val (Value.bool false))) (2 : Nat)))])) =
                                                                                                 some
                                                                                                  (Blk.fix
                                                                                                   (D.st
                                                                                                    [D.val (Value.int IntKind.i64 (numOf (fldOf (xs.getD (↑x.fst : Int).toNat (D.val (Value.bool false))) (0 : Nat)))),
                                                                                                     D.ints IntKind.u8 (intsOf (fldOf (xs.getD (↑x.fst : Int).toNat (D.val (Value.bool false))) (1 : Nat))),
                                                                                                     D.ints IntKind.u8 (intsOf (fldOf (xs.getD (↑x.fst : Int).toNat (D.val (Value.bool false))) (2 : Nat)))])) ∧
                                                                                                some
                                                                                                   (Blk.fix
                                                                                                    (D.st
                                                                                                     [D.ints IntKind.u8 s,
                                                                                                      D.st
                                                                                                       [D.arr IntKind.u8 (32 : Nat)
                                                                                                         (chM s x.snd.fst x.snd.snd (intsOf (fldOf (xs.getD (↑x.fst : Int).toNat (D.val (Value.bool false))) (1 : Nat)))
                                                                                                          (intsOf (fldOf (xs.getD (↑x.fst : Int).toNat (D.val (Value.bool false))) (2 : Nat)))),
                                                                                                        D.val
                                                                                                         (Value.int IntKind.i64
                                                                                                          (chN s x.snd.fst x.snd.snd (intsOf (fldOf (xs.getD (↑x.fst : Int).toNat (D.val (Value.bool false))) (1 : Nat)))
                                                                                                           (intsOf (fldOf (xs.getD (↑x.fst : Int).toNat (D.val (Value.bool false))) (2 : Nat)))))]])) =
                                                                                                  some
                                                                                                   (Blk.fix
                                                                                                    (D.st
                                                                                                     [D.ints IntKind.u8 s,
                                                                                                      D.st
                                                                                                       [D.arr IntKind.u8 (32 : Nat)
                                                                                                         (chM s x.snd.fst x.snd.snd (intsOf (fldOf (xs.getD (↑x.fst : Int).toNat (D.val (Value.bool false))) (1 : Nat)))
                                                                                                          (intsOf (fldOf (xs.getD (↑x.fst : Int).toNat (D.val (Value.bool false))) (2 : Nat)))),
                                                                                                        D.val
                                                                                                         (Value.int IntKind.i64
                                                                                                          (chN s x.snd.fst x.snd.snd (intsOf (fldOf (xs.getD (↑x.fst : Int).toNat (D.val (Value.bool false))) (1 : Nat)))
                                                                                                           (intsOf (fldOf (xs.getD (↑x.fst : Int).toNat (D.val (Value.bool false))) (2 : Nat)))))]])) ∧
                                                                                                 True) ∧
                                                                                              true = true) ∧
                                                                                            chE s x.snd.fst x.snd.snd (intsOf (fldOf (xs.getD (↑x.fst : Int).toNat (D.val (Value.bool false))) (1 : Nat))) (intsOf (fldOf (xs.getD (↑x.fst : Int).toNat (D.val (Value.bool false))) (2 : Nat))) = z.fst ∧
                                                                                             chM s x.snd.fst x.snd.snd (intsOf (fldOf (xs.getD (↑x.fst : Int).toNat (D.val (Value.bool false))) (1 : Nat))) (intsOf (fldOf (xs.getD (↑x.fst : Int).toNat (D.val (Value.bool false))) (2 : Nat))) = z_1.fst ∧
                                                                                              chN s x.snd.fst x.snd.snd (intsOf (fldOf (xs.getD (↑x.fst : Int).toNat (D.val (Value.bool false))) (1 : Nat))) (intsOf (fldOf (xs.getD (↑x.fst : Int).toNat (D.val (Value.bool false))) (2 : Nat))) = z_1.snd
                                                                                   | false =>
                                                                                    True ∧
                                                                                     True ∧
                                                                                      match numOf (fldOf (xs.getD (↑x.fst : Int).toNat (D.val (Value.bool false))) (0 : Nat)) == (3 : Int) with
                                                                                      | true =>
                                                                                       True ∧
                                                                                        (Sk.st [Sk.one, Sk.one, Sk.one] = Sk.st [Sk.one, Sk.one, Sk.one] ∧ (2 : Nat) < (3 : Nat)) ∧
                                                                                         ((1 : Nat) ≠ (0 : Nat) ∧ (1 : Nat) = (1 : Nat) ∧ false = false) ∧
                                                                                          (∃ (s_1 : List Int),
                                                                                            ∃ (m : List Int),
                                                                                             ∃ (n : Int),
                                                                                              ∃ (p : List Int),
                                                                                               [D.st [D.ints IntKind.u8 s, D.st [D.arr IntKind.u8 (32 : Nat) x.snd.fst, D.val (Value.int IntKind.i64 x.snd.snd)]],
                                                                                                  D.ints IntKind.u8 (intsOf (fldOf (xs.getD (↑x.fst : Int).toNat (D.val (Value.bool false))) (2 : Nat)))] =
                                                                                                 [D.st [D.ints IntKind.u8 s_1, D.st [D.arr IntKind.u8 (32 : Nat) m, D.val (Value.int IntKind.i64 n)]], D.ints IntKind.u8 p] ∧
                                                                                                (isP s_1 ∧ isM m ∧ lfOk n) ∧ isP p) ∧
                                                                                           True ∧
                                                                                            ((AV.d (D.val (Value.int IntKind.i64 (rpE (intsOf (fldOf (xs.getD (↑x.fst : Int).toNat (D.val (Value.bool false))) (2 : Nat)))))) =
                                                                                                AV.d (D.val (Value.int IntKind.i64 (rpE (intsOf (fldOf (xs.getD (↑x.fst : Int).toNat (D.val (Value.bool false))) (2 : Nat)))))) ∧
                                                                                               True) ∧
                                                                                              (some (Blk.fix (D.st [D.arr IntKind.u8 (32 : Nat) z_1.fst, D.val (Value.int IntKind.i64 z_1.snd)])) = some (Blk.fix (D.st [D.arr IntKind.u8 (32 : Nat) z_1.fst, D.val (Value.int IntKind.i64 z_1.snd)])) ∧
                                                                                                some
                                                                                                   (Blk.fix
                                                                                                    (D.st
                                                                                                     [D.val (Value.int IntKind.i64 (numOf (fldOf (xs.getD (↑x.fst : Int).toNat (D.val (Value.bool false))) (0 : Nat)))),
                                                                                                      D.ints IntKind.u8 (intsOf (fldOf (xs.getD (↑x.fst : Int).toNat (D.val (Value.bool false))) (1 : Nat))),
                                                                                                      D.ints IntKind.u8 (intsOf (fldOf (xs.getD (↑x.fst : Int).toNat (D.val (Value.bool false))) (2 : Nat)))])) =
                                                                                                  some
                                                                                                   (Blk.fix
                                                                                                    (D.st
                                                                                                     [D.val (Value.int IntKind.i64 (numOf (fldOf (xs.getD (↑x.fst : Int).toNat (D.val (Value.bool false))) (0 : Nat)))),
                                                                                                      D.ints IntKind.u8 (intsOf (fldOf (xs.getD (↑x.fst : Int).toNat (D.val (Value.bool false))) (1 : Nat))),
                                                                                                      D.ints IntKind.u8 (intsOf (fldOf (xs.getD (↑x.fst : Int).toNat (D.val (Value.bool false))) (2 : Nat)))])) ∧
                                                                                                 some
                                                                                                    (Blk.fix
                                                                                                     (D.st
                                                                                                      [D.ints IntKind.u8 s,
                                                                                                       D.st
                                                                                                        [D.arr IntKind.u8 (32 : Nat) (rpM s x.snd.fst (intsOf (fldOf (xs.getD (↑x.fst : Int).toNat (D.val (Value.bool false))) (2 : Nat)))),
                                                                                                         D.val (Value.int IntKind.i64 (rpN x.snd.snd (intsOf (fldOf (xs.getD (↑x.fst : Int).toNat (D.val (Value.bool false))) (2 : Nat)))))]])) =
                                                                                                   some
                                                                                                    (Blk.fix
                                                                                                     (D.st
                                                                                                      [D.ints IntKind.u8 s,
                                                                                                       D.st
                                                                                                        [D.arr IntKind.u8 (32 : Nat) (rpM s x.snd.fst (intsOf (fldOf (xs.getD (↑x.fst : Int).toNat (D.val (Value.bool false))) (2 : Nat)))),
                                                                                                         D.val (Value.int IntKind.i64 (rpN x.snd.snd (intsOf (fldOf (xs.getD (↑x.fst : Int).toNat (D.val (Value.bool false))) (2 : Nat)))))]])) ∧
                                                                                                  True) ∧
                                                                                               true = true) ∧
                                                                                             rpE (intsOf (fldOf (xs.getD (↑x.fst : Int).toNat (D.val (Value.bool false))) (2 : Nat))) = z.fst ∧
                                                                                              rpM s x.snd.fst (intsOf (fldOf (xs.getD (↑x.fst : Int).toNat (D.val (Value.bool false))) (2 : Nat))) = z_1.fst ∧
                                                                                               rpN x.snd.snd (intsOf (fldOf (xs.getD (↑x.fst : Int).toNat (D.val (Value.bool false))) (2 : Nat))) = z_1.snd
                                                                                      | false =>
                                                                                       (Sk.st [Sk.one, Sk.one, Sk.one] = Sk.st [Sk.one, Sk.one, Sk.one] ∧ (0 : Nat) < (3 : Nat)) ∧
                                                                                        ((1 : Nat) ≠ (0 : Nat) ∧ (1 : Nat) = (1 : Nat) ∧ false = false) ∧
                                                                                         True ∧
                                                                                          match decide (numOf (fldOf (xs.getD (↑x.fst : Int).toNat (D.val (Value.bool false))) (0 : Nat)) > (3 : Int)) with
                                                                                          | true => True ∧ (false = false ∧ True) ∧ D.val (Value.bool true) = F
                                                                                          | false =>
                                                                                           True ∧
                                                                                            (Sk.st [Sk.one, Sk.one, Sk.one] = Sk.st [Sk.one, Sk.one, Sk.one] ∧ (1 : Nat) < (3 : Nat)) ∧
                                                                                             ((1 : Nat) ≠ (0 : Nat) ∧ (1 : Nat) = (1 : Nat) ∧ false = false) ∧
                                                                                              (∃ (s_1 : List Int),
                                                                                                ∃ (m : List Int),
                                                                                                 ∃ (n : Int),
                                                                                                  ∃ (p : List Int),
                                                                                                   [D.st [D.ints IntKind.u8 s, D.st [D.arr IntKind.u8 (32 : Nat) x.snd.fst, D.val (Value.int IntKind.i64 x.snd.snd)]],
                                                                                                      D.ints IntKind.u8 (intsOf (fldOf (xs.getD (↑x.fst : Int).toNat (D.val (Value.bool false))) (1 : Nat)))] =
                                                                                                     [D.st [D.ints IntKind.u8 s_1, D.st [D.arr IntKind.u8 (32 : Nat) m, D.val (Value.int IntKind.i64 n)]], D.ints IntKind.u8 p] ∧
                                                                                                    (isP s_1 ∧ isM m ∧ lfOk n) ∧ isP p) ∧
                                                                                               True ∧
                                                                                                ((AV.d (D.val (Value.int IntKind.i64 (tryE s x.snd.fst x.snd.snd (intsOf (fldOf (xs.getD (↑x.fst : Int).toNat (D.val (Value.bool false))) (1 : Nat)))))) =
                                                                                                    AV.d (D.val (Value.int IntKind.i64 (tryE s x.snd.fst x.snd.snd (intsOf (fldOf (xs.getD (↑x.fst : Int).toNat (D.val (Value.bool false))) (1 : Nat)))))) ∧
                                                                                                   True) ∧
                                                                                                  (some (Blk.fix (D.st [D.arr IntKind.u8 (32 : Nat) z_1.fst, D.val (Value.int IntKind.i64 z_1.snd)])) = some (Blk.fix (D.st [D.arr IntKind.u8 (32 : Nat) z_1.fst, D.val (Value.int IntKind.i64 z_1.snd)])) ∧
                                                                                                    some
                                                                                                       (Blk.fix
                                                                                                        (D.st
                                                                                                         [D.val (Value.int IntKind.i64 (numOf (fldOf (xs.getD (↑x.fst : Int).toNat (D.val (Value.bool false))) (0 : Nat)))),
                                                                                                          D.ints IntKind.u8 (intsOf (fldOf (xs.getD (↑x.fst : Int).toNat (D.val (Value.bool false))) (1 : Nat))),
                                                                                                          D.ints IntKind.u8 (intsOf (fldOf (xs.getD (↑x.fst : Int).toNat (D.val (Value.bool false))) (2 : Nat)))])) =
                                                                                                      some
                                                                                                       (Blk.fix
                                                                                                        (D.st
                                                                                                         [D.val (Value.int IntKind.i64 (numOf (fldOf (xs.getD (↑x.fst : Int).toNat (D.val (Value.bool false))) (0 : Nat)))),
                                                                                                          D.ints IntKind.u8 (intsOf (fldOf (xs.getD (↑x.fst : Int).toNat (D.val (Value.bool false))) (1 : Nat))),
                                                                                                          D.ints IntKind.u8 (intsOf (fldOf (xs.getD (↑x.fst : Int).toNat (D.val (Value.bool false))) (2 : Nat)))])) ∧
                                                                                                     some
                                                                                                        (Blk.fix
                                                                                                         (D.st
                                                                                                          [D.ints IntKind.u8 s,
                                                                                                           D.st
                                                                                                            [D.arr IntKind.u8 (32 : Nat) x.snd.fst,
                                                                                                             D.val (Value.int IntKind.i64 (tryN s x.snd.fst x.snd.snd (intsOf (fldOf (xs.getD (↑x.fst : Int).toNat (D.val (Value.bool false))) (1 : Nat)))))]])) =
                                                                                                       some
                                                                                                        (Blk.fix
                                                                                                         (D.st
                                                                                                          [D.ints IntKind.u8 s,
                                                                                                           D.st
                                                                                                            [D.arr IntKind.u8 (32 : Nat) x.snd.fst,
                                                                                                             D.val (Value.int IntKind.i64 (tryN s x.snd.fst x.snd.snd (intsOf (fldOf (xs.getD (↑x.fst : Int).toNat (D.val (Value.bool false))) (1 : Nat)))))]])) ∧
                                                                                                      True) ∧
                                                                                                   true = true) ∧
                                                                                                 tryE s x.snd.fst x.snd.snd (intsOf (fldOf (xs.getD (↑x.fst : Int).toNat (D.val (Value.bool false))) (1 : Nat))) = z.fst ∧
                                                                                                  x.snd.fst = z_1.fst ∧ tryN s x.snd.fst x.snd.snd (intsOf (fldOf (xs.getD (↑x.fst : Int).toNat (D.val (Value.bool false))) (1 : Nat))) = z_1.snd) ∧
                                                                                   ∀ (z_2 : Int × List Int × Int),
                                                                                    z_2.fst = z.fst ∧ z_2.snd.fst = z_1.fst ∧ z_2.snd.snd = z_1.snd →
                                                                                     true = true ∧
                                                                                      True ∧
                                                                                       True ∧
                                                                                        True ∧
                                                                                         True ∧
                                                                                          match z_2.fst != z.fst with
                                                                                          | true => True ∧ True ∧ True ∧ True ∧ (false = false ∧ True) ∧ D.val (Value.bool false) = F
                                                                                          | false =>
                                                                                           True ∧
                                                                                            (∃ (s_1 : List Int),
                                                                                              ∃ (m : List Int),
                                                                                               ∃ (n : Int),
                                                                                                [(D.st [D.ints IntKind.u8 s, D.st [D.arr IntKind.u8 (32 : Nat) z_2.snd.fst, D.val (Value.int IntKind.i64 z_2.snd.snd)]]).ref] =
                                                                                                 [(D.st [D.ints IntKind.u8 s_1, D.st [D.arr IntKind.u8 (32 : Nat) m, D.val (Value.int IntKind.i64 n)]]).ref]) ∧
                                                                                             ((33 : Nat) ≠ (0 : Nat) ∧ (33 : Nat) = (33 : Nat) ∧ true = true) ∧
                                                                                              (true = true ∧
                                                                                                Sk.st [Sk.arr (32 : Nat), Sk.one] = Sk.st [Sk.arr (32 : Nat), Sk.one] ∧
                                                                                                 Sk.st [Sk.arr (32 : Nat), Sk.one] = Sk.st [Sk.arr (32 : Nat), Sk.one] ∧
                                                                                                  true = true ∧
                                                                                                   true = true ∧
                                                                                                    (IntKind.u8 = IntKind.u8 ∧ IntKind.u8 = IntKind.u8 ∧ (32 : Nat) = (32 : Nat) ∧ (32 : Nat) = (32 : Nat) ∧ (1 : Nat) = (1 : Nat)) ∧
                                                                                                     false = false ∧ false = false ∧ (IntKind.i64 = IntKind.i64 ∧ IntKind.i64 = IntKind.i64) ∧ True) ∧
                                                                                               True ∧
                                                                                                True ∧
                                                                                                 match !(eqB z_2.snd.fst z_1.fst && (z_2.snd.snd == z_1.snd && true)) with
                                                                                                 | true => True ∧ True ∧ (false = false ∧ True) ∧ D.val (Value.bool false) = F
                                                                                                 | false =>
                                                                                                  True ∧
                                                                                                   (∃ (s_1 : List Int),
                                                                                                     ∃ (m : List Int),
                                                                                                      ∃ (n : Int),
                                                                                                       [(D.st [D.ints IntKind.u8 s, D.st [D.arr IntKind.u8 (32 : Nat) z_2.snd.fst, D.val (Value.int IntKind.i64 z_2.snd.snd)]]).ref] =
                                                                                                        [(D.st [D.ints IntKind.u8 s_1, D.st [D.arr IntKind.u8 (32 : Nat) m, D.val (Value.int IntKind.i64 n)]]).ref]) ∧
                                                                                                    (Sk.st [Sk.arr (32 : Nat), Sk.one] = Sk.st [Sk.arr (32 : Nat), Sk.one] ∧ (1 : Nat) < (2 : Nat)) ∧
                                                                                                     ((1 : Nat) ≠ (0 : Nat) ∧ (1 : Nat) = (1 : Nat) ∧ false = false) ∧
                                                                                                      True ∧
                                                                                                       True ∧
                                                                                                        match z_2.snd.snd != z_1.snd with
                                                                                                        | true => True ∧ (false = false ∧ True) ∧ D.val (Value.bool false) = F
                                                                                                        | false =>
                                                                                                         True ∧
                                                                                                          True ∧
                                                                                                           ((AV.d (D.val (Value.int IntKind.i64 (IntKind.i64.wrap ((↑x.fst : Int) + (1 : Int))))) =
                                                                                                               AV.d (D.val (Value.int IntKind.i64 (↑(IntKind.i64.wrap ((↑x.fst : Int) + (1 : Int))).toNat : Int))) ∧
                                                                                                              True) ∧
                                                                                                             (some (Blk.fix (D.st [D.arr IntKind.u8 (32 : Nat) z_1.fst, D.val (Value.int IntKind.i64 z_1.snd)])) =
                                                                                                                some (Blk.fix (D.st [D.arr IntKind.u8 (32 : Nat) z_1.fst, D.val (Value.int IntKind.i64 z_1.snd)])) ∧
                                                                                                               some (Blk.fix (D.st [D.ints IntKind.u8 s, D.st [D.arr IntKind.u8 (32 : Nat) z_2.snd.fst, D.val (Value.int IntKind.i64 z_2.snd.snd)]])) =
                                                                                                                 some (Blk.fix (D.st [D.ints IntKind.u8 s, D.st [D.arr IntKind.u8 (32 : Nat) z_1.fst, D.val (Value.int IntKind.i64 z_1.snd)]])) ∧
                                                                                                                True) ∧
                                                                                                              true = true) ∧
                                                                                                            ((IntKind.i64.wrap ((↑x.fst : Int) + (1 : Int))).toNat ≤ xs.length ∧ isM z_1.fst ∧ lfOk z_1.snd) ∧ xs.length - (IntKind.i64.wrap ((↑x.fst : Int) + (1 : Int))).toNat < xs.length - x.fst
                                                     | false => True ∧ (false = false ∧ True) ∧ D.val (Value.bool true) = F) := by kernel_rfl
end Go.Proofs.YtkicjckhkefnpaaDoor
