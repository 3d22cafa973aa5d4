import Derived.Test.YtcdjhhepgkcabaaQ3
/- QuotTells, part 4: DivMod, Mod and Gcd: specs. -/
namespace Go.Proofs.Ytcdjhhepgkcabaa
open Go Go.Vg

def dvq (A M : Nat) : Nat := A / M
def dvr (A M : Nat) : Nat := if M = 0 then 0 else A % M
def dve (M : Nat) : Nat := if M = 0 then 1 else 0
abbrev i64n (n : Nat) : D := .val (.int .i64 (n : Int))

def sp52 : Go.Vg.Spec := ⟨fun ds => ∃ a m, ds = [num8 a, num4 m] ∧ (okw a ∧ a.length = 8) ∧ okw m ∧ m.length = 4,
  fun ds => .tup [num8 (nB 18446744073709551616 8 (dvq (wv (arrOf (ds.headD default))) (wv (arrOf (ds.getD 1 default))))), num4 (nB 18446744073709551616 4 (dvr (wv (arrOf (ds.headD default))) (wv (arrOf (ds.getD 1 default))))), i64n (dve (wv (arrOf (ds.getD 1 default))))], true, [48, 42]⟩
def sp53 : Go.Vg.Spec := ⟨fun ds => ∃ a m, ds = [num8 a, num4 m] ∧ (okw a ∧ a.length = 8) ∧ okw m ∧ m.length = 4,
  fun ds => .tup [num4 (nB 18446744073709551616 4 (dvr (wv (arrOf (ds.headD default))) (wv (arrOf (ds.getD 1 default))))), i64n (dve (wv (arrOf (ds.getD 1 default))))], true, [48, 42]⟩
def sp54 : Go.Vg.Spec := ⟨fun ds => ∃ l m, ds = [num4 l, num4 m] ∧ (okw l ∧ l.length = 4) ∧ okw m ∧ m.length = 4,
  fun ds => num4 (nB 18446744073709551616 4 (Nat.gcd (wv (arrOf (ds.headD default))) (wv (arrOf (ds.getD 1 default))))), true, [42, 42]⟩

def c52 : Ctx := ⟨tab, lkS [(71, sp71), (72, sp72)], [], [200004, 200005, 200007, 200008]⟩
def c53 : Ctx := ⟨tab, lkS [(52, sp52)], [], []⟩
def c54 : Ctx := ⟨tab, lkS [(71, sp71), (72, sp72), (73, sp73)], [], []⟩
def inv52 (a m : List Int) : Nat → Option Inv
  | 6 => some ⟨Nat, fun j => [(9, .d (.val (.int .i64 ((j : Int) - 1))))], fun j => [(8, .fix (num4 (nB 18446744073709551616 4 (wv a / 2 ^ j % wv m)))), (7, .fix (num8 (nB 18446744073709551616 8 (wv a / 2 ^ j / wv m * 2 ^ j))))], fun s => (slotN s 9 + 1).toNat, fun _ j => j ≤ 512, fun j => j⟩
  | _ => none
abbrev W4 : Nat := 115792089237316195423570985008687907853269984665640564039457584007913129639936
def inv54 (l m : List Int) : Nat → Option Inv
  | 7 => some ⟨Nat × Nat × Nat, fun z => [(6, .d (i64n z.1))], fun z => [(2, .fix (num4 (nB 18446744073709551616 4 z.2.1))), (3, .fix (num4 (nB 18446744073709551616 4 z.2.2)))], fun s => ((slotN s 6).toNat, wv (rowD s 2), wv (rowD s 3)),
      fun _ z => (z.2.1 < W4 ∧ z.2.2 < W4) ∧ (z.2.1 ≠ 0 ∧ z.2.2 ≠ 0) ∧ z.2.1 * 2 ^ z.1 = wv l ∧ Nat.gcd (wv l) (wv m) = Nat.gcd z.2.1 z.2.2 * 2 ^ z.1, fun z => z.2.1⟩
  | 10 => some ⟨Nat × Nat, fun _ => [], fun z => [(2, .fix (num4 (nB 18446744073709551616 4 z.1))), (3, .fix (num4 (nB 18446744073709551616 4 z.2)))], fun s => (wv (rowD s 2), wv (rowD s 3)),
      fun s z => (z.1 < W4 ∧ z.2 < W4) ∧ z.2 ≠ 0 ∧ (z.1 % 2 = 1 ∨ z.2 % 2 = 1) ∧ Nat.gcd (wv l) (wv m) = Nat.gcd z.1 z.2 * 2 ^ (slotN s 6).toNat, fun z => z.1 + z.2⟩
  | 11 => some ⟨Nat, fun _ => [], fun z => [(2, .fix (num4 (nB 18446744073709551616 4 z)))], fun s => wv (rowD s 2),
      fun s z => z ≠ 0 ∧ z ≤ wv (rowD s 2) ∧ (z % 2 = 1 ∨ wv (rowD s 3) % 2 = 1) ∧ Nat.gcd z (wv (rowD s 3)) = Nat.gcd (wv (rowD s 2)) (wv (rowD s 3)), fun z => z⟩
  | 13 => some ⟨Nat, fun _ => [], fun z => [(3, .fix (num4 (nB 18446744073709551616 4 z)))], fun s => wv (rowD s 3),
      fun s z => z ≠ 0 ∧ z ≤ wv (rowD s 3) ∧ Nat.gcd (wv (rowD s 2)) z = Nat.gcd (wv (rowD s 2)) (wv (rowD s 3)), fun z => z⟩
  | _ => none
--KEEP Nat.gcd Go.Vg.eqB Go.Vg.vB Go.Vg.nB Go.Vg.okd Go.Vg.okw Go.Vg.dg okb lenOk lenS sbd sbb dif bor cmpN shf i64ok subL dvq dvr dve
set_option maxRecDepth 100000 in
theorem vc52  (a m : List Int) (F : D)  :
    (owed c52 (inv52 a m) Try.f52 [num8 a, num4 m] F) = (
 (True ∧ false = false) ∧
   (True ∧ false = false) ∧
    (True ∧ (8 : Nat) ≠ (0 : Nat)) ∧
     (True ∧ (4 : Nat) ≠ (0 : Nat)) ∧
      True ∧
       (True ∧ (8 : Nat) ≠ (0 : Nat)) ∧
        (True ∧ (4 : Nat) ≠ (0 : Nat)) ∧
         ((4 : Nat) ≠ (0 : Nat) ∧ (4 : Nat) = (4 : Nat) ∧ true = true) ∧
          (true = true ∧ (4 : Nat) ≠ (0 : Nat) ∧ (4 : Nat) = (4 : Nat) ∧ true = true) ∧
           (IntKind.u64 = IntKind.u64 ∧ IntKind.u64 = IntKind.u64 ∧ (4 : Nat) = (4 : Nat) ∧ (4 : Nat) = (4 : Nat) ∧ (1 : Nat) = (1 : Nat)) ∧
            match eqB m [(0 : Int), (0 : Int), (0 : Int), (0 : Int)] with
            | true =>
             (true = true ∧ (8 : Nat) ≠ (0 : Nat) ∧ (8 : Nat) = (8 : Nat) ∧ true = true) ∧
              (true = true ∧ (4 : Nat) ≠ (0 : Nat) ∧ (4 : Nat) = (4 : Nat) ∧ true = true) ∧
               (true = true ∧ Sk.arr (8 : Nat) = Sk.arr (8 : Nat) ∧ (8 : Nat) ≠ (0 : Nat) ∧ (8 : Nat) = (8 : Nat) ∧ false = false) ∧
                (true = true ∧ Sk.arr (4 : Nat) = Sk.arr (4 : Nat) ∧ (4 : Nat) ≠ (0 : Nat) ∧ (4 : Nat) = (4 : Nat) ∧ false = false) ∧
                 True ∧
                  (((8 : Nat) ≠ (0 : Nat) ∧ (8 : Nat) = (8 : Nat) ∧ true = true) ∧ ((4 : Nat) ≠ (0 : Nat) ∧ (4 : Nat) = (4 : Nat) ∧ true = true) ∧ false = false ∧ True) ∧
                   D.tup [D.arr IntKind.u64 (8 : Nat) [(0 : Int), (0 : Int), (0 : Int), (0 : Int), (0 : Int), (0 : Int), (0 : Int), (0 : Int)], D.arr IntKind.u64 (4 : Nat) [(0 : Int), (0 : Int), (0 : Int), (0 : Int)], D.val (Value.int IntKind.i64 (1 : Int))] = F
            | false =>
             True ∧
              (((AV.d (D.val (Value.int IntKind.i64 (511 : Int))) = AV.d (D.val (Value.int IntKind.i64 ((↑((511 : Int) + (1 : Int)).toNat : Int) - (1 : Int)))) ∧ True) ∧
                 (some (Blk.fix (D.arr IntKind.u64 (8 : Nat) a)) = some (Blk.fix (D.arr IntKind.u64 (8 : Nat) a)) ∧
                   some (Blk.fix (D.arr IntKind.u64 (4 : Nat) m)) = some (Blk.fix (D.arr IntKind.u64 (4 : Nat) m)) ∧
                    some (Blk.fix (D.arr IntKind.u64 (8 : Nat) [(0 : Int), (0 : Int), (0 : Int), (0 : Int), (0 : Int), (0 : Int), (0 : Int), (0 : Int)])) = some (Blk.fix (D.arr IntKind.u64 (8 : Nat) [(0 : Int), (0 : Int), (0 : Int), (0 : Int), (0 : Int), (0 : Int), (0 : Int), (0 : Int)])) ∧
                     some (Blk.fix (D.arr IntKind.u64 (4 : Nat) [(0 : Int), (0 : Int), (0 : Int), (0 : Int)])) = some (Blk.fix (D.arr IntKind.u64 (4 : Nat) [(0 : Int), (0 : Int), (0 : Int), (0 : Int)])) ∧
                      some (Blk.fix (D.arr IntKind.u64 (8 : Nat) [(0 : Int), (0 : Int), (0 : Int), (0 : Int), (0 : Int), (0 : Int), (0 : Int), (0 : Int)])) =
                        some (Blk.fix (D.arr IntKind.u64 (8 : Nat) (nB (18446744073709551616 : Nat) (8 : Nat) (vB (18446744073709551616 : Nat) a / (2 : Nat) ^ ((511 : Int) + (1 : Int)).toNat / vB (18446744073709551616 : Nat) m * (2 : Nat) ^ ((511 : Int) + (1 : Int)).toNat)))) ∧
                       some (Blk.fix (D.arr IntKind.u64 (4 : Nat) [(0 : Int), (0 : Int), (0 : Int), (0 : Int)])) = some (Blk.fix (D.arr IntKind.u64 (4 : Nat) (nB (18446744073709551616 : Nat) (4 : Nat) (vB (18446744073709551616 : Nat) a / (2 : Nat) ^ ((511 : Int) + (1 : Int)).toNat % vB (18446744073709551616 : Nat) m)))) ∧ True) ∧
                  true = true) ∧
                ((511 : Int) + (1 : Int)).toNat ≤ (512 : Nat)) ∧
               ∀ (x : Nat),
                x ≤ (512 : Nat) →
                 true = true ∧
                  True ∧
                   True ∧
                    match decide ((↑x : Int) - (1 : Int) ≥ (0 : Int)) with
                    | true =>
                     ((0 : Int) ≤ (3 : Int) ∧ (3 : Int) < (↑(4 : Nat) : Int) ∧ (4 : Nat) = (4 : Nat) ∧ (1 : Nat) = (1 : Nat)) ∧
                      ((1 : Nat) ≠ (0 : Nat) ∧ (1 : Nat) = (1 : Nat) ∧ false = false) ∧
                       (0 : Int) ≤ (63 : Int) ∧
                        True ∧
                         (true = true ∧ (4 : Nat) ≠ (0 : Nat) ∧ (4 : Nat) = (4 : Nat) ∧ true = true) ∧
                          (∃ (l : List Int), ∃ (n : Int), [D.arr IntKind.u64 (4 : Nat) (nB (18446744073709551616 : Nat) (4 : Nat) (vB (18446744073709551616 : Nat) a / (2 : Nat) ^ x % vB (18446744073709551616 : Nat) m)), D.val (Value.int IntKind.i64 (1 : Int))] = [D.arr IntKind.u64 (4 : Nat) l, D.val (Value.int IntKind.i64 n)] ∧ (okw l ∧ l.length = (4 : Nat)) ∧ i64ok n) ∧
                           (true = true ∧ Sk.arr (4 : Nat) = Sk.arr (4 : Nat) ∧ (4 : Nat) ≠ (0 : Nat) ∧ (4 : Nat) = (4 : Nat) ∧ false = false) ∧
                            ((0 : Int) ≤ (0 : Int) ∧ (0 : Int) < (↑(4 : Nat) : Int) ∧ (4 : Nat) = (4 : Nat) ∧ (1 : Nat) = (1 : Nat)) ∧
                             ((1 : Nat) ≠ (0 : Nat) ∧ (1 : Nat) = (1 : Nat) ∧ false = false) ∧
                              True ∧
                               (64 : Int) ≠ (0 : Int) ∧
                                ((0 : Int) ≤ IntKind.i64.wrap (((↑x : Int) - (1 : Int)).tdiv (64 : Int)) ∧ IntKind.i64.wrap (((↑x : Int) - (1 : Int)).tdiv (64 : Int)) < (↑(8 : Nat) : Int) ∧ (8 : Nat) = (8 : Nat) ∧ (1 : Nat) = (1 : Nat)) ∧
                                 ((1 : Nat) ≠ (0 : Nat) ∧ (1 : Nat) = (1 : Nat) ∧ false = false) ∧
                                  True ∧
                                   (64 : Int) ≠ (0 : Int) ∧
                                    True ∧
                                     (0 : Int) ≤ IntKind.u64.wrap (((↑x : Int) - (1 : Int)).tmod (64 : Int)) ∧
                                      True ∧
                                       True ∧
                                        ((0 : Int) ≤ (0 : Int) ∧ (0 : Int) < (↑(4 : Nat) : Int) ∧ (4 : Nat) = (4 : Nat) ∧ (1 : Nat) = (1 : Nat)) ∧
                                         (((0 : Nat) < (4 : Nat) ∧ ([] : List Nat) = [] ∧ true = true) ∧ (1 : Nat) ≠ (0 : Nat) ∧ (1 : Nat) = (1 : Nat) ∧ false = false) ∧
                                          (true = true ∧ (4 : Nat) ≠ (0 : Nat) ∧ (4 : Nat) = (4 : Nat) ∧ true = true) ∧
                                           ((4 : Nat) ≠ (0 : Nat) ∧ (4 : Nat) = (4 : Nat) ∧ true = true) ∧
                                            (∃ (l : List Int),
                                              ∃ (m_1 : List Int),
                                               [D.arr IntKind.u64 (4 : Nat)
                                                   ((nB (18446744073709551616 : Nat) (4 : Nat) (shf (vB (18446744073709551616 : Nat) (nB (18446744073709551616 : Nat) (4 : Nat) (vB (18446744073709551616 : Nat) a / (2 : Nat) ^ x % vB (18446744073709551616 : Nat) m))) (1 : Int))).set (0 : Nat)
                                                    (ior IntKind.u64 ((nB (18446744073709551616 : Nat) (4 : Nat) (shf (vB (18446744073709551616 : Nat) (nB (18446744073709551616 : Nat) (4 : Nat) (vB (18446744073709551616 : Nat) a / (2 : Nat) ^ x % vB (18446744073709551616 : Nat) m))) (1 : Int))).getD (0 : Nat) (0 : Int))
                                                     (iand IntKind.u64 (ishr IntKind.u64 (a.getD (IntKind.i64.wrap (((↑x : Int) - (1 : Int)).tdiv (64 : Int))).toNat (0 : Int)) (IntKind.u64.wrap (((↑x : Int) - (1 : Int)).tmod (64 : Int)))) (1 : Int)))),
                                                  D.arr IntKind.u64 (4 : Nat) m] =
                                                 [D.arr IntKind.u64 (4 : Nat) l, D.arr IntKind.u64 (4 : Nat) m_1] ∧
                                                (okw l ∧ l.length = (4 : Nat)) ∧ okw m_1 ∧ m_1.length = (4 : Nat)) ∧
                                             True ∧
                                              ((0 : Nat) < (2 : Nat) ∧ false = false) ∧
                                               ((1 : Nat) < (2 : Nat) ∧ false = false) ∧
                                                (True ∧ (4 : Nat) ≠ (0 : Nat)) ∧
                                                 (Sk.arr (4 : Nat) = Sk.arr (4 : Nat) ∧ (4 : Nat) ≠ (0 : Nat) ∧ (4 : Nat) = (4 : Nat) ∧ false = false) ∧
                                                  True ∧
                                                   True ∧
                                                    True ∧
                                                     True ∧
                                                      match ishr IntKind.u64 ((nB (18446744073709551616 : Nat) (4 : Nat) (vB (18446744073709551616 : Nat) a / (2 : Nat) ^ x % vB (18446744073709551616 : Nat) m)).getD (3 : Nat) (0 : Int)) (63 : Int) == (1 : Int) with
                                                      | true =>
                                                       True ∧
                                                        ((4 : Nat) ≠ (0 : Nat) ∧ (4 : Nat) = (4 : Nat) ∧ true = true) ∧
                                                         (true = true ∧ Sk.arr (4 : Nat) = Sk.arr (4 : Nat) ∧ (4 : Nat) ≠ (0 : Nat) ∧ (4 : Nat) = (4 : Nat) ∧ false = false) ∧
                                                          True ∧
                                                           (64 : Int) ≠ (0 : Int) ∧
                                                            ((0 : Int) ≤ IntKind.i64.wrap (((↑x : Int) - (1 : Int)).tdiv (64 : Int)) ∧ IntKind.i64.wrap (((↑x : Int) - (1 : Int)).tdiv (64 : Int)) < (↑(8 : Nat) : Int) ∧ (8 : Nat) = (8 : Nat) ∧ (1 : Nat) = (1 : Nat)) ∧
                                                             ((1 : Nat) ≠ (0 : Nat) ∧ (1 : Nat) = (1 : Nat) ∧ false = false) ∧
                                                              True ∧
                                                               (64 : Int) ≠ (0 : Int) ∧
                                                                True ∧
                                                                 (0 : Int) ≤ IntKind.u64.wrap (((↑x : Int) - (1 : Int)).tmod (64 : Int)) ∧
                                                                  True ∧
                                                                   ((0 : Int) ≤ IntKind.i64.wrap (((↑x : Int) - (1 : Int)).tdiv (64 : Int)) ∧ IntKind.i64.wrap (((↑x : Int) - (1 : Int)).tdiv (64 : Int)) < (↑(8 : Nat) : Int) ∧ (8 : Nat) = (8 : Nat) ∧ (1 : Nat) = (1 : Nat)) ∧
                                                                    (((IntKind.i64.wrap (((↑x : Int) - (1 : Int)).tdiv (64 : Int))).toNat < (8 : Nat) ∧ ([] : List Nat) = [] ∧ true = true) ∧ (1 : Nat) ≠ (0 : Nat) ∧ (1 : Nat) = (1 : Nat) ∧ false = false) ∧
                                                                     True ∧
                                                                      True ∧
                                                                       True ∧
                                                                        ((AV.d (D.val (Value.int IntKind.i64 (IntKind.i64.wrap ((↑x : Int) - (1 : Int) - (1 : Int))))) = AV.d (D.val (Value.int IntKind.i64 ((↑(IntKind.i64.wrap ((↑x : Int) - (1 : Int) - (1 : Int)) + (1 : Int)).toNat : Int) - (1 : Int)))) ∧ True) ∧
                                                                          (some (Blk.fix (D.arr IntKind.u64 (8 : Nat) a)) = some (Blk.fix (D.arr IntKind.u64 (8 : Nat) a)) ∧
                                                                            some (Blk.fix (D.arr IntKind.u64 (4 : Nat) m)) = some (Blk.fix (D.arr IntKind.u64 (4 : Nat) m)) ∧
                                                                             some (Blk.fix (D.arr IntKind.u64 (8 : Nat) [(0 : Int), (0 : Int), (0 : Int), (0 : Int), (0 : Int), (0 : Int), (0 : Int), (0 : Int)])) =
                                                                               some (Blk.fix (D.arr IntKind.u64 (8 : Nat) [(0 : Int), (0 : Int), (0 : Int), (0 : Int), (0 : Int), (0 : Int), (0 : Int), (0 : Int)])) ∧
                                                                              some (Blk.fix (D.arr IntKind.u64 (4 : Nat) [(0 : Int), (0 : Int), (0 : Int), (0 : Int)])) = some (Blk.fix (D.arr IntKind.u64 (4 : Nat) [(0 : Int), (0 : Int), (0 : Int), (0 : Int)])) ∧
                                                                               some
                                                                                  (Blk.fix
                                                                                   (D.arr IntKind.u64 (8 : Nat)
                                                                                    ((nB (18446744073709551616 : Nat) (8 : Nat) (vB (18446744073709551616 : Nat) a / (2 : Nat) ^ x / vB (18446744073709551616 : Nat) m * (2 : Nat) ^ x)).set (IntKind.i64.wrap (((↑x : Int) - (1 : Int)).tdiv (64 : Int))).toNat
                                                                                     (ior IntKind.u64
                                                                                      ((nB (18446744073709551616 : Nat) (8 : Nat) (vB (18446744073709551616 : Nat) a / (2 : Nat) ^ x / vB (18446744073709551616 : Nat) m * (2 : Nat) ^ x)).getD (IntKind.i64.wrap (((↑x : Int) - (1 : Int)).tdiv (64 : Int))).toNat
                                                                                       (0 : Int))
                                                                                      (ishl IntKind.u64 (1 : Int) (IntKind.u64.wrap (((↑x : Int) - (1 : Int)).tmod (64 : Int)))))))) =
                                                                                 some
                                                                                  (Blk.fix
                                                                                   (D.arr IntKind.u64 (8 : Nat)
                                                                                    (nB (18446744073709551616 : Nat) (8 : Nat)
                                                                                     (vB (18446744073709551616 : Nat) a / (2 : Nat) ^ (IntKind.i64.wrap ((↑x : Int) - (1 : Int) - (1 : Int)) + (1 : Int)).toNat / vB (18446744073709551616 : Nat) m *
                                                                                      (2 : Nat) ^ (IntKind.i64.wrap ((↑x : Int) - (1 : Int) - (1 : Int)) + (1 : Int)).toNat)))) ∧
                                                                                some
                                                                                   (Blk.fix
                                                                                    (D.arr IntKind.u64 (4 : Nat)
                                                                                     (nB (18446744073709551616 : Nat) (4 : Nat)
                                                                                      (dif
                                                                                       (vB (18446744073709551616 : Nat)
                                                                                        ((nB (18446744073709551616 : Nat) (4 : Nat)
                                                                                           (shf (vB (18446744073709551616 : Nat) (nB (18446744073709551616 : Nat) (4 : Nat) (vB (18446744073709551616 : Nat) a / (2 : Nat) ^ x % vB (18446744073709551616 : Nat) m))) (1 : Int))).set
                                                                                         (0 : Nat)
                                                                                         (ior IntKind.u64
                                                                                          ((nB (18446744073709551616 : Nat) (4 : Nat)
                                                                                             (shf (vB (18446744073709551616 : Nat) (nB (18446744073709551616 : Nat) (4 : Nat) (vB (18446744073709551616 : Nat) a / (2 : Nat) ^ x % vB (18446744073709551616 : Nat) m))) (1 : Int))).getD
                                                                                           (0 : Nat) (0 : Int))
                                                                                          (iand IntKind.u64 (ishr IntKind.u64 (a.getD (IntKind.i64.wrap (((↑x : Int) - (1 : Int)).tdiv (64 : Int))).toNat (0 : Int)) (IntKind.u64.wrap (((↑x : Int) - (1 : Int)).tmod (64 : Int)))) (1 : Int)))))
                                                                                       (vB (18446744073709551616 : Nat) m))))) =
                                                                                  some
                                                                                   (Blk.fix
                                                                                    (D.arr IntKind.u64 (4 : Nat)
                                                                                     (nB (18446744073709551616 : Nat) (4 : Nat) (vB (18446744073709551616 : Nat) a / (2 : Nat) ^ (IntKind.i64.wrap ((↑x : Int) - (1 : Int) - (1 : Int)) + (1 : Int)).toNat % vB (18446744073709551616 : Nat) m)))) ∧
                                                                                 True) ∧
                                                                           true = true) ∧
                                                                         (IntKind.i64.wrap ((↑x : Int) - (1 : Int) - (1 : Int)) + (1 : Int)).toNat ≤ (512 : Nat) ∧ (IntKind.i64.wrap ((↑x : Int) - (1 : Int) - (1 : Int)) + (1 : Int)).toNat < x
                                                      | false =>
                                                       True ∧
                                                        True ∧
                                                         True ∧
                                                          match
                                                           (↑(bor
                                                               (vB (18446744073709551616 : Nat)
                                                                ((nB (18446744073709551616 : Nat) (4 : Nat) (shf (vB (18446744073709551616 : Nat) (nB (18446744073709551616 : Nat) (4 : Nat) (vB (18446744073709551616 : Nat) a / (2 : Nat) ^ x % vB (18446744073709551616 : Nat) m))) (1 : Int))).set (0 : Nat)
                                                                 (ior IntKind.u64 ((nB (18446744073709551616 : Nat) (4 : Nat) (shf (vB (18446744073709551616 : Nat) (nB (18446744073709551616 : Nat) (4 : Nat) (vB (18446744073709551616 : Nat) a / (2 : Nat) ^ x % vB (18446744073709551616 : Nat) m))) (1 : Int))).getD (0 : Nat) (0 : Int))
                                                                  (iand IntKind.u64 (ishr IntKind.u64 (a.getD (IntKind.i64.wrap (((↑x : Int) - (1 : Int)).tdiv (64 : Int))).toNat (0 : Int)) (IntKind.u64.wrap (((↑x : Int) - (1 : Int)).tmod (64 : Int)))) (1 : Int)))))
                                                               (vB (18446744073709551616 : Nat) m)) :
                                                             Int) ==
                                                            (0 : Int) with
                                                          | true =>
                                                           ((4 : Nat) ≠ (0 : Nat) ∧ (4 : Nat) = (4 : Nat) ∧ true = true) ∧
                                                            (true = true ∧ Sk.arr (4 : Nat) = Sk.arr (4 : Nat) ∧ (4 : Nat) ≠ (0 : Nat) ∧ (4 : Nat) = (4 : Nat) ∧ false = false) ∧
                                                             True ∧
                                                              (64 : Int) ≠ (0 : Int) ∧
                                                               ((0 : Int) ≤ IntKind.i64.wrap (((↑x : Int) - (1 : Int)).tdiv (64 : Int)) ∧ IntKind.i64.wrap (((↑x : Int) - (1 : Int)).tdiv (64 : Int)) < (↑(8 : Nat) : Int) ∧ (8 : Nat) = (8 : Nat) ∧ (1 : Nat) = (1 : Nat)) ∧
                                                                ((1 : Nat) ≠ (0 : Nat) ∧ (1 : Nat) = (1 : Nat) ∧ false = false) ∧
                                                                 True ∧
                                                                  (64 : Int) ≠ (0 : Int) ∧
                                                                   True ∧
                                                                    (0 : Int) ≤ IntKind.u64.wrap (((↑x : Int) - (1 : Int)).tmod (64 : Int)) ∧
                                                                     True ∧
                                                                      ((0 : Int) ≤ IntKind.i64.wrap (((↑x : Int) - (1 : Int)).tdiv (64 : Int)) ∧ IntKind.i64.wrap (((↑x : Int) - (1 : Int)).tdiv (64 : Int)) < (↑(8 : Nat) : Int) ∧ (8 : Nat) = (8 : Nat) ∧ (1 : Nat) = (1 : Nat)) ∧
                                                                       (((IntKind.i64.wrap (((↑x : Int) - (1 : Int)).tdiv (64 : Int))).toNat < (8 : Nat) ∧ ([] : List Nat) = [] ∧ true = true) ∧ (1 : Nat) ≠ (0 : Nat) ∧ (1 : Nat) = (1 : Nat) ∧ false = false) ∧
                                                                        True ∧
                                                                         True ∧
                                                                          True ∧
                                                                           ((AV.d (D.val (Value.int IntKind.i64 (IntKind.i64.wrap ((↑x : Int) - (1 : Int) - (1 : Int))))) = AV.d (D.val (Value.int IntKind.i64 ((↑(IntKind.i64.wrap ((↑x : Int) - (1 : Int) - (1 : Int)) + (1 : Int)).toNat : Int) - (1 : Int)))) ∧ True) ∧
                                                                             (some (Blk.fix (D.arr IntKind.u64 (8 : Nat) a)) = some (Blk.fix (D.arr IntKind.u64 (8 : Nat) a)) ∧
                                                                               some (Blk.fix (D.arr IntKind.u64 (4 : Nat) m)) = some (Blk.fix (D.arr IntKind.u64 (4 : Nat) m)) ∧
                                                                                some (Blk.fix (D.arr IntKind.u64 (8 : Nat) [(0 : Int), (0 : Int), (0 : Int), (0 : Int), (0 : Int), (0 : Int), (0 : Int), (0 : Int)])) =
                                                                                  some (Blk.fix (D.arr IntKind.u64 (8 : Nat) [(0 : Int), (0 : Int), (0 : Int), (0 : Int), (0 : Int), (0 : Int), (0 : Int), (0 : Int)])) ∧
                                                                                 some (Blk.fix (D.arr IntKind.u64 (4 : Nat) [(0 : Int), (0 : Int), (0 : Int), (0 : Int)])) = some (Blk.fix (D.arr IntKind.u64 (4 : Nat) [(0 : Int), (0 : Int), (0 : Int), (0 : Int)])) ∧
                                                                                  some
                                                                                     (Blk.fix
                                                                                      (D.arr IntKind.u64 (8 : Nat)
                                                                                       ((nB (18446744073709551616 : Nat) (8 : Nat) (vB (18446744073709551616 : Nat) a / (2 : Nat) ^ x / vB (18446744073709551616 : Nat) m * (2 : Nat) ^ x)).set (IntKind.i64.wrap (((↑x : Int) - (1 : Int)).tdiv (64 : Int))).toNat
                                                                                        (ior IntKind.u64
                                                                                         ((nB (18446744073709551616 : Nat) (8 : Nat) (vB (18446744073709551616 : Nat) a / (2 : Nat) ^ x / vB (18446744073709551616 : Nat) m * (2 : Nat) ^ x)).getD (IntKind.i64.wrap (((↑x : Int) - (1 : Int)).tdiv (64 : Int))).toNat
                                                                                          (0 : Int))
                                                                                         (ishl IntKind.u64 (1 : Int) (IntKind.u64.wrap (((↑x : Int) - (1 : Int)).tmod (64 : Int)))))))) =
                                                                                    some
                                                                                     (Blk.fix
                                                                                      (D.arr IntKind.u64 (8 : Nat)
                                                                                       (nB (18446744073709551616 : Nat) (8 : Nat)
                                                                                        (vB (18446744073709551616 : Nat) a / (2 : Nat) ^ (IntKind.i64.wrap ((↑x : Int) - (1 : Int) - (1 : Int)) + (1 : Int)).toNat / vB (18446744073709551616 : Nat) m *
                                                                                         (2 : Nat) ^ (IntKind.i64.wrap ((↑x : Int) - (1 : Int) - (1 : Int)) + (1 : Int)).toNat)))) ∧
                                                                                   some
                                                                                      (Blk.fix
                                                                                       (D.arr IntKind.u64 (4 : Nat)
                                                                                        (nB (18446744073709551616 : Nat) (4 : Nat)
                                                                                         (dif
                                                                                          (vB (18446744073709551616 : Nat)
                                                                                           ((nB (18446744073709551616 : Nat) (4 : Nat)
                                                                                              (shf (vB (18446744073709551616 : Nat) (nB (18446744073709551616 : Nat) (4 : Nat) (vB (18446744073709551616 : Nat) a / (2 : Nat) ^ x % vB (18446744073709551616 : Nat) m))) (1 : Int))).set
                                                                                            (0 : Nat)
                                                                                            (ior IntKind.u64
                                                                                             ((nB (18446744073709551616 : Nat) (4 : Nat)
                                                                                                (shf (vB (18446744073709551616 : Nat) (nB (18446744073709551616 : Nat) (4 : Nat) (vB (18446744073709551616 : Nat) a / (2 : Nat) ^ x % vB (18446744073709551616 : Nat) m))) (1 : Int))).getD
                                                                                              (0 : Nat) (0 : Int))
                                                                                             (iand IntKind.u64 (ishr IntKind.u64 (a.getD (IntKind.i64.wrap (((↑x : Int) - (1 : Int)).tdiv (64 : Int))).toNat (0 : Int)) (IntKind.u64.wrap (((↑x : Int) - (1 : Int)).tmod (64 : Int)))) (1 : Int)))))
                                                                                          (vB (18446744073709551616 : Nat) m))))) =
                                                                                     some
                                                                                      (Blk.fix
                                                                                       (D.arr IntKind.u64 (4 : Nat)
                                                                                        (nB (18446744073709551616 : Nat) (4 : Nat) (vB (18446744073709551616 : Nat) a / (2 : Nat) ^ (IntKind.i64.wrap ((↑x : Int) - (1 : Int) - (1 : Int)) + (1 : Int)).toNat % vB (18446744073709551616 : Nat) m)))) ∧
                                                                                    True) ∧
                                                                              true = true) ∧
                                                                            (IntKind.i64.wrap ((↑x : Int) - (1 : Int) - (1 : Int)) + (1 : Int)).toNat ≤ (512 : Nat) ∧ (IntKind.i64.wrap ((↑x : Int) - (1 : Int) - (1 : Int)) + (1 : Int)).toNat < x
                                                          | false =>
                                                           True ∧
                                                            True ∧
                                                             True ∧
                                                              ((AV.d (D.val (Value.int IntKind.i64 (IntKind.i64.wrap ((↑x : Int) - (1 : Int) - (1 : Int))))) = AV.d (D.val (Value.int IntKind.i64 ((↑(IntKind.i64.wrap ((↑x : Int) - (1 : Int) - (1 : Int)) + (1 : Int)).toNat : Int) - (1 : Int)))) ∧ True) ∧
                                                                (some (Blk.fix (D.arr IntKind.u64 (8 : Nat) a)) = some (Blk.fix (D.arr IntKind.u64 (8 : Nat) a)) ∧
                                                                  some (Blk.fix (D.arr IntKind.u64 (4 : Nat) m)) = some (Blk.fix (D.arr IntKind.u64 (4 : Nat) m)) ∧
                                                                   some (Blk.fix (D.arr IntKind.u64 (8 : Nat) [(0 : Int), (0 : Int), (0 : Int), (0 : Int), (0 : Int), (0 : Int), (0 : Int), (0 : Int)])) =
                                                                     some (Blk.fix (D.arr IntKind.u64 (8 : Nat) [(0 : Int), (0 : Int), (0 : Int), (0 : Int), (0 : Int), (0 : Int), (0 : Int), (0 : Int)])) ∧
                                                                    some (Blk.fix (D.arr IntKind.u64 (4 : Nat) [(0 : Int), (0 : Int), (0 : Int), (0 : Int)])) = some (Blk.fix (D.arr IntKind.u64 (4 : Nat) [(0 : Int), (0 : Int), (0 : Int), (0 : Int)])) ∧
                                                                     some (Blk.fix (D.arr IntKind.u64 (8 : Nat) (nB (18446744073709551616 : Nat) (8 : Nat) (vB (18446744073709551616 : Nat) a / (2 : Nat) ^ x / vB (18446744073709551616 : Nat) m * (2 : Nat) ^ x)))) =
                                                                       some
                                                                        (Blk.fix
                                                                         (D.arr IntKind.u64 (8 : Nat)
                                                                          (nB (18446744073709551616 : Nat) (8 : Nat)
                                                                           (vB (18446744073709551616 : Nat) a / (2 : Nat) ^ (IntKind.i64.wrap ((↑x : Int) - (1 : Int) - (1 : Int)) + (1 : Int)).toNat / vB (18446744073709551616 : Nat) m * (2 : Nat) ^ (IntKind.i64.wrap ((↑x : Int) - (1 : Int) - (1 : Int)) + (1 : Int)).toNat)))) ∧
                                                                      some
                                                                         (Blk.fix
                                                                          (D.arr IntKind.u64 (4 : Nat)
                                                                           ((nB (18446744073709551616 : Nat) (4 : Nat) (shf (vB (18446744073709551616 : Nat) (nB (18446744073709551616 : Nat) (4 : Nat) (vB (18446744073709551616 : Nat) a / (2 : Nat) ^ x % vB (18446744073709551616 : Nat) m))) (1 : Int))).set (0 : Nat)
                                                                            (ior IntKind.u64
                                                                             ((nB (18446744073709551616 : Nat) (4 : Nat) (shf (vB (18446744073709551616 : Nat) (nB (18446744073709551616 : Nat) (4 : Nat) (vB (18446744073709551616 : Nat) a / (2 : Nat) ^ x % vB (18446744073709551616 : Nat) m))) (1 : Int))).getD (0 : Nat)
                                                                              (0 : Int))
                                                                             (iand IntKind.u64 (ishr IntKind.u64 (a.getD (IntKind.i64.wrap (((↑x : Int) - (1 : Int)).tdiv (64 : Int))).toNat (0 : Int)) (IntKind.u64.wrap (((↑x : Int) - (1 : Int)).tmod (64 : Int)))) (1 : Int)))))) =
                                                                        some (Blk.fix (D.arr IntKind.u64 (4 : Nat) (nB (18446744073709551616 : Nat) (4 : Nat) (vB (18446744073709551616 : Nat) a / (2 : Nat) ^ (IntKind.i64.wrap ((↑x : Int) - (1 : Int) - (1 : Int)) + (1 : Int)).toNat % vB (18446744073709551616 : Nat) m)))) ∧
                                                                       True) ∧
                                                                 true = true) ∧
                                                               (IntKind.i64.wrap ((↑x : Int) - (1 : Int) - (1 : Int)) + (1 : Int)).toNat ≤ (512 : Nat) ∧ (IntKind.i64.wrap ((↑x : Int) - (1 : Int) - (1 : Int)) + (1 : Int)).toNat < x
                    | false =>
                     (true = true ∧ (8 : Nat) ≠ (0 : Nat) ∧ (8 : Nat) = (8 : Nat) ∧ true = true) ∧
                      (true = true ∧ (4 : Nat) ≠ (0 : Nat) ∧ (4 : Nat) = (4 : Nat) ∧ true = true) ∧
                       (true = true ∧ Sk.arr (8 : Nat) = Sk.arr (8 : Nat) ∧ (8 : Nat) ≠ (0 : Nat) ∧ (8 : Nat) = (8 : Nat) ∧ false = false) ∧
                        (true = true ∧ Sk.arr (4 : Nat) = Sk.arr (4 : Nat) ∧ (4 : Nat) ≠ (0 : Nat) ∧ (4 : Nat) = (4 : Nat) ∧ false = false) ∧
                         True ∧
                          (((8 : Nat) ≠ (0 : Nat) ∧ (8 : Nat) = (8 : Nat) ∧ true = true) ∧ ((4 : Nat) ≠ (0 : Nat) ∧ (4 : Nat) = (4 : Nat) ∧ true = true) ∧ false = false ∧ True) ∧
                           D.tup
                             [D.arr IntKind.u64 (8 : Nat) (nB (18446744073709551616 : Nat) (8 : Nat) (vB (18446744073709551616 : Nat) a / (2 : Nat) ^ x / vB (18446744073709551616 : Nat) m * (2 : Nat) ^ x)), D.arr IntKind.u64 (4 : Nat) (nB (18446744073709551616 : Nat) (4 : Nat) (vB (18446744073709551616 : Nat) a / (2 : Nat) ^ x % vB (18446744073709551616 : Nat) m)),
                              D.val (Value.int IntKind.i64 (0 : Int))] =
                            F) := by kernel_rfl
set_option maxRecDepth 100000 in
theorem vc53  (a m : List Int) (F : D)  :
    (owed c53 (fun _ => none) Try.f53 [num8 a, num4 m] F) = (
 (True ∧ false = false) ∧
   (True ∧ false = false) ∧
    (True ∧ (4 : Nat) ≠ (0 : Nat)) ∧
     True ∧
      ((8 : Nat) ≠ (0 : Nat) ∧ (8 : Nat) = (8 : Nat) ∧ true = true) ∧
       ((4 : Nat) ≠ (0 : Nat) ∧ (4 : Nat) = (4 : Nat) ∧ true = true) ∧
        (∃ (a_1 : List Int), ∃ (m_1 : List Int), [D.arr IntKind.u64 (8 : Nat) a, D.arr IntKind.u64 (4 : Nat) m] = [D.arr IntKind.u64 (8 : Nat) a_1, D.arr IntKind.u64 (4 : Nat) m_1] ∧ (okw a_1 ∧ a_1.length = (8 : Nat)) ∧ okw m_1 ∧ m_1.length = (4 : Nat)) ∧
         True ∧
          ((0 : Nat) < (3 : Nat) ∧ false = false) ∧
           ((1 : Nat) < (3 : Nat) ∧ false = false) ∧
            ((2 : Nat) < (3 : Nat) ∧ false = false) ∧
             (True ∧ (8 : Nat) ≠ (0 : Nat)) ∧
              (True ∧ (4 : Nat) ≠ (0 : Nat)) ∧
               (Sk.arr (8 : Nat) = Sk.arr (8 : Nat) ∧ (8 : Nat) ≠ (0 : Nat) ∧ (8 : Nat) = (8 : Nat) ∧ false = false) ∧
                (Sk.arr (4 : Nat) = Sk.arr (4 : Nat) ∧ (4 : Nat) ≠ (0 : Nat) ∧ (4 : Nat) = (4 : Nat) ∧ false = false) ∧
                 True ∧
                  ((4 : Nat) ≠ (0 : Nat) ∧ (4 : Nat) = (4 : Nat) ∧ true = true) ∧
                   True ∧
                    (Sk.arr (4 : Nat) = Sk.arr (4 : Nat) ∧ (4 : Nat) ≠ (0 : Nat) ∧ (4 : Nat) = (4 : Nat) ∧ false = false) ∧
                     True ∧ (((4 : Nat) ≠ (0 : Nat) ∧ (4 : Nat) = (4 : Nat) ∧ true = true) ∧ false = false ∧ True) ∧ D.tup [D.arr IntKind.u64 (4 : Nat) (nB (18446744073709551616 : Nat) (4 : Nat) (dvr (vB (18446744073709551616 : Nat) a) (vB (18446744073709551616 : Nat) m))), D.val (Value.int IntKind.i64 (↑(dve (vB (18446744073709551616 : Nat) m)) : Int))] = F) := by kernel_rfl
set_option maxRecDepth 100000 in
theorem vc54  (l m : List Int) (F : D)  :
    (owed c54 (inv54 l m) Try.f54 [num4 l, num4 m] F) = (
 (True ∧ false = false) ∧
   (True ∧ false = false) ∧
    (True ∧ (4 : Nat) ≠ (0 : Nat)) ∧
     (True ∧ (4 : Nat) ≠ (0 : Nat)) ∧
      ((4 : Nat) ≠ (0 : Nat) ∧ (4 : Nat) = (4 : Nat) ∧ true = true) ∧
       ((4 : Nat) ≠ (0 : Nat) ∧ (4 : Nat) = (4 : Nat) ∧ true = true) ∧
        (IntKind.u64 = IntKind.u64 ∧ IntKind.u64 = IntKind.u64 ∧ (4 : Nat) = (4 : Nat) ∧ (4 : Nat) = (4 : Nat) ∧ (1 : Nat) = (1 : Nat)) ∧
         match eqB l [(0 : Int), (0 : Int), (0 : Int), (0 : Int)] with
         | true => ((4 : Nat) ≠ (0 : Nat) ∧ (4 : Nat) = (4 : Nat) ∧ true = true) ∧ (Sk.arr (4 : Nat) = Sk.arr (4 : Nat) ∧ (4 : Nat) ≠ (0 : Nat) ∧ (4 : Nat) = (4 : Nat) ∧ false = false) ∧ (((4 : Nat) ≠ (0 : Nat) ∧ (4 : Nat) = (4 : Nat) ∧ true = true) ∧ True) ∧ D.arr IntKind.u64 (4 : Nat) m = F
         | false =>
          ((4 : Nat) ≠ (0 : Nat) ∧ (4 : Nat) = (4 : Nat) ∧ true = true) ∧
           ((4 : Nat) ≠ (0 : Nat) ∧ (4 : Nat) = (4 : Nat) ∧ true = true) ∧
            (IntKind.u64 = IntKind.u64 ∧ IntKind.u64 = IntKind.u64 ∧ (4 : Nat) = (4 : Nat) ∧ (4 : Nat) = (4 : Nat) ∧ (1 : Nat) = (1 : Nat)) ∧
             match eqB m [(0 : Int), (0 : Int), (0 : Int), (0 : Int)] with
             | true => ((4 : Nat) ≠ (0 : Nat) ∧ (4 : Nat) = (4 : Nat) ∧ true = true) ∧ (Sk.arr (4 : Nat) = Sk.arr (4 : Nat) ∧ (4 : Nat) ≠ (0 : Nat) ∧ (4 : Nat) = (4 : Nat) ∧ false = false) ∧ (((4 : Nat) ≠ (0 : Nat) ∧ (4 : Nat) = (4 : Nat) ∧ true = true) ∧ True) ∧ D.arr IntKind.u64 (4 : Nat) l = F
             | false =>
              True ∧
               (((AV.d (D.val (Value.int IntKind.i64 (0 : Int))) = AV.d (D.val (Value.int IntKind.i64 (↑(0 : Nat) : Int))) ∧ True) ∧
                  (some (Blk.fix (D.arr IntKind.u64 (4 : Nat) l)) = some (Blk.fix (D.arr IntKind.u64 (4 : Nat) (nB (18446744073709551616 : Nat) (4 : Nat) (vB (18446744073709551616 : Nat) l)))) ∧
                    some (Blk.fix (D.arr IntKind.u64 (4 : Nat) m)) = some (Blk.fix (D.arr IntKind.u64 (4 : Nat) (nB (18446744073709551616 : Nat) (4 : Nat) (vB (18446744073709551616 : Nat) m)))) ∧
                     some (Blk.fix (D.arr IntKind.u64 (4 : Nat) [(0 : Int), (0 : Int), (0 : Int), (0 : Int)])) = some (Blk.fix (D.arr IntKind.u64 (4 : Nat) [(0 : Int), (0 : Int), (0 : Int), (0 : Int)])) ∧
                      some (Blk.fix (D.arr IntKind.u64 (4 : Nat) [(0 : Int), (0 : Int), (0 : Int), (0 : Int)])) = some (Blk.fix (D.arr IntKind.u64 (4 : Nat) [(0 : Int), (0 : Int), (0 : Int), (0 : Int)])) ∧ True) ∧
                   true = true) ∧
                 (vB (18446744073709551616 : Nat) l < (115792089237316195423570985008687907853269984665640564039457584007913129639936 : Nat) ∧ vB (18446744073709551616 : Nat) m < (115792089237316195423570985008687907853269984665640564039457584007913129639936 : Nat)) ∧
                  (vB (18446744073709551616 : Nat) l ≠ (0 : Nat) ∧ vB (18446744073709551616 : Nat) m ≠ (0 : Nat)) ∧ vB (18446744073709551616 : Nat) l * (1 : Nat) = vB (18446744073709551616 : Nat) l ∧ (vB (18446744073709551616 : Nat) l).gcd (vB (18446744073709551616 : Nat) m) = (vB (18446744073709551616 : Nat) l).gcd (vB (18446744073709551616 : Nat) m) * (1 : Nat)) ∧
                ∀ (x : Nat × Nat × Nat),
                 (x.snd.fst < (115792089237316195423570985008687907853269984665640564039457584007913129639936 : Nat) ∧ x.snd.snd < (115792089237316195423570985008687907853269984665640564039457584007913129639936 : Nat)) ∧
                   (x.snd.fst ≠ (0 : Nat) ∧ x.snd.snd ≠ (0 : Nat)) ∧ x.snd.fst * (2 : Nat) ^ x.fst = vB (18446744073709551616 : Nat) l ∧ (vB (18446744073709551616 : Nat) l).gcd (vB (18446744073709551616 : Nat) m) = x.snd.fst.gcd x.snd.snd * (2 : Nat) ^ x.fst →
                  true = true ∧
                   ((0 : Int) ≤ (0 : Int) ∧ (0 : Int) < (↑(4 : Nat) : Int) ∧ (4 : Nat) = (4 : Nat) ∧ (1 : Nat) = (1 : Nat)) ∧
                    ((1 : Nat) ≠ (0 : Nat) ∧ (1 : Nat) = (1 : Nat) ∧ false = false) ∧
                     True ∧
                      True ∧
                       True ∧
                        match iand IntKind.u64 ((nB (18446744073709551616 : Nat) (4 : Nat) x.snd.fst).getD (0 : Nat) (0 : Int)) (1 : Int) == (0 : Int) with
                        | true =>
                         ((0 : Int) ≤ (0 : Int) ∧ (0 : Int) < (↑(4 : Nat) : Int) ∧ (4 : Nat) = (4 : Nat) ∧ (1 : Nat) = (1 : Nat)) ∧
                          ((1 : Nat) ≠ (0 : Nat) ∧ (1 : Nat) = (1 : Nat) ∧ false = false) ∧
                           True ∧
                            True ∧
                             True ∧
                              match iand IntKind.u64 ((nB (18446744073709551616 : Nat) (4 : Nat) x.snd.snd).getD (0 : Nat) (0 : Int)) (1 : Int) == (0 : Int) with
                              | true =>
                               ((4 : Nat) ≠ (0 : Nat) ∧ (4 : Nat) = (4 : Nat) ∧ true = true) ∧
                                (∃ (l : List Int), ∃ (n : Int), [D.arr IntKind.u64 (4 : Nat) (nB (18446744073709551616 : Nat) (4 : Nat) x.snd.fst), D.val (Value.int IntKind.i64 (-1 : Int))] = [D.arr IntKind.u64 (4 : Nat) l, D.val (Value.int IntKind.i64 n)] ∧ (okw l ∧ l.length = (4 : Nat)) ∧ i64ok n) ∧
                                 ((4 : Nat) ≠ (0 : Nat) ∧ (4 : Nat) = (4 : Nat) ∧ true = true) ∧
                                  (∃ (l : List Int), ∃ (n : Int), [D.arr IntKind.u64 (4 : Nat) (nB (18446744073709551616 : Nat) (4 : Nat) x.snd.snd), D.val (Value.int IntKind.i64 (-1 : Int))] = [D.arr IntKind.u64 (4 : Nat) l, D.val (Value.int IntKind.i64 n)] ∧ (okw l ∧ l.length = (4 : Nat)) ∧ i64ok n) ∧
                                   (Sk.arr (4 : Nat) = Sk.arr (4 : Nat) ∧ (4 : Nat) ≠ (0 : Nat) ∧ (4 : Nat) = (4 : Nat) ∧ false = false) ∧
                                    (Sk.arr (4 : Nat) = Sk.arr (4 : Nat) ∧ (4 : Nat) ≠ (0 : Nat) ∧ (4 : Nat) = (4 : Nat) ∧ false = false) ∧
                                     True ∧
                                      True ∧
                                       True ∧
                                        ((AV.d (D.val (Value.int IntKind.i64 (IntKind.i64.wrap ((↑x.fst : Int) + (1 : Int))))) = AV.d (D.val (Value.int IntKind.i64 (↑(IntKind.i64.wrap ((↑x.fst : Int) + (1 : Int))).toNat : Int))) ∧ True) ∧
                                          (some (Blk.fix (D.arr IntKind.u64 (4 : Nat) (nB (18446744073709551616 : Nat) (4 : Nat) (shf (vB (18446744073709551616 : Nat) (nB (18446744073709551616 : Nat) (4 : Nat) x.snd.fst)) (-1 : Int))))) =
                                             some (Blk.fix (D.arr IntKind.u64 (4 : Nat) (nB (18446744073709551616 : Nat) (4 : Nat) (vB (18446744073709551616 : Nat) (nB (18446744073709551616 : Nat) (4 : Nat) (shf (vB (18446744073709551616 : Nat) (nB (18446744073709551616 : Nat) (4 : Nat) x.snd.fst)) (-1 : Int))))))) ∧
                                            some (Blk.fix (D.arr IntKind.u64 (4 : Nat) (nB (18446744073709551616 : Nat) (4 : Nat) (shf (vB (18446744073709551616 : Nat) (nB (18446744073709551616 : Nat) (4 : Nat) x.snd.snd)) (-1 : Int))))) =
                                              some (Blk.fix (D.arr IntKind.u64 (4 : Nat) (nB (18446744073709551616 : Nat) (4 : Nat) (vB (18446744073709551616 : Nat) (nB (18446744073709551616 : Nat) (4 : Nat) (shf (vB (18446744073709551616 : Nat) (nB (18446744073709551616 : Nat) (4 : Nat) x.snd.snd)) (-1 : Int))))))) ∧
                                             some (Blk.fix (D.arr IntKind.u64 (4 : Nat) [(0 : Int), (0 : Int), (0 : Int), (0 : Int)])) = some (Blk.fix (D.arr IntKind.u64 (4 : Nat) [(0 : Int), (0 : Int), (0 : Int), (0 : Int)])) ∧
                                              some (Blk.fix (D.arr IntKind.u64 (4 : Nat) [(0 : Int), (0 : Int), (0 : Int), (0 : Int)])) = some (Blk.fix (D.arr IntKind.u64 (4 : Nat) [(0 : Int), (0 : Int), (0 : Int), (0 : Int)])) ∧ True) ∧
                                           true = true) ∧
                                         ((vB (18446744073709551616 : Nat) (nB (18446744073709551616 : Nat) (4 : Nat) (shf (vB (18446744073709551616 : Nat) (nB (18446744073709551616 : Nat) (4 : Nat) x.snd.fst)) (-1 : Int))) < (115792089237316195423570985008687907853269984665640564039457584007913129639936 : Nat) ∧
                                            vB (18446744073709551616 : Nat) (nB (18446744073709551616 : Nat) (4 : Nat) (shf (vB (18446744073709551616 : Nat) (nB (18446744073709551616 : Nat) (4 : Nat) x.snd.snd)) (-1 : Int))) < (115792089237316195423570985008687907853269984665640564039457584007913129639936 : Nat)) ∧
                                           (vB (18446744073709551616 : Nat) (nB (18446744073709551616 : Nat) (4 : Nat) (shf (vB (18446744073709551616 : Nat) (nB (18446744073709551616 : Nat) (4 : Nat) x.snd.fst)) (-1 : Int))) ≠ (0 : Nat) ∧
                                             vB (18446744073709551616 : Nat) (nB (18446744073709551616 : Nat) (4 : Nat) (shf (vB (18446744073709551616 : Nat) (nB (18446744073709551616 : Nat) (4 : Nat) x.snd.snd)) (-1 : Int))) ≠ (0 : Nat)) ∧
                                            vB (18446744073709551616 : Nat) (nB (18446744073709551616 : Nat) (4 : Nat) (shf (vB (18446744073709551616 : Nat) (nB (18446744073709551616 : Nat) (4 : Nat) x.snd.fst)) (-1 : Int))) * (2 : Nat) ^ (IntKind.i64.wrap ((↑x.fst : Int) + (1 : Int))).toNat = vB (18446744073709551616 : Nat) l ∧
                                             (vB (18446744073709551616 : Nat) l).gcd (vB (18446744073709551616 : Nat) m) =
                                              (vB (18446744073709551616 : Nat) (nB (18446744073709551616 : Nat) (4 : Nat) (shf (vB (18446744073709551616 : Nat) (nB (18446744073709551616 : Nat) (4 : Nat) x.snd.fst)) (-1 : Int)))).gcd
                                                (vB (18446744073709551616 : Nat) (nB (18446744073709551616 : Nat) (4 : Nat) (shf (vB (18446744073709551616 : Nat) (nB (18446744073709551616 : Nat) (4 : Nat) x.snd.snd)) (-1 : Int)))) *
                                               (2 : Nat) ^ (IntKind.i64.wrap ((↑x.fst : Int) + (1 : Int))).toNat) ∧
                                          vB (18446744073709551616 : Nat) (nB (18446744073709551616 : Nat) (4 : Nat) (shf (vB (18446744073709551616 : Nat) (nB (18446744073709551616 : Nat) (4 : Nat) x.snd.fst)) (-1 : Int))) < x.snd.fst
                              | false =>
                               ((True ∧
                                  (some (Blk.fix (D.arr IntKind.u64 (4 : Nat) (nB (18446744073709551616 : Nat) (4 : Nat) x.snd.fst))) = some (Blk.fix (D.arr IntKind.u64 (4 : Nat) (nB (18446744073709551616 : Nat) (4 : Nat) (vB (18446744073709551616 : Nat) (nB (18446744073709551616 : Nat) (4 : Nat) x.snd.fst))))) ∧
                                    some (Blk.fix (D.arr IntKind.u64 (4 : Nat) (nB (18446744073709551616 : Nat) (4 : Nat) x.snd.snd))) = some (Blk.fix (D.arr IntKind.u64 (4 : Nat) (nB (18446744073709551616 : Nat) (4 : Nat) (vB (18446744073709551616 : Nat) (nB (18446744073709551616 : Nat) (4 : Nat) x.snd.snd))))) ∧
                                     some (Blk.fix (D.arr IntKind.u64 (4 : Nat) [(0 : Int), (0 : Int), (0 : Int), (0 : Int)])) = some (Blk.fix (D.arr IntKind.u64 (4 : Nat) [(0 : Int), (0 : Int), (0 : Int), (0 : Int)])) ∧
                                      some (Blk.fix (D.arr IntKind.u64 (4 : Nat) [(0 : Int), (0 : Int), (0 : Int), (0 : Int)])) = some (Blk.fix (D.arr IntKind.u64 (4 : Nat) [(0 : Int), (0 : Int), (0 : Int), (0 : Int)])) ∧ True) ∧
                                   true = true) ∧
                                 (vB (18446744073709551616 : Nat) (nB (18446744073709551616 : Nat) (4 : Nat) x.snd.fst) < (115792089237316195423570985008687907853269984665640564039457584007913129639936 : Nat) ∧
                                   vB (18446744073709551616 : Nat) (nB (18446744073709551616 : Nat) (4 : Nat) x.snd.snd) < (115792089237316195423570985008687907853269984665640564039457584007913129639936 : Nat)) ∧
                                  vB (18446744073709551616 : Nat) (nB (18446744073709551616 : Nat) (4 : Nat) x.snd.snd) ≠ (0 : Nat) ∧
                                   (vB (18446744073709551616 : Nat) (nB (18446744073709551616 : Nat) (4 : Nat) x.snd.fst) % (2 : Nat) = (1 : Nat) ∨ vB (18446744073709551616 : Nat) (nB (18446744073709551616 : Nat) (4 : Nat) x.snd.snd) % (2 : Nat) = (1 : Nat)) ∧
                                    (vB (18446744073709551616 : Nat) l).gcd (vB (18446744073709551616 : Nat) m) = (vB (18446744073709551616 : Nat) (nB (18446744073709551616 : Nat) (4 : Nat) x.snd.fst)).gcd (vB (18446744073709551616 : Nat) (nB (18446744073709551616 : Nat) (4 : Nat) x.snd.snd)) * (2 : Nat) ^ (↑x.fst : Int).toNat) ∧
                                ∀ (x_1 : Nat × Nat),
                                 (x_1.fst < (115792089237316195423570985008687907853269984665640564039457584007913129639936 : Nat) ∧ x_1.snd < (115792089237316195423570985008687907853269984665640564039457584007913129639936 : Nat)) ∧
                                   x_1.snd ≠ (0 : Nat) ∧ (x_1.fst % (2 : Nat) = (1 : Nat) ∨ x_1.snd % (2 : Nat) = (1 : Nat)) ∧ (vB (18446744073709551616 : Nat) l).gcd (vB (18446744073709551616 : Nat) m) = x_1.fst.gcd x_1.snd * (2 : Nat) ^ (↑x.fst : Int).toNat →
                                  true = true ∧
                                   ((4 : Nat) ≠ (0 : Nat) ∧ (4 : Nat) = (4 : Nat) ∧ true = true) ∧
                                    ((4 : Nat) ≠ (0 : Nat) ∧ (4 : Nat) = (4 : Nat) ∧ true = true) ∧
                                     (IntKind.u64 = IntKind.u64 ∧ IntKind.u64 = IntKind.u64 ∧ (4 : Nat) = (4 : Nat) ∧ (4 : Nat) = (4 : Nat) ∧ (1 : Nat) = (1 : Nat)) ∧
                                      match !eqB (nB (18446744073709551616 : Nat) (4 : Nat) x_1.fst) [(0 : Int), (0 : Int), (0 : Int), (0 : Int)] with
                                      | true =>
                                       ((True ∧
                                          (some (Blk.fix (D.arr IntKind.u64 (4 : Nat) (nB (18446744073709551616 : Nat) (4 : Nat) x_1.fst))) = some (Blk.fix (D.arr IntKind.u64 (4 : Nat) (nB (18446744073709551616 : Nat) (4 : Nat) (vB (18446744073709551616 : Nat) (nB (18446744073709551616 : Nat) (4 : Nat) x_1.fst))))) ∧
                                            some (Blk.fix (D.arr IntKind.u64 (4 : Nat) (nB (18446744073709551616 : Nat) (4 : Nat) x_1.snd))) = some (Blk.fix (D.arr IntKind.u64 (4 : Nat) (nB (18446744073709551616 : Nat) (4 : Nat) x_1.snd))) ∧
                                             some (Blk.fix (D.arr IntKind.u64 (4 : Nat) [(0 : Int), (0 : Int), (0 : Int), (0 : Int)])) = some (Blk.fix (D.arr IntKind.u64 (4 : Nat) [(0 : Int), (0 : Int), (0 : Int), (0 : Int)])) ∧
                                              some (Blk.fix (D.arr IntKind.u64 (4 : Nat) [(0 : Int), (0 : Int), (0 : Int), (0 : Int)])) = some (Blk.fix (D.arr IntKind.u64 (4 : Nat) [(0 : Int), (0 : Int), (0 : Int), (0 : Int)])) ∧ True) ∧
                                           true = true) ∧
                                         vB (18446744073709551616 : Nat) (nB (18446744073709551616 : Nat) (4 : Nat) x_1.fst) ≠ (0 : Nat) ∧
                                          vB (18446744073709551616 : Nat) (nB (18446744073709551616 : Nat) (4 : Nat) x_1.fst) ≤ vB (18446744073709551616 : Nat) (nB (18446744073709551616 : Nat) (4 : Nat) x_1.fst) ∧
                                           (vB (18446744073709551616 : Nat) (nB (18446744073709551616 : Nat) (4 : Nat) x_1.fst) % (2 : Nat) = (1 : Nat) ∨ vB (18446744073709551616 : Nat) (nB (18446744073709551616 : Nat) (4 : Nat) x_1.snd) % (2 : Nat) = (1 : Nat)) ∧
                                            (vB (18446744073709551616 : Nat) (nB (18446744073709551616 : Nat) (4 : Nat) x_1.fst)).gcd (vB (18446744073709551616 : Nat) (nB (18446744073709551616 : Nat) (4 : Nat) x_1.snd)) =
                                             (vB (18446744073709551616 : Nat) (nB (18446744073709551616 : Nat) (4 : Nat) x_1.fst)).gcd (vB (18446744073709551616 : Nat) (nB (18446744073709551616 : Nat) (4 : Nat) x_1.snd))) ∧
                                        ∀ (x_2 : Nat),
                                         x_2 ≠ (0 : Nat) ∧
                                           x_2 ≤ vB (18446744073709551616 : Nat) (nB (18446744073709551616 : Nat) (4 : Nat) x_1.fst) ∧
                                            (x_2 % (2 : Nat) = (1 : Nat) ∨ vB (18446744073709551616 : Nat) (nB (18446744073709551616 : Nat) (4 : Nat) x_1.snd) % (2 : Nat) = (1 : Nat)) ∧
                                             x_2.gcd (vB (18446744073709551616 : Nat) (nB (18446744073709551616 : Nat) (4 : Nat) x_1.snd)) = (vB (18446744073709551616 : Nat) (nB (18446744073709551616 : Nat) (4 : Nat) x_1.fst)).gcd (vB (18446744073709551616 : Nat) (nB (18446744073709551616 : Nat) (4 : Nat) x_1.snd)) →
                                          true = true ∧
                                           ((0 : Int) ≤ (0 : Int) ∧ (0 : Int) < (↑(4 : Nat) : Int) ∧ (4 : Nat) = (4 : Nat) ∧ (1 : Nat) = (1 : Nat)) ∧
                                            ((1 : Nat) ≠ (0 : Nat) ∧ (1 : Nat) = (1 : Nat) ∧ false = false) ∧
                                             True ∧
                                              True ∧
                                               match iand IntKind.u64 ((nB (18446744073709551616 : Nat) (4 : Nat) x_2).getD (0 : Nat) (0 : Int)) (1 : Int) == (0 : Int) with
                                               | true =>
                                                ((4 : Nat) ≠ (0 : Nat) ∧ (4 : Nat) = (4 : Nat) ∧ true = true) ∧
                                                 (∃ (l : List Int), ∃ (n : Int), [D.arr IntKind.u64 (4 : Nat) (nB (18446744073709551616 : Nat) (4 : Nat) x_2), D.val (Value.int IntKind.i64 (-1 : Int))] = [D.arr IntKind.u64 (4 : Nat) l, D.val (Value.int IntKind.i64 n)] ∧ (okw l ∧ l.length = (4 : Nat)) ∧ i64ok n) ∧
                                                  (Sk.arr (4 : Nat) = Sk.arr (4 : Nat) ∧ (4 : Nat) ≠ (0 : Nat) ∧ (4 : Nat) = (4 : Nat) ∧ false = false) ∧
                                                   (True ∧
                                                     (some (Blk.fix (D.arr IntKind.u64 (4 : Nat) (nB (18446744073709551616 : Nat) (4 : Nat) (shf (vB (18446744073709551616 : Nat) (nB (18446744073709551616 : Nat) (4 : Nat) x_2)) (-1 : Int))))) =
                                                        some (Blk.fix (D.arr IntKind.u64 (4 : Nat) (nB (18446744073709551616 : Nat) (4 : Nat) (vB (18446744073709551616 : Nat) (nB (18446744073709551616 : Nat) (4 : Nat) (shf (vB (18446744073709551616 : Nat) (nB (18446744073709551616 : Nat) (4 : Nat) x_2)) (-1 : Int))))))) ∧
                                                       some (Blk.fix (D.arr IntKind.u64 (4 : Nat) (nB (18446744073709551616 : Nat) (4 : Nat) x_1.snd))) = some (Blk.fix (D.arr IntKind.u64 (4 : Nat) (nB (18446744073709551616 : Nat) (4 : Nat) x_1.snd))) ∧
                                                        some (Blk.fix (D.arr IntKind.u64 (4 : Nat) [(0 : Int), (0 : Int), (0 : Int), (0 : Int)])) = some (Blk.fix (D.arr IntKind.u64 (4 : Nat) [(0 : Int), (0 : Int), (0 : Int), (0 : Int)])) ∧
                                                         some (Blk.fix (D.arr IntKind.u64 (4 : Nat) [(0 : Int), (0 : Int), (0 : Int), (0 : Int)])) = some (Blk.fix (D.arr IntKind.u64 (4 : Nat) [(0 : Int), (0 : Int), (0 : Int), (0 : Int)])) ∧ True) ∧
                                                      true = true) ∧
                                                    (vB (18446744073709551616 : Nat) (nB (18446744073709551616 : Nat) (4 : Nat) (shf (vB (18446744073709551616 : Nat) (nB (18446744073709551616 : Nat) (4 : Nat) x_2)) (-1 : Int))) ≠ (0 : Nat) ∧
                                                      vB (18446744073709551616 : Nat) (nB (18446744073709551616 : Nat) (4 : Nat) (shf (vB (18446744073709551616 : Nat) (nB (18446744073709551616 : Nat) (4 : Nat) x_2)) (-1 : Int))) ≤ vB (18446744073709551616 : Nat) (nB (18446744073709551616 : Nat) (4 : Nat) x_1.fst) ∧
                                                       (vB (18446744073709551616 : Nat) (nB (18446744073709551616 : Nat) (4 : Nat) (shf (vB (18446744073709551616 : Nat) (nB (18446744073709551616 : Nat) (4 : Nat) x_2)) (-1 : Int))) % (2 : Nat) = (1 : Nat) ∨
                                                         vB (18446744073709551616 : Nat) (nB (18446744073709551616 : Nat) (4 : Nat) x_1.snd) % (2 : Nat) = (1 : Nat)) ∧
                                                        (vB (18446744073709551616 : Nat) (nB (18446744073709551616 : Nat) (4 : Nat) (shf (vB (18446744073709551616 : Nat) (nB (18446744073709551616 : Nat) (4 : Nat) x_2)) (-1 : Int)))).gcd (vB (18446744073709551616 : Nat) (nB (18446744073709551616 : Nat) (4 : Nat) x_1.snd)) =
                                                         (vB (18446744073709551616 : Nat) (nB (18446744073709551616 : Nat) (4 : Nat) x_1.fst)).gcd (vB (18446744073709551616 : Nat) (nB (18446744073709551616 : Nat) (4 : Nat) x_1.snd))) ∧
                                                     vB (18446744073709551616 : Nat) (nB (18446744073709551616 : Nat) (4 : Nat) (shf (vB (18446744073709551616 : Nat) (nB (18446744073709551616 : Nat) (4 : Nat) x_2)) (-1 : Int))) < x_2
                                               | false =>
                                                ((True ∧
                                                   (some (Blk.fix (D.arr IntKind.u64 (4 : Nat) (nB (18446744073709551616 : Nat) (4 : Nat) x_2))) = some (Blk.fix (D.arr IntKind.u64 (4 : Nat) (nB (18446744073709551616 : Nat) (4 : Nat) x_2))) ∧
                                                     some (Blk.fix (D.arr IntKind.u64 (4 : Nat) (nB (18446744073709551616 : Nat) (4 : Nat) x_1.snd))) = some (Blk.fix (D.arr IntKind.u64 (4 : Nat) (nB (18446744073709551616 : Nat) (4 : Nat) (vB (18446744073709551616 : Nat) (nB (18446744073709551616 : Nat) (4 : Nat) x_1.snd))))) ∧
                                                      some (Blk.fix (D.arr IntKind.u64 (4 : Nat) [(0 : Int), (0 : Int), (0 : Int), (0 : Int)])) = some (Blk.fix (D.arr IntKind.u64 (4 : Nat) [(0 : Int), (0 : Int), (0 : Int), (0 : Int)])) ∧
                                                       some (Blk.fix (D.arr IntKind.u64 (4 : Nat) [(0 : Int), (0 : Int), (0 : Int), (0 : Int)])) = some (Blk.fix (D.arr IntKind.u64 (4 : Nat) [(0 : Int), (0 : Int), (0 : Int), (0 : Int)])) ∧ True) ∧
                                                    true = true) ∧
                                                  vB (18446744073709551616 : Nat) (nB (18446744073709551616 : Nat) (4 : Nat) x_1.snd) ≠ (0 : Nat) ∧
                                                   vB (18446744073709551616 : Nat) (nB (18446744073709551616 : Nat) (4 : Nat) x_1.snd) ≤ vB (18446744073709551616 : Nat) (nB (18446744073709551616 : Nat) (4 : Nat) x_1.snd) ∧
                                                    (vB (18446744073709551616 : Nat) (nB (18446744073709551616 : Nat) (4 : Nat) x_2)).gcd (vB (18446744073709551616 : Nat) (nB (18446744073709551616 : Nat) (4 : Nat) x_1.snd)) =
                                                     (vB (18446744073709551616 : Nat) (nB (18446744073709551616 : Nat) (4 : Nat) x_2)).gcd (vB (18446744073709551616 : Nat) (nB (18446744073709551616 : Nat) (4 : Nat) x_1.snd))) ∧
                                                 ∀ (x_3 : Nat),
                                                  x_3 ≠ (0 : Nat) ∧
                                                    x_3 ≤ vB (18446744073709551616 : Nat) (nB (18446744073709551616 : Nat) (4 : Nat) x_1.snd) ∧
                                                     (vB (18446744073709551616 : Nat) (nB (18446744073709551616 : Nat) (4 : Nat) x_2)).gcd x_3 = (vB (18446744073709551616 : Nat) (nB (18446744073709551616 : Nat) (4 : Nat) x_2)).gcd (vB (18446744073709551616 : Nat) (nB (18446744073709551616 : Nat) (4 : Nat) x_1.snd)) →
                                                   true = true ∧
                                                    ((0 : Int) ≤ (0 : Int) ∧ (0 : Int) < (↑(4 : Nat) : Int) ∧ (4 : Nat) = (4 : Nat) ∧ (1 : Nat) = (1 : Nat)) ∧
                                                     ((1 : Nat) ≠ (0 : Nat) ∧ (1 : Nat) = (1 : Nat) ∧ false = false) ∧
                                                      True ∧
                                                       True ∧
                                                        match iand IntKind.u64 ((nB (18446744073709551616 : Nat) (4 : Nat) x_3).getD (0 : Nat) (0 : Int)) (1 : Int) == (0 : Int) with
                                                        | true =>
                                                         ((4 : Nat) ≠ (0 : Nat) ∧ (4 : Nat) = (4 : Nat) ∧ true = true) ∧
                                                          (∃ (l : List Int), ∃ (n : Int), [D.arr IntKind.u64 (4 : Nat) (nB (18446744073709551616 : Nat) (4 : Nat) x_3), D.val (Value.int IntKind.i64 (-1 : Int))] = [D.arr IntKind.u64 (4 : Nat) l, D.val (Value.int IntKind.i64 n)] ∧ (okw l ∧ l.length = (4 : Nat)) ∧ i64ok n) ∧
                                                           (Sk.arr (4 : Nat) = Sk.arr (4 : Nat) ∧ (4 : Nat) ≠ (0 : Nat) ∧ (4 : Nat) = (4 : Nat) ∧ false = false) ∧
                                                            (True ∧
                                                              (some (Blk.fix (D.arr IntKind.u64 (4 : Nat) (nB (18446744073709551616 : Nat) (4 : Nat) x_2))) = some (Blk.fix (D.arr IntKind.u64 (4 : Nat) (nB (18446744073709551616 : Nat) (4 : Nat) x_2))) ∧
                                                                some (Blk.fix (D.arr IntKind.u64 (4 : Nat) (nB (18446744073709551616 : Nat) (4 : Nat) (shf (vB (18446744073709551616 : Nat) (nB (18446744073709551616 : Nat) (4 : Nat) x_3)) (-1 : Int))))) =
                                                                  some (Blk.fix (D.arr IntKind.u64 (4 : Nat) (nB (18446744073709551616 : Nat) (4 : Nat) (vB (18446744073709551616 : Nat) (nB (18446744073709551616 : Nat) (4 : Nat) (shf (vB (18446744073709551616 : Nat) (nB (18446744073709551616 : Nat) (4 : Nat) x_3)) (-1 : Int))))))) ∧
                                                                 some (Blk.fix (D.arr IntKind.u64 (4 : Nat) [(0 : Int), (0 : Int), (0 : Int), (0 : Int)])) = some (Blk.fix (D.arr IntKind.u64 (4 : Nat) [(0 : Int), (0 : Int), (0 : Int), (0 : Int)])) ∧
                                                                  some (Blk.fix (D.arr IntKind.u64 (4 : Nat) [(0 : Int), (0 : Int), (0 : Int), (0 : Int)])) = some (Blk.fix (D.arr IntKind.u64 (4 : Nat) [(0 : Int), (0 : Int), (0 : Int), (0 : Int)])) ∧ True) ∧
                                                               true = true) ∧
                                                             (vB (18446744073709551616 : Nat) (nB (18446744073709551616 : Nat) (4 : Nat) (shf (vB (18446744073709551616 : Nat) (nB (18446744073709551616 : Nat) (4 : Nat) x_3)) (-1 : Int))) ≠ (0 : Nat) ∧
                                                               vB (18446744073709551616 : Nat) (nB (18446744073709551616 : Nat) (4 : Nat) (shf (vB (18446744073709551616 : Nat) (nB (18446744073709551616 : Nat) (4 : Nat) x_3)) (-1 : Int))) ≤ vB (18446744073709551616 : Nat) (nB (18446744073709551616 : Nat) (4 : Nat) x_1.snd) ∧
                                                                (vB (18446744073709551616 : Nat) (nB (18446744073709551616 : Nat) (4 : Nat) x_2)).gcd (vB (18446744073709551616 : Nat) (nB (18446744073709551616 : Nat) (4 : Nat) (shf (vB (18446744073709551616 : Nat) (nB (18446744073709551616 : Nat) (4 : Nat) x_3)) (-1 : Int)))) =
                                                                 (vB (18446744073709551616 : Nat) (nB (18446744073709551616 : Nat) (4 : Nat) x_2)).gcd (vB (18446744073709551616 : Nat) (nB (18446744073709551616 : Nat) (4 : Nat) x_1.snd))) ∧
                                                              vB (18446744073709551616 : Nat) (nB (18446744073709551616 : Nat) (4 : Nat) (shf (vB (18446744073709551616 : Nat) (nB (18446744073709551616 : Nat) (4 : Nat) x_3)) (-1 : Int))) < x_3
                                                        | false =>
                                                         ((4 : Nat) ≠ (0 : Nat) ∧ (4 : Nat) = (4 : Nat) ∧ true = true) ∧
                                                          ((4 : Nat) ≠ (0 : Nat) ∧ (4 : Nat) = (4 : Nat) ∧ true = true) ∧
                                                           (∃ (l : List Int),
                                                             ∃ (m : List Int),
                                                              [D.arr IntKind.u64 (4 : Nat) (nB (18446744073709551616 : Nat) (4 : Nat) x_2), D.arr IntKind.u64 (4 : Nat) (nB (18446744073709551616 : Nat) (4 : Nat) x_3)] = [D.arr IntKind.u64 (4 : Nat) l, D.arr IntKind.u64 (4 : Nat) m] ∧
                                                               (okw l ∧ l.length = (4 : Nat)) ∧ okw m ∧ m.length = (4 : Nat)) ∧
                                                            True ∧
                                                             match decide (cmpN (vB (18446744073709551616 : Nat) (nB (18446744073709551616 : Nat) (4 : Nat) x_2)) (vB (18446744073709551616 : Nat) (nB (18446744073709551616 : Nat) (4 : Nat) x_3)) < (0 : Int)) with
                                                             | true =>
                                                              ((4 : Nat) ≠ (0 : Nat) ∧ (4 : Nat) = (4 : Nat) ∧ true = true) ∧
                                                               ((4 : Nat) ≠ (0 : Nat) ∧ (4 : Nat) = (4 : Nat) ∧ true = true) ∧
                                                                (Sk.arr (4 : Nat) = Sk.arr (4 : Nat) ∧ (4 : Nat) ≠ (0 : Nat) ∧ (4 : Nat) = (4 : Nat) ∧ false = false) ∧
                                                                 (Sk.arr (4 : Nat) = Sk.arr (4 : Nat) ∧ (4 : Nat) ≠ (0 : Nat) ∧ (4 : Nat) = (4 : Nat) ∧ false = false) ∧
                                                                  ((4 : Nat) ≠ (0 : Nat) ∧ (4 : Nat) = (4 : Nat) ∧ true = true) ∧
                                                                   ((4 : Nat) ≠ (0 : Nat) ∧ (4 : Nat) = (4 : Nat) ∧ true = true) ∧
                                                                    (∃ (l : List Int),
                                                                      ∃ (m : List Int),
                                                                       [D.arr IntKind.u64 (4 : Nat) (nB (18446744073709551616 : Nat) (4 : Nat) x_3), D.arr IntKind.u64 (4 : Nat) (nB (18446744073709551616 : Nat) (4 : Nat) x_2)] = [D.arr IntKind.u64 (4 : Nat) l, D.arr IntKind.u64 (4 : Nat) m] ∧
                                                                        (okw l ∧ l.length = (4 : Nat)) ∧ okw m ∧ m.length = (4 : Nat)) ∧
                                                                     True ∧
                                                                      ((0 : Nat) < (2 : Nat) ∧ false = false) ∧
                                                                       ((1 : Nat) < (2 : Nat) ∧ false = false) ∧
                                                                        (Sk.arr (4 : Nat) = Sk.arr (4 : Nat) ∧ (4 : Nat) ≠ (0 : Nat) ∧ (4 : Nat) = (4 : Nat) ∧ false = false) ∧
                                                                         (True ∧
                                                                           (some
                                                                               (Blk.fix
                                                                                (D.arr IntKind.u64 (4 : Nat)
                                                                                 (nB (18446744073709551616 : Nat) (4 : Nat) (dif (vB (18446744073709551616 : Nat) (nB (18446744073709551616 : Nat) (4 : Nat) x_3)) (vB (18446744073709551616 : Nat) (nB (18446744073709551616 : Nat) (4 : Nat) x_2)))))) =
                                                                              some
                                                                               (Blk.fix
                                                                                (D.arr IntKind.u64 (4 : Nat)
                                                                                 (nB (18446744073709551616 : Nat) (4 : Nat)
                                                                                  (vB (18446744073709551616 : Nat)
                                                                                   (nB (18446744073709551616 : Nat) (4 : Nat) (dif (vB (18446744073709551616 : Nat) (nB (18446744073709551616 : Nat) (4 : Nat) x_3)) (vB (18446744073709551616 : Nat) (nB (18446744073709551616 : Nat) (4 : Nat) x_2)))))))) ∧
                                                                             some (Blk.fix (D.arr IntKind.u64 (4 : Nat) (nB (18446744073709551616 : Nat) (4 : Nat) x_2))) =
                                                                               some (Blk.fix (D.arr IntKind.u64 (4 : Nat) (nB (18446744073709551616 : Nat) (4 : Nat) (vB (18446744073709551616 : Nat) (nB (18446744073709551616 : Nat) (4 : Nat) x_2))))) ∧
                                                                              some (Blk.fix (D.arr IntKind.u64 (4 : Nat) [(0 : Int), (0 : Int), (0 : Int), (0 : Int)])) = some (Blk.fix (D.arr IntKind.u64 (4 : Nat) [(0 : Int), (0 : Int), (0 : Int), (0 : Int)])) ∧
                                                                               some (Blk.fix (D.arr IntKind.u64 (4 : Nat) [(0 : Int), (0 : Int), (0 : Int), (0 : Int)])) = some (Blk.fix (D.arr IntKind.u64 (4 : Nat) [(0 : Int), (0 : Int), (0 : Int), (0 : Int)])) ∧ True) ∧
                                                                            true = true) ∧
                                                                          ((vB (18446744073709551616 : Nat) (nB (18446744073709551616 : Nat) (4 : Nat) (dif (vB (18446744073709551616 : Nat) (nB (18446744073709551616 : Nat) (4 : Nat) x_3)) (vB (18446744073709551616 : Nat) (nB (18446744073709551616 : Nat) (4 : Nat) x_2)))) <
                                                                              (115792089237316195423570985008687907853269984665640564039457584007913129639936 : Nat) ∧
                                                                             vB (18446744073709551616 : Nat) (nB (18446744073709551616 : Nat) (4 : Nat) x_2) < (115792089237316195423570985008687907853269984665640564039457584007913129639936 : Nat)) ∧
                                                                            vB (18446744073709551616 : Nat) (nB (18446744073709551616 : Nat) (4 : Nat) x_2) ≠ (0 : Nat) ∧
                                                                             (vB (18446744073709551616 : Nat) (nB (18446744073709551616 : Nat) (4 : Nat) (dif (vB (18446744073709551616 : Nat) (nB (18446744073709551616 : Nat) (4 : Nat) x_3)) (vB (18446744073709551616 : Nat) (nB (18446744073709551616 : Nat) (4 : Nat) x_2)))) %
                                                                                 (2 : Nat) =
                                                                                (1 : Nat) ∨
                                                                               vB (18446744073709551616 : Nat) (nB (18446744073709551616 : Nat) (4 : Nat) x_2) % (2 : Nat) = (1 : Nat)) ∧
                                                                              (vB (18446744073709551616 : Nat) l).gcd (vB (18446744073709551616 : Nat) m) =
                                                                               (vB (18446744073709551616 : Nat)
                                                                                   (nB (18446744073709551616 : Nat) (4 : Nat) (dif (vB (18446744073709551616 : Nat) (nB (18446744073709551616 : Nat) (4 : Nat) x_3)) (vB (18446744073709551616 : Nat) (nB (18446744073709551616 : Nat) (4 : Nat) x_2))))).gcd
                                                                                 (vB (18446744073709551616 : Nat) (nB (18446744073709551616 : Nat) (4 : Nat) x_2)) *
                                                                                (2 : Nat) ^ (↑x.fst : Int).toNat) ∧
                                                                           vB (18446744073709551616 : Nat) (nB (18446744073709551616 : Nat) (4 : Nat) (dif (vB (18446744073709551616 : Nat) (nB (18446744073709551616 : Nat) (4 : Nat) x_3)) (vB (18446744073709551616 : Nat) (nB (18446744073709551616 : Nat) (4 : Nat) x_2)))) +
                                                                             vB (18446744073709551616 : Nat) (nB (18446744073709551616 : Nat) (4 : Nat) x_2) <
                                                                            x_1.fst + x_1.snd
                                                             | false =>
                                                              ((4 : Nat) ≠ (0 : Nat) ∧ (4 : Nat) = (4 : Nat) ∧ true = true) ∧
                                                               ((4 : Nat) ≠ (0 : Nat) ∧ (4 : Nat) = (4 : Nat) ∧ true = true) ∧
                                                                (∃ (l : List Int),
                                                                  ∃ (m : List Int),
                                                                   [D.arr IntKind.u64 (4 : Nat) (nB (18446744073709551616 : Nat) (4 : Nat) x_2), D.arr IntKind.u64 (4 : Nat) (nB (18446744073709551616 : Nat) (4 : Nat) x_3)] = [D.arr IntKind.u64 (4 : Nat) l, D.arr IntKind.u64 (4 : Nat) m] ∧
                                                                    (okw l ∧ l.length = (4 : Nat)) ∧ okw m ∧ m.length = (4 : Nat)) ∧
                                                                 True ∧
                                                                  ((0 : Nat) < (2 : Nat) ∧ false = false) ∧
                                                                   ((1 : Nat) < (2 : Nat) ∧ false = false) ∧
                                                                    (Sk.arr (4 : Nat) = Sk.arr (4 : Nat) ∧ (4 : Nat) ≠ (0 : Nat) ∧ (4 : Nat) = (4 : Nat) ∧ false = false) ∧
                                                                     (True ∧
                                                                       (some
                                                                           (Blk.fix
                                                                            (D.arr IntKind.u64 (4 : Nat) (nB (18446744073709551616 : Nat) (4 : Nat) (dif (vB (18446744073709551616 : Nat) (nB (18446744073709551616 : Nat) (4 : Nat) x_2)) (vB (18446744073709551616 : Nat) (nB (18446744073709551616 : Nat) (4 : Nat) x_3)))))) =
                                                                          some
                                                                           (Blk.fix
                                                                            (D.arr IntKind.u64 (4 : Nat)
                                                                             (nB (18446744073709551616 : Nat) (4 : Nat)
                                                                              (vB (18446744073709551616 : Nat)
                                                                               (nB (18446744073709551616 : Nat) (4 : Nat) (dif (vB (18446744073709551616 : Nat) (nB (18446744073709551616 : Nat) (4 : Nat) x_2)) (vB (18446744073709551616 : Nat) (nB (18446744073709551616 : Nat) (4 : Nat) x_3)))))))) ∧
                                                                         some (Blk.fix (D.arr IntKind.u64 (4 : Nat) (nB (18446744073709551616 : Nat) (4 : Nat) x_3))) =
                                                                           some (Blk.fix (D.arr IntKind.u64 (4 : Nat) (nB (18446744073709551616 : Nat) (4 : Nat) (vB (18446744073709551616 : Nat) (nB (18446744073709551616 : Nat) (4 : Nat) x_3))))) ∧
                                                                          some (Blk.fix (D.arr IntKind.u64 (4 : Nat) [(0 : Int), (0 : Int), (0 : Int), (0 : Int)])) = some (Blk.fix (D.arr IntKind.u64 (4 : Nat) [(0 : Int), (0 : Int), (0 : Int), (0 : Int)])) ∧
                                                                           some (Blk.fix (D.arr IntKind.u64 (4 : Nat) [(0 : Int), (0 : Int), (0 : Int), (0 : Int)])) = some (Blk.fix (D.arr IntKind.u64 (4 : Nat) [(0 : Int), (0 : Int), (0 : Int), (0 : Int)])) ∧ True) ∧
                                                                        true = true) ∧
                                                                      ((vB (18446744073709551616 : Nat) (nB (18446744073709551616 : Nat) (4 : Nat) (dif (vB (18446744073709551616 : Nat) (nB (18446744073709551616 : Nat) (4 : Nat) x_2)) (vB (18446744073709551616 : Nat) (nB (18446744073709551616 : Nat) (4 : Nat) x_3)))) <
                                                                          (115792089237316195423570985008687907853269984665640564039457584007913129639936 : Nat) ∧
                                                                         vB (18446744073709551616 : Nat) (nB (18446744073709551616 : Nat) (4 : Nat) x_3) < (115792089237316195423570985008687907853269984665640564039457584007913129639936 : Nat)) ∧
                                                                        vB (18446744073709551616 : Nat) (nB (18446744073709551616 : Nat) (4 : Nat) x_3) ≠ (0 : Nat) ∧
                                                                         (vB (18446744073709551616 : Nat) (nB (18446744073709551616 : Nat) (4 : Nat) (dif (vB (18446744073709551616 : Nat) (nB (18446744073709551616 : Nat) (4 : Nat) x_2)) (vB (18446744073709551616 : Nat) (nB (18446744073709551616 : Nat) (4 : Nat) x_3)))) %
                                                                             (2 : Nat) =
                                                                            (1 : Nat) ∨
                                                                           vB (18446744073709551616 : Nat) (nB (18446744073709551616 : Nat) (4 : Nat) x_3) % (2 : Nat) = (1 : Nat)) ∧
                                                                          (vB (18446744073709551616 : Nat) l).gcd (vB (18446744073709551616 : Nat) m) =
                                                                           (vB (18446744073709551616 : Nat) (nB (18446744073709551616 : Nat) (4 : Nat) (dif (vB (18446744073709551616 : Nat) (nB (18446744073709551616 : Nat) (4 : Nat) x_2)) (vB (18446744073709551616 : Nat) (nB (18446744073709551616 : Nat) (4 : Nat) x_3))))).gcd
                                                                             (vB (18446744073709551616 : Nat) (nB (18446744073709551616 : Nat) (4 : Nat) x_3)) *
                                                                            (2 : Nat) ^ (↑x.fst : Int).toNat) ∧
                                                                       vB (18446744073709551616 : Nat) (nB (18446744073709551616 : Nat) (4 : Nat) (dif (vB (18446744073709551616 : Nat) (nB (18446744073709551616 : Nat) (4 : Nat) x_2)) (vB (18446744073709551616 : Nat) (nB (18446744073709551616 : Nat) (4 : Nat) x_3)))) +
                                                                         vB (18446744073709551616 : Nat) (nB (18446744073709551616 : Nat) (4 : Nat) x_3) <
                                                                        x_1.fst + x_1.snd
                                      | false =>
                                       ((4 : Nat) ≠ (0 : Nat) ∧ (4 : Nat) = (4 : Nat) ∧ true = true) ∧
                                        True ∧
                                         (∃ (l : List Int), ∃ (n : Int), [D.arr IntKind.u64 (4 : Nat) (nB (18446744073709551616 : Nat) (4 : Nat) x_1.snd), D.val (Value.int IntKind.i64 (↑x.fst : Int))] = [D.arr IntKind.u64 (4 : Nat) l, D.val (Value.int IntKind.i64 n)] ∧ (okw l ∧ l.length = (4 : Nat)) ∧ i64ok n) ∧
                                          (Sk.arr (4 : Nat) = Sk.arr (4 : Nat) ∧ (4 : Nat) ≠ (0 : Nat) ∧ (4 : Nat) = (4 : Nat) ∧ false = false) ∧
                                           (((4 : Nat) ≠ (0 : Nat) ∧ (4 : Nat) = (4 : Nat) ∧ true = true) ∧ True) ∧ D.arr IntKind.u64 (4 : Nat) (nB (18446744073709551616 : Nat) (4 : Nat) (shf (vB (18446744073709551616 : Nat) (nB (18446744073709551616 : Nat) (4 : Nat) x_1.snd)) (↑x.fst : Int))) = F
                        | false =>
                         True ∧
                          ((True ∧
                             (some (Blk.fix (D.arr IntKind.u64 (4 : Nat) (nB (18446744073709551616 : Nat) (4 : Nat) x.snd.fst))) = some (Blk.fix (D.arr IntKind.u64 (4 : Nat) (nB (18446744073709551616 : Nat) (4 : Nat) (vB (18446744073709551616 : Nat) (nB (18446744073709551616 : Nat) (4 : Nat) x.snd.fst))))) ∧
                               some (Blk.fix (D.arr IntKind.u64 (4 : Nat) (nB (18446744073709551616 : Nat) (4 : Nat) x.snd.snd))) = some (Blk.fix (D.arr IntKind.u64 (4 : Nat) (nB (18446744073709551616 : Nat) (4 : Nat) (vB (18446744073709551616 : Nat) (nB (18446744073709551616 : Nat) (4 : Nat) x.snd.snd))))) ∧
                                some (Blk.fix (D.arr IntKind.u64 (4 : Nat) [(0 : Int), (0 : Int), (0 : Int), (0 : Int)])) = some (Blk.fix (D.arr IntKind.u64 (4 : Nat) [(0 : Int), (0 : Int), (0 : Int), (0 : Int)])) ∧
                                 some (Blk.fix (D.arr IntKind.u64 (4 : Nat) [(0 : Int), (0 : Int), (0 : Int), (0 : Int)])) = some (Blk.fix (D.arr IntKind.u64 (4 : Nat) [(0 : Int), (0 : Int), (0 : Int), (0 : Int)])) ∧ True) ∧
                              true = true) ∧
                            (vB (18446744073709551616 : Nat) (nB (18446744073709551616 : Nat) (4 : Nat) x.snd.fst) < (115792089237316195423570985008687907853269984665640564039457584007913129639936 : Nat) ∧
                              vB (18446744073709551616 : Nat) (nB (18446744073709551616 : Nat) (4 : Nat) x.snd.snd) < (115792089237316195423570985008687907853269984665640564039457584007913129639936 : Nat)) ∧
                             vB (18446744073709551616 : Nat) (nB (18446744073709551616 : Nat) (4 : Nat) x.snd.snd) ≠ (0 : Nat) ∧
                              (vB (18446744073709551616 : Nat) (nB (18446744073709551616 : Nat) (4 : Nat) x.snd.fst) % (2 : Nat) = (1 : Nat) ∨ vB (18446744073709551616 : Nat) (nB (18446744073709551616 : Nat) (4 : Nat) x.snd.snd) % (2 : Nat) = (1 : Nat)) ∧
                               (vB (18446744073709551616 : Nat) l).gcd (vB (18446744073709551616 : Nat) m) = (vB (18446744073709551616 : Nat) (nB (18446744073709551616 : Nat) (4 : Nat) x.snd.fst)).gcd (vB (18446744073709551616 : Nat) (nB (18446744073709551616 : Nat) (4 : Nat) x.snd.snd)) * (2 : Nat) ^ (↑x.fst : Int).toNat) ∧
                           ∀ (x_1 : Nat × Nat),
                            (x_1.fst < (115792089237316195423570985008687907853269984665640564039457584007913129639936 : Nat) ∧ x_1.snd < (115792089237316195423570985008687907853269984665640564039457584007913129639936 : Nat)) ∧
                              x_1.snd ≠ (0 : Nat) ∧ (x_1.fst % (2 : Nat) = (1 : Nat) ∨ x_1.snd % (2 : Nat) = (1 : Nat)) ∧ (vB (18446744073709551616 : Nat) l).gcd (vB (18446744073709551616 : Nat) m) = x_1.fst.gcd x_1.snd * (2 : Nat) ^ (↑x.fst : Int).toNat →
                             true = true ∧
                              ((4 : Nat) ≠ (0 : Nat) ∧ (4 : Nat) = (4 : Nat) ∧ true = true) ∧
                               ((4 : Nat) ≠ (0 : Nat) ∧ (4 : Nat) = (4 : Nat) ∧ true = true) ∧
                                (IntKind.u64 = IntKind.u64 ∧ IntKind.u64 = IntKind.u64 ∧ (4 : Nat) = (4 : Nat) ∧ (4 : Nat) = (4 : Nat) ∧ (1 : Nat) = (1 : Nat)) ∧
                                 match !eqB (nB (18446744073709551616 : Nat) (4 : Nat) x_1.fst) [(0 : Int), (0 : Int), (0 : Int), (0 : Int)] with
                                 | true =>
                                  ((True ∧
                                     (some (Blk.fix (D.arr IntKind.u64 (4 : Nat) (nB (18446744073709551616 : Nat) (4 : Nat) x_1.fst))) = some (Blk.fix (D.arr IntKind.u64 (4 : Nat) (nB (18446744073709551616 : Nat) (4 : Nat) (vB (18446744073709551616 : Nat) (nB (18446744073709551616 : Nat) (4 : Nat) x_1.fst))))) ∧
                                       some (Blk.fix (D.arr IntKind.u64 (4 : Nat) (nB (18446744073709551616 : Nat) (4 : Nat) x_1.snd))) = some (Blk.fix (D.arr IntKind.u64 (4 : Nat) (nB (18446744073709551616 : Nat) (4 : Nat) x_1.snd))) ∧
                                        some (Blk.fix (D.arr IntKind.u64 (4 : Nat) [(0 : Int), (0 : Int), (0 : Int), (0 : Int)])) = some (Blk.fix (D.arr IntKind.u64 (4 : Nat) [(0 : Int), (0 : Int), (0 : Int), (0 : Int)])) ∧
                                         some (Blk.fix (D.arr IntKind.u64 (4 : Nat) [(0 : Int), (0 : Int), (0 : Int), (0 : Int)])) = some (Blk.fix (D.arr IntKind.u64 (4 : Nat) [(0 : Int), (0 : Int), (0 : Int), (0 : Int)])) ∧ True) ∧
                                      true = true) ∧
                                    vB (18446744073709551616 : Nat) (nB (18446744073709551616 : Nat) (4 : Nat) x_1.fst) ≠ (0 : Nat) ∧
                                     vB (18446744073709551616 : Nat) (nB (18446744073709551616 : Nat) (4 : Nat) x_1.fst) ≤ vB (18446744073709551616 : Nat) (nB (18446744073709551616 : Nat) (4 : Nat) x_1.fst) ∧
                                      (vB (18446744073709551616 : Nat) (nB (18446744073709551616 : Nat) (4 : Nat) x_1.fst) % (2 : Nat) = (1 : Nat) ∨ vB (18446744073709551616 : Nat) (nB (18446744073709551616 : Nat) (4 : Nat) x_1.snd) % (2 : Nat) = (1 : Nat)) ∧
                                       (vB (18446744073709551616 : Nat) (nB (18446744073709551616 : Nat) (4 : Nat) x_1.fst)).gcd (vB (18446744073709551616 : Nat) (nB (18446744073709551616 : Nat) (4 : Nat) x_1.snd)) =
                                        (vB (18446744073709551616 : Nat) (nB (18446744073709551616 : Nat) (4 : Nat) x_1.fst)).gcd (vB (18446744073709551616 : Nat) (nB (18446744073709551616 : Nat) (4 : Nat) x_1.snd))) ∧
                                   ∀ (x_2 : Nat),
                                    x_2 ≠ (0 : Nat) ∧
                                      x_2 ≤ vB (18446744073709551616 : Nat) (nB (18446744073709551616 : Nat) (4 : Nat) x_1.fst) ∧
                                       (x_2 % (2 : Nat) = (1 : Nat) ∨ vB (18446744073709551616 : Nat) (nB (18446744073709551616 : Nat) (4 : Nat) x_1.snd) % (2 : Nat) = (1 : Nat)) ∧
                                        x_2.gcd (vB (18446744073709551616 : Nat) (nB (18446744073709551616 : Nat) (4 : Nat) x_1.snd)) = (vB (18446744073709551616 : Nat) (nB (18446744073709551616 : Nat) (4 : Nat) x_1.fst)).gcd (vB (18446744073709551616 : Nat) (nB (18446744073709551616 : Nat) (4 : Nat) x_1.snd)) →
                                     true = true ∧
                                      ((0 : Int) ≤ (0 : Int) ∧ (0 : Int) < (↑(4 : Nat) : Int) ∧ (4 : Nat) = (4 : Nat) ∧ (1 : Nat) = (1 : Nat)) ∧
                                       ((1 : Nat) ≠ (0 : Nat) ∧ (1 : Nat) = (1 : Nat) ∧ false = false) ∧
                                        True ∧
                                         True ∧
                                          match iand IntKind.u64 ((nB (18446744073709551616 : Nat) (4 : Nat) x_2).getD (0 : Nat) (0 : Int)) (1 : Int) == (0 : Int) with
                                          | true =>
                                           ((4 : Nat) ≠ (0 : Nat) ∧ (4 : Nat) = (4 : Nat) ∧ true = true) ∧
                                            (∃ (l : List Int), ∃ (n : Int), [D.arr IntKind.u64 (4 : Nat) (nB (18446744073709551616 : Nat) (4 : Nat) x_2), D.val (Value.int IntKind.i64 (-1 : Int))] = [D.arr IntKind.u64 (4 : Nat) l, D.val (Value.int IntKind.i64 n)] ∧ (okw l ∧ l.length = (4 : Nat)) ∧ i64ok n) ∧
                                             (Sk.arr (4 : Nat) = Sk.arr (4 : Nat) ∧ (4 : Nat) ≠ (0 : Nat) ∧ (4 : Nat) = (4 : Nat) ∧ false = false) ∧
                                              (True ∧
                                                (some (Blk.fix (D.arr IntKind.u64 (4 : Nat) (nB (18446744073709551616 : Nat) (4 : Nat) (shf (vB (18446744073709551616 : Nat) (nB (18446744073709551616 : Nat) (4 : Nat) x_2)) (-1 : Int))))) =
                                                   some (Blk.fix (D.arr IntKind.u64 (4 : Nat) (nB (18446744073709551616 : Nat) (4 : Nat) (vB (18446744073709551616 : Nat) (nB (18446744073709551616 : Nat) (4 : Nat) (shf (vB (18446744073709551616 : Nat) (nB (18446744073709551616 : Nat) (4 : Nat) x_2)) (-1 : Int))))))) ∧
                                                  some (Blk.fix (D.arr IntKind.u64 (4 : Nat) (nB (18446744073709551616 : Nat) (4 : Nat) x_1.snd))) = some (Blk.fix (D.arr IntKind.u64 (4 : Nat) (nB (18446744073709551616 : Nat) (4 : Nat) x_1.snd))) ∧
                                                   some (Blk.fix (D.arr IntKind.u64 (4 : Nat) [(0 : Int), (0 : Int), (0 : Int), (0 : Int)])) = some (Blk.fix (D.arr IntKind.u64 (4 : Nat) [(0 : Int), (0 : Int), (0 : Int), (0 : Int)])) ∧
                                                    some (Blk.fix (D.arr IntKind.u64 (4 : Nat) [(0 : Int), (0 : Int), (0 : Int), (0 : Int)])) = some (Blk.fix (D.arr IntKind.u64 (4 : Nat) [(0 : Int), (0 : Int), (0 : Int), (0 : Int)])) ∧ True) ∧
                                                 true = true) ∧
                                               (vB (18446744073709551616 : Nat) (nB (18446744073709551616 : Nat) (4 : Nat) (shf (vB (18446744073709551616 : Nat) (nB (18446744073709551616 : Nat) (4 : Nat) x_2)) (-1 : Int))) ≠ (0 : Nat) ∧
                                                 vB (18446744073709551616 : Nat) (nB (18446744073709551616 : Nat) (4 : Nat) (shf (vB (18446744073709551616 : Nat) (nB (18446744073709551616 : Nat) (4 : Nat) x_2)) (-1 : Int))) ≤ vB (18446744073709551616 : Nat) (nB (18446744073709551616 : Nat) (4 : Nat) x_1.fst) ∧
                                                  (vB (18446744073709551616 : Nat) (nB (18446744073709551616 : Nat) (4 : Nat) (shf (vB (18446744073709551616 : Nat) (nB (18446744073709551616 : Nat) (4 : Nat) x_2)) (-1 : Int))) % (2 : Nat) = (1 : Nat) ∨
                                                    vB (18446744073709551616 : Nat) (nB (18446744073709551616 : Nat) (4 : Nat) x_1.snd) % (2 : Nat) = (1 : Nat)) ∧
                                                   (vB (18446744073709551616 : Nat) (nB (18446744073709551616 : Nat) (4 : Nat) (shf (vB (18446744073709551616 : Nat) (nB (18446744073709551616 : Nat) (4 : Nat) x_2)) (-1 : Int)))).gcd (vB (18446744073709551616 : Nat) (nB (18446744073709551616 : Nat) (4 : Nat) x_1.snd)) =
                                                    (vB (18446744073709551616 : Nat) (nB (18446744073709551616 : Nat) (4 : Nat) x_1.fst)).gcd (vB (18446744073709551616 : Nat) (nB (18446744073709551616 : Nat) (4 : Nat) x_1.snd))) ∧
                                                vB (18446744073709551616 : Nat) (nB (18446744073709551616 : Nat) (4 : Nat) (shf (vB (18446744073709551616 : Nat) (nB (18446744073709551616 : Nat) (4 : Nat) x_2)) (-1 : Int))) < x_2
                                          | false =>
                                           ((True ∧
                                              (some (Blk.fix (D.arr IntKind.u64 (4 : Nat) (nB (18446744073709551616 : Nat) (4 : Nat) x_2))) = some (Blk.fix (D.arr IntKind.u64 (4 : Nat) (nB (18446744073709551616 : Nat) (4 : Nat) x_2))) ∧
                                                some (Blk.fix (D.arr IntKind.u64 (4 : Nat) (nB (18446744073709551616 : Nat) (4 : Nat) x_1.snd))) = some (Blk.fix (D.arr IntKind.u64 (4 : Nat) (nB (18446744073709551616 : Nat) (4 : Nat) (vB (18446744073709551616 : Nat) (nB (18446744073709551616 : Nat) (4 : Nat) x_1.snd))))) ∧
                                                 some (Blk.fix (D.arr IntKind.u64 (4 : Nat) [(0 : Int), (0 : Int), (0 : Int), (0 : Int)])) = some (Blk.fix (D.arr IntKind.u64 (4 : Nat) [(0 : Int), (0 : Int), (0 : Int), (0 : Int)])) ∧
                                                  some (Blk.fix (D.arr IntKind.u64 (4 : Nat) [(0 : Int), (0 : Int), (0 : Int), (0 : Int)])) = some (Blk.fix (D.arr IntKind.u64 (4 : Nat) [(0 : Int), (0 : Int), (0 : Int), (0 : Int)])) ∧ True) ∧
                                               true = true) ∧
                                             vB (18446744073709551616 : Nat) (nB (18446744073709551616 : Nat) (4 : Nat) x_1.snd) ≠ (0 : Nat) ∧
                                              vB (18446744073709551616 : Nat) (nB (18446744073709551616 : Nat) (4 : Nat) x_1.snd) ≤ vB (18446744073709551616 : Nat) (nB (18446744073709551616 : Nat) (4 : Nat) x_1.snd) ∧
                                               (vB (18446744073709551616 : Nat) (nB (18446744073709551616 : Nat) (4 : Nat) x_2)).gcd (vB (18446744073709551616 : Nat) (nB (18446744073709551616 : Nat) (4 : Nat) x_1.snd)) =
                                                (vB (18446744073709551616 : Nat) (nB (18446744073709551616 : Nat) (4 : Nat) x_2)).gcd (vB (18446744073709551616 : Nat) (nB (18446744073709551616 : Nat) (4 : Nat) x_1.snd))) ∧
                                            ∀ (x_3 : Nat),
                                             x_3 ≠ (0 : Nat) ∧
                                               x_3 ≤ vB (18446744073709551616 : Nat) (nB (18446744073709551616 : Nat) (4 : Nat) x_1.snd) ∧
                                                (vB (18446744073709551616 : Nat) (nB (18446744073709551616 : Nat) (4 : Nat) x_2)).gcd x_3 = (vB (18446744073709551616 : Nat) (nB (18446744073709551616 : Nat) (4 : Nat) x_2)).gcd (vB (18446744073709551616 : Nat) (nB (18446744073709551616 : Nat) (4 : Nat) x_1.snd)) →
                                              true = true ∧
                                               ((0 : Int) ≤ (0 : Int) ∧ (0 : Int) < (↑(4 : Nat) : Int) ∧ (4 : Nat) = (4 : Nat) ∧ (1 : Nat) = (1 : Nat)) ∧
                                                ((1 : Nat) ≠ (0 : Nat) ∧ (1 : Nat) = (1 : Nat) ∧ false = false) ∧
                                                 True ∧
                                                  True ∧
                                                   match iand IntKind.u64 ((nB (18446744073709551616 : Nat) (4 : Nat) x_3).getD (0 : Nat) (0 : Int)) (1 : Int) == (0 : Int) with
                                                   | true =>
                                                    ((4 : Nat) ≠ (0 : Nat) ∧ (4 : Nat) = (4 : Nat) ∧ true = true) ∧
                                                     (∃ (l : List Int), ∃ (n : Int), [D.arr IntKind.u64 (4 : Nat) (nB (18446744073709551616 : Nat) (4 : Nat) x_3), D.val (Value.int IntKind.i64 (-1 : Int))] = [D.arr IntKind.u64 (4 : Nat) l, D.val (Value.int IntKind.i64 n)] ∧ (okw l ∧ l.length = (4 : Nat)) ∧ i64ok n) ∧
                                                      (Sk.arr (4 : Nat) = Sk.arr (4 : Nat) ∧ (4 : Nat) ≠ (0 : Nat) ∧ (4 : Nat) = (4 : Nat) ∧ false = false) ∧
                                                       (True ∧
                                                         (some (Blk.fix (D.arr IntKind.u64 (4 : Nat) (nB (18446744073709551616 : Nat) (4 : Nat) x_2))) = some (Blk.fix (D.arr IntKind.u64 (4 : Nat) (nB (18446744073709551616 : Nat) (4 : Nat) x_2))) ∧
                                                           some (Blk.fix (D.arr IntKind.u64 (4 : Nat) (nB (18446744073709551616 : Nat) (4 : Nat) (shf (vB (18446744073709551616 : Nat) (nB (18446744073709551616 : Nat) (4 : Nat) x_3)) (-1 : Int))))) =
                                                             some (Blk.fix (D.arr IntKind.u64 (4 : Nat) (nB (18446744073709551616 : Nat) (4 : Nat) (vB (18446744073709551616 : Nat) (nB (18446744073709551616 : Nat) (4 : Nat) (shf (vB (18446744073709551616 : Nat) (nB (18446744073709551616 : Nat) (4 : Nat) x_3)) (-1 : Int))))))) ∧
                                                            some (Blk.fix (D.arr IntKind.u64 (4 : Nat) [(0 : Int), (0 : Int), (0 : Int), (0 : Int)])) = some (Blk.fix (D.arr IntKind.u64 (4 : Nat) [(0 : Int), (0 : Int), (0 : Int), (0 : Int)])) ∧
                                                             some (Blk.fix (D.arr IntKind.u64 (4 : Nat) [(0 : Int), (0 : Int), (0 : Int), (0 : Int)])) = some (Blk.fix (D.arr IntKind.u64 (4 : Nat) [(0 : Int), (0 : Int), (0 : Int), (0 : Int)])) ∧ True) ∧
                                                          true = true) ∧
                                                        (vB (18446744073709551616 : Nat) (nB (18446744073709551616 : Nat) (4 : Nat) (shf (vB (18446744073709551616 : Nat) (nB (18446744073709551616 : Nat) (4 : Nat) x_3)) (-1 : Int))) ≠ (0 : Nat) ∧
                                                          vB (18446744073709551616 : Nat) (nB (18446744073709551616 : Nat) (4 : Nat) (shf (vB (18446744073709551616 : Nat) (nB (18446744073709551616 : Nat) (4 : Nat) x_3)) (-1 : Int))) ≤ vB (18446744073709551616 : Nat) (nB (18446744073709551616 : Nat) (4 : Nat) x_1.snd) ∧
                                                           (vB (18446744073709551616 : Nat) (nB (18446744073709551616 : Nat) (4 : Nat) x_2)).gcd (vB (18446744073709551616 : Nat) (nB (18446744073709551616 : Nat) (4 : Nat) (shf (vB (18446744073709551616 : Nat) (nB (18446744073709551616 : Nat) (4 : Nat) x_3)) (-1 : Int)))) =
                                                            (vB (18446744073709551616 : Nat) (nB (18446744073709551616 : Nat) (4 : Nat) x_2)).gcd (vB (18446744073709551616 : Nat) (nB (18446744073709551616 : Nat) (4 : Nat) x_1.snd))) ∧
                                                         vB (18446744073709551616 : Nat) (nB (18446744073709551616 : Nat) (4 : Nat) (shf (vB (18446744073709551616 : Nat) (nB (18446744073709551616 : Nat) (4 : Nat) x_3)) (-1 : Int))) < x_3
                                                   | false =>
                                                    ((4 : Nat) ≠ (0 : Nat) ∧ (4 : Nat) = (4 : Nat) ∧ true = true) ∧
                                                     ((4 : Nat) ≠ (0 : Nat) ∧ (4 : Nat) = (4 : Nat) ∧ true = true) ∧
                                                      (∃ (l : List Int),
                                                        ∃ (m : List Int),
                                                         [D.arr IntKind.u64 (4 : Nat) (nB (18446744073709551616 : Nat) (4 : Nat) x_2), D.arr IntKind.u64 (4 : Nat) (nB (18446744073709551616 : Nat) (4 : Nat) x_3)] = [D.arr IntKind.u64 (4 : Nat) l, D.arr IntKind.u64 (4 : Nat) m] ∧ (okw l ∧ l.length = (4 : Nat)) ∧ okw m ∧ m.length = (4 : Nat)) ∧
                                                       True ∧
                                                        match decide (cmpN (vB (18446744073709551616 : Nat) (nB (18446744073709551616 : Nat) (4 : Nat) x_2)) (vB (18446744073709551616 : Nat) (nB (18446744073709551616 : Nat) (4 : Nat) x_3)) < (0 : Int)) with
                                                        | true =>
                                                         ((4 : Nat) ≠ (0 : Nat) ∧ (4 : Nat) = (4 : Nat) ∧ true = true) ∧
                                                          ((4 : Nat) ≠ (0 : Nat) ∧ (4 : Nat) = (4 : Nat) ∧ true = true) ∧
                                                           (Sk.arr (4 : Nat) = Sk.arr (4 : Nat) ∧ (4 : Nat) ≠ (0 : Nat) ∧ (4 : Nat) = (4 : Nat) ∧ false = false) ∧
                                                            (Sk.arr (4 : Nat) = Sk.arr (4 : Nat) ∧ (4 : Nat) ≠ (0 : Nat) ∧ (4 : Nat) = (4 : Nat) ∧ false = false) ∧
                                                             ((4 : Nat) ≠ (0 : Nat) ∧ (4 : Nat) = (4 : Nat) ∧ true = true) ∧
                                                              ((4 : Nat) ≠ (0 : Nat) ∧ (4 : Nat) = (4 : Nat) ∧ true = true) ∧
                                                               (∃ (l : List Int),
                                                                 ∃ (m : List Int),
                                                                  [D.arr IntKind.u64 (4 : Nat) (nB (18446744073709551616 : Nat) (4 : Nat) x_3), D.arr IntKind.u64 (4 : Nat) (nB (18446744073709551616 : Nat) (4 : Nat) x_2)] = [D.arr IntKind.u64 (4 : Nat) l, D.arr IntKind.u64 (4 : Nat) m] ∧
                                                                   (okw l ∧ l.length = (4 : Nat)) ∧ okw m ∧ m.length = (4 : Nat)) ∧
                                                                True ∧
                                                                 ((0 : Nat) < (2 : Nat) ∧ false = false) ∧
                                                                  ((1 : Nat) < (2 : Nat) ∧ false = false) ∧
                                                                   (Sk.arr (4 : Nat) = Sk.arr (4 : Nat) ∧ (4 : Nat) ≠ (0 : Nat) ∧ (4 : Nat) = (4 : Nat) ∧ false = false) ∧
                                                                    (True ∧
                                                                      (some (Blk.fix (D.arr IntKind.u64 (4 : Nat) (nB (18446744073709551616 : Nat) (4 : Nat) (dif (vB (18446744073709551616 : Nat) (nB (18446744073709551616 : Nat) (4 : Nat) x_3)) (vB (18446744073709551616 : Nat) (nB (18446744073709551616 : Nat) (4 : Nat) x_2)))))) =
                                                                         some
                                                                          (Blk.fix
                                                                           (D.arr IntKind.u64 (4 : Nat)
                                                                            (nB (18446744073709551616 : Nat) (4 : Nat)
                                                                             (vB (18446744073709551616 : Nat)
                                                                              (nB (18446744073709551616 : Nat) (4 : Nat) (dif (vB (18446744073709551616 : Nat) (nB (18446744073709551616 : Nat) (4 : Nat) x_3)) (vB (18446744073709551616 : Nat) (nB (18446744073709551616 : Nat) (4 : Nat) x_2)))))))) ∧
                                                                        some (Blk.fix (D.arr IntKind.u64 (4 : Nat) (nB (18446744073709551616 : Nat) (4 : Nat) x_2))) =
                                                                          some (Blk.fix (D.arr IntKind.u64 (4 : Nat) (nB (18446744073709551616 : Nat) (4 : Nat) (vB (18446744073709551616 : Nat) (nB (18446744073709551616 : Nat) (4 : Nat) x_2))))) ∧
                                                                         some (Blk.fix (D.arr IntKind.u64 (4 : Nat) [(0 : Int), (0 : Int), (0 : Int), (0 : Int)])) = some (Blk.fix (D.arr IntKind.u64 (4 : Nat) [(0 : Int), (0 : Int), (0 : Int), (0 : Int)])) ∧
                                                                          some (Blk.fix (D.arr IntKind.u64 (4 : Nat) [(0 : Int), (0 : Int), (0 : Int), (0 : Int)])) = some (Blk.fix (D.arr IntKind.u64 (4 : Nat) [(0 : Int), (0 : Int), (0 : Int), (0 : Int)])) ∧ True) ∧
                                                                       true = true) ∧
                                                                     ((vB (18446744073709551616 : Nat) (nB (18446744073709551616 : Nat) (4 : Nat) (dif (vB (18446744073709551616 : Nat) (nB (18446744073709551616 : Nat) (4 : Nat) x_3)) (vB (18446744073709551616 : Nat) (nB (18446744073709551616 : Nat) (4 : Nat) x_2)))) <
                                                                         (115792089237316195423570985008687907853269984665640564039457584007913129639936 : Nat) ∧
                                                                        vB (18446744073709551616 : Nat) (nB (18446744073709551616 : Nat) (4 : Nat) x_2) < (115792089237316195423570985008687907853269984665640564039457584007913129639936 : Nat)) ∧
                                                                       vB (18446744073709551616 : Nat) (nB (18446744073709551616 : Nat) (4 : Nat) x_2) ≠ (0 : Nat) ∧
                                                                        (vB (18446744073709551616 : Nat) (nB (18446744073709551616 : Nat) (4 : Nat) (dif (vB (18446744073709551616 : Nat) (nB (18446744073709551616 : Nat) (4 : Nat) x_3)) (vB (18446744073709551616 : Nat) (nB (18446744073709551616 : Nat) (4 : Nat) x_2)))) %
                                                                            (2 : Nat) =
                                                                           (1 : Nat) ∨
                                                                          vB (18446744073709551616 : Nat) (nB (18446744073709551616 : Nat) (4 : Nat) x_2) % (2 : Nat) = (1 : Nat)) ∧
                                                                         (vB (18446744073709551616 : Nat) l).gcd (vB (18446744073709551616 : Nat) m) =
                                                                          (vB (18446744073709551616 : Nat) (nB (18446744073709551616 : Nat) (4 : Nat) (dif (vB (18446744073709551616 : Nat) (nB (18446744073709551616 : Nat) (4 : Nat) x_3)) (vB (18446744073709551616 : Nat) (nB (18446744073709551616 : Nat) (4 : Nat) x_2))))).gcd
                                                                            (vB (18446744073709551616 : Nat) (nB (18446744073709551616 : Nat) (4 : Nat) x_2)) *
                                                                           (2 : Nat) ^ (↑x.fst : Int).toNat) ∧
                                                                      vB (18446744073709551616 : Nat) (nB (18446744073709551616 : Nat) (4 : Nat) (dif (vB (18446744073709551616 : Nat) (nB (18446744073709551616 : Nat) (4 : Nat) x_3)) (vB (18446744073709551616 : Nat) (nB (18446744073709551616 : Nat) (4 : Nat) x_2)))) +
                                                                        vB (18446744073709551616 : Nat) (nB (18446744073709551616 : Nat) (4 : Nat) x_2) <
                                                                       x_1.fst + x_1.snd
                                                        | false =>
                                                         ((4 : Nat) ≠ (0 : Nat) ∧ (4 : Nat) = (4 : Nat) ∧ true = true) ∧
                                                          ((4 : Nat) ≠ (0 : Nat) ∧ (4 : Nat) = (4 : Nat) ∧ true = true) ∧
                                                           (∃ (l : List Int),
                                                             ∃ (m : List Int),
                                                              [D.arr IntKind.u64 (4 : Nat) (nB (18446744073709551616 : Nat) (4 : Nat) x_2), D.arr IntKind.u64 (4 : Nat) (nB (18446744073709551616 : Nat) (4 : Nat) x_3)] = [D.arr IntKind.u64 (4 : Nat) l, D.arr IntKind.u64 (4 : Nat) m] ∧
                                                               (okw l ∧ l.length = (4 : Nat)) ∧ okw m ∧ m.length = (4 : Nat)) ∧
                                                            True ∧
                                                             ((0 : Nat) < (2 : Nat) ∧ false = false) ∧
                                                              ((1 : Nat) < (2 : Nat) ∧ false = false) ∧
                                                               (Sk.arr (4 : Nat) = Sk.arr (4 : Nat) ∧ (4 : Nat) ≠ (0 : Nat) ∧ (4 : Nat) = (4 : Nat) ∧ false = false) ∧
                                                                (True ∧
                                                                  (some (Blk.fix (D.arr IntKind.u64 (4 : Nat) (nB (18446744073709551616 : Nat) (4 : Nat) (dif (vB (18446744073709551616 : Nat) (nB (18446744073709551616 : Nat) (4 : Nat) x_2)) (vB (18446744073709551616 : Nat) (nB (18446744073709551616 : Nat) (4 : Nat) x_3)))))) =
                                                                     some
                                                                      (Blk.fix
                                                                       (D.arr IntKind.u64 (4 : Nat)
                                                                        (nB (18446744073709551616 : Nat) (4 : Nat)
                                                                         (vB (18446744073709551616 : Nat) (nB (18446744073709551616 : Nat) (4 : Nat) (dif (vB (18446744073709551616 : Nat) (nB (18446744073709551616 : Nat) (4 : Nat) x_2)) (vB (18446744073709551616 : Nat) (nB (18446744073709551616 : Nat) (4 : Nat) x_3)))))))) ∧
                                                                    some (Blk.fix (D.arr IntKind.u64 (4 : Nat) (nB (18446744073709551616 : Nat) (4 : Nat) x_3))) =
                                                                      some (Blk.fix (D.arr IntKind.u64 (4 : Nat) (nB (18446744073709551616 : Nat) (4 : Nat) (vB (18446744073709551616 : Nat) (nB (18446744073709551616 : Nat) (4 : Nat) x_3))))) ∧
                                                                     some (Blk.fix (D.arr IntKind.u64 (4 : Nat) [(0 : Int), (0 : Int), (0 : Int), (0 : Int)])) = some (Blk.fix (D.arr IntKind.u64 (4 : Nat) [(0 : Int), (0 : Int), (0 : Int), (0 : Int)])) ∧
                                                                      some (Blk.fix (D.arr IntKind.u64 (4 : Nat) [(0 : Int), (0 : Int), (0 : Int), (0 : Int)])) = some (Blk.fix (D.arr IntKind.u64 (4 : Nat) [(0 : Int), (0 : Int), (0 : Int), (0 : Int)])) ∧ True) ∧
                                                                   true = true) ∧
                                                                 ((vB (18446744073709551616 : Nat) (nB (18446744073709551616 : Nat) (4 : Nat) (dif (vB (18446744073709551616 : Nat) (nB (18446744073709551616 : Nat) (4 : Nat) x_2)) (vB (18446744073709551616 : Nat) (nB (18446744073709551616 : Nat) (4 : Nat) x_3)))) <
                                                                     (115792089237316195423570985008687907853269984665640564039457584007913129639936 : Nat) ∧
                                                                    vB (18446744073709551616 : Nat) (nB (18446744073709551616 : Nat) (4 : Nat) x_3) < (115792089237316195423570985008687907853269984665640564039457584007913129639936 : Nat)) ∧
                                                                   vB (18446744073709551616 : Nat) (nB (18446744073709551616 : Nat) (4 : Nat) x_3) ≠ (0 : Nat) ∧
                                                                    (vB (18446744073709551616 : Nat) (nB (18446744073709551616 : Nat) (4 : Nat) (dif (vB (18446744073709551616 : Nat) (nB (18446744073709551616 : Nat) (4 : Nat) x_2)) (vB (18446744073709551616 : Nat) (nB (18446744073709551616 : Nat) (4 : Nat) x_3)))) % (2 : Nat) =
                                                                       (1 : Nat) ∨
                                                                      vB (18446744073709551616 : Nat) (nB (18446744073709551616 : Nat) (4 : Nat) x_3) % (2 : Nat) = (1 : Nat)) ∧
                                                                     (vB (18446744073709551616 : Nat) l).gcd (vB (18446744073709551616 : Nat) m) =
                                                                      (vB (18446744073709551616 : Nat) (nB (18446744073709551616 : Nat) (4 : Nat) (dif (vB (18446744073709551616 : Nat) (nB (18446744073709551616 : Nat) (4 : Nat) x_2)) (vB (18446744073709551616 : Nat) (nB (18446744073709551616 : Nat) (4 : Nat) x_3))))).gcd
                                                                        (vB (18446744073709551616 : Nat) (nB (18446744073709551616 : Nat) (4 : Nat) x_3)) *
                                                                       (2 : Nat) ^ (↑x.fst : Int).toNat) ∧
                                                                  vB (18446744073709551616 : Nat) (nB (18446744073709551616 : Nat) (4 : Nat) (dif (vB (18446744073709551616 : Nat) (nB (18446744073709551616 : Nat) (4 : Nat) x_2)) (vB (18446744073709551616 : Nat) (nB (18446744073709551616 : Nat) (4 : Nat) x_3)))) +
                                                                    vB (18446744073709551616 : Nat) (nB (18446744073709551616 : Nat) (4 : Nat) x_3) <
                                                                   x_1.fst + x_1.snd
                                 | false =>
                                  ((4 : Nat) ≠ (0 : Nat) ∧ (4 : Nat) = (4 : Nat) ∧ true = true) ∧
                                   True ∧
                                    (∃ (l : List Int), ∃ (n : Int), [D.arr IntKind.u64 (4 : Nat) (nB (18446744073709551616 : Nat) (4 : Nat) x_1.snd), D.val (Value.int IntKind.i64 (↑x.fst : Int))] = [D.arr IntKind.u64 (4 : Nat) l, D.val (Value.int IntKind.i64 n)] ∧ (okw l ∧ l.length = (4 : Nat)) ∧ i64ok n) ∧
                                     (Sk.arr (4 : Nat) = Sk.arr (4 : Nat) ∧ (4 : Nat) ≠ (0 : Nat) ∧ (4 : Nat) = (4 : Nat) ∧ false = false) ∧
                                      (((4 : Nat) ≠ (0 : Nat) ∧ (4 : Nat) = (4 : Nat) ∧ true = true) ∧ True) ∧ D.arr IntKind.u64 (4 : Nat) (nB (18446744073709551616 : Nat) (4 : Nat) (shf (vB (18446744073709551616 : Nat) (nB (18446744073709551616 : Nat) (4 : Nat) x_1.snd)) (↑x.fst : Int))) = F) := by kernel_rfl

end Go.Proofs.Ytcdjhhepgkcabaa
