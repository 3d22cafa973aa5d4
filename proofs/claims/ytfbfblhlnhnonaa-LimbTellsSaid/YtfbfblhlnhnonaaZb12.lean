/- The law LimbTells: what it owes. -/
import Derived.Test.YtfbfblhlnhnonaaZb11
namespace Go.Proofs.Ytfbfblhlnhnonaa
open Go Go.Vg

noncomputable def c4 : Ctx := ⟨tab, lkS [(14, sp14), (15, sp15), (16, sp16), (17, sp17), (18, sp18), (19, sp19), (20, sp20), (21, sp21), (22, sp22), (23, sp23), (24, sp24), (25, sp25), (26, sp26), (27, sp27), (28, sp28), (29, sp29), (30, sp30), (31, sp31)], [], [167]⟩
def bitK (v : Nat) (i : Int) (k : Nat) : Nat := if 0 ≤ i ∧ i < k then v / 2 ^ i.toNat % 2 else 0
def shE (v : Nat) (i : Int) (k j : Nat) : Nat := if (-255 ≤ i ∧ i ≤ 255) ∧ 0 ≤ (j : Int) - i ∧ (j : Int) - i < k then v / 2 ^ ((j : Int) - i).toNat % 2 else 0
def shL (v : Nat) (i : Int) (k : Nat) : List Int := (List.range 256).map fun j => ((shE v i k j : Nat) : Int)
def inv4 (l m : List Int) (i : Int) (c : Nat) : Nat → Option Inv
  | 100005 => some ⟨Nat, fun _ => [(12, .d (u64n (smC (wv l) (wv m))))], fun _ => [], fun _ => 0, fun _ _ => True, fun _ => 0⟩
  | 100008 => some ⟨Nat, fun _ => [(13, .d (u64n (bor (wv l) (wv m))))], fun _ => [], fun _ => 0, fun _ _ => True, fun _ => 0⟩
  | 100036 => some ⟨Nat, fun _ => [], fun _ => [(26, .fix (num4 (pkL c l m)))], fun _ => 0, fun _ _ => True, fun _ => 0⟩
  | 18 => some ⟨Nat, fun k => [(99, .d (i64 k)), (19, .d (i64n (bitK (wv l) i k))), (20, .d (i64n (bl2 (wv l % 2 ^ k))))], fun _ => [], fun s => (slotN s 99).toNat, fun _ k => k ≤ 256, fun k => 256 - k⟩
  | 29 => some ⟨Nat, fun k => [(128, .d (i64 k))], fun k => [(125, .fix (.arr .i64 256 (shL (wv l) i k)))], fun s => (slotN s 128).toNat, fun _ k => k ≤ 256, fun k => 256 - k⟩
  | _ => none
--KEEP Nat.gcd Go.Vg.eqB Go.Vg.vB Go.Vg.nB Go.Vg.okd Go.Vg.okw Go.Vg.dg Go.Vg.dig Go.Vg.trimL okb lenOk lenS len1 sbd sbb dif bor cmpN shf i64ok subL dvq dvr dve sbD adl adc mulL mulH stL stH smN smC addL addK TimI TimJ isN invN ivX ivE InvI bl2 bitN pkL pkI isBits bitK shL dgP
set_option maxRecDepth 100000 in
theorem vc4  (l m : List Int) (i : Int) (c : Nat) (F : D)  :
    (owed c4 (inv4 l m i c) Try.f4 [num4 l, num4 m, i64 i, u64n c] F) = (
 (True ∧ false = false) ∧
   (True ∧ false = false) ∧
    True ∧
     ((4 : Nat) ≠ (0 : Nat) ∧ (4 : Nat) = (4 : Nat) ∧ true = true) ∧
      (∃ (l_1 : List Int), [D.arr IntKind.u64 (4 : Nat) l] = [D.arr IntKind.u64 (4 : Nat) l_1] ∧ okw l_1 ∧ l_1.length = (4 : Nat)) ∧
       ((4 : Nat) ≠ (0 : Nat) ∧ (4 : Nat) = (4 : Nat) ∧ true = true) ∧
        (∃ (l : List Int), [D.arr IntKind.u64 (4 : Nat) m] = [D.arr IntKind.u64 (4 : Nat) l] ∧ okw l ∧ l.length = (4 : Nat)) ∧
         True ∧
          True ∧
           True ∧
            True ∧
             (∃ (l_1 : List Int), ∃ (m_1 : List Int), [D.ints IntKind.i64 (dg (vB (18446744073709551616 : Nat) l)), D.ints IntKind.i64 (dg (vB (18446744073709551616 : Nat) m))] = [D.ints IntKind.i64 l_1, D.ints IntKind.i64 m_1] ∧ (okd l_1 ∧ lenS l_1) ∧ okd m_1 ∧ lenS m_1) ∧
              True ∧
               True ∧
                True ∧
                 (∃ (n : Int), [D.val (Value.int IntKind.i64 (256 : Int))] = [D.val (Value.int IntKind.i64 n)] ∧ (0 : Int) ≤ n ∧ n ≤ (1048576 : Int)) ∧
                  (∃ (l_1 : List Int), ∃ (m_1 : List Int), [D.ints IntKind.i64 (dg (vB (65536 : Nat) (dg (vB (18446744073709551616 : Nat) l)) + vB (65536 : Nat) (dg (vB (18446744073709551616 : Nat) m)))), D.ints IntKind.i64 (dgP (256 : Nat))] = [D.ints IntKind.i64 l_1, D.ints IntKind.i64 m_1] ∧ (okd l_1 ∧ lenS l_1) ∧ okd m_1 ∧ lenS m_1) ∧
                   True ∧
                    (match decide (cmpN (vB (65536 : Nat) (dg (vB (65536 : Nat) (dg (vB (18446744073709551616 : Nat) l)) + vB (65536 : Nat) (dg (vB (18446744073709551616 : Nat) m))))) (vB (65536 : Nat) (dgP (256 : Nat))) ≥ (0 : Int)) with
                     | true =>
                      True ∧
                       ((AV.d (D.val (Value.int IntKind.u64 (1 : Int))) = AV.d (D.val (Value.int IntKind.u64 (↑(smC (vB (18446744073709551616 : Nat) l) (vB (18446744073709551616 : Nat) m)) : Int))) ∧ True) ∧
                         (some (Blk.fix (D.arr IntKind.u64 (4 : Nat) l)) = some (Blk.fix (D.arr IntKind.u64 (4 : Nat) l)) ∧ some (Blk.fix (D.arr IntKind.u64 (4 : Nat) m)) = some (Blk.fix (D.arr IntKind.u64 (4 : Nat) m)) ∧ True) ∧ true = true) ∧
                        True
                     | false =>
                      ((AV.d (D.val (Value.int IntKind.u64 (0 : Int))) = AV.d (D.val (Value.int IntKind.u64 (↑(smC (vB (18446744073709551616 : Nat) l) (vB (18446744073709551616 : Nat) m)) : Int))) ∧ True) ∧
                        (some (Blk.fix (D.arr IntKind.u64 (4 : Nat) l)) = some (Blk.fix (D.arr IntKind.u64 (4 : Nat) l)) ∧ some (Blk.fix (D.arr IntKind.u64 (4 : Nat) m)) = some (Blk.fix (D.arr IntKind.u64 (4 : Nat) m)) ∧ True) ∧ true = true) ∧
                       True) ∧
                     ∀ (z : Nat),
                      True →
                       true = true ∧
                        True ∧
                         True ∧
                          True ∧
                           (∃ (l_1 : List Int), ∃ (m_1 : List Int), [D.ints IntKind.i64 (dg (vB (18446744073709551616 : Nat) l)), D.ints IntKind.i64 (dg (vB (18446744073709551616 : Nat) m))] = [D.ints IntKind.i64 l_1, D.ints IntKind.i64 m_1] ∧ (okd l_1 ∧ lenS l_1) ∧ okd m_1 ∧ lenS m_1) ∧
                            True ∧
                             (match decide (cmpN (vB (65536 : Nat) (dg (vB (18446744073709551616 : Nat) l))) (vB (65536 : Nat) (dg (vB (18446744073709551616 : Nat) m))) < (0 : Int)) with
                              | true =>
                               True ∧
                                ((AV.d (D.val (Value.int IntKind.u64 (1 : Int))) = AV.d (D.val (Value.int IntKind.u64 (↑(bor (vB (18446744073709551616 : Nat) l) (vB (18446744073709551616 : Nat) m)) : Int))) ∧ True) ∧
                                  (some (Blk.fix (D.arr IntKind.u64 (4 : Nat) l)) = some (Blk.fix (D.arr IntKind.u64 (4 : Nat) l)) ∧ some (Blk.fix (D.arr IntKind.u64 (4 : Nat) m)) = some (Blk.fix (D.arr IntKind.u64 (4 : Nat) m)) ∧ True) ∧ true = true) ∧
                                 True
                              | false =>
                               ((AV.d (D.val (Value.int IntKind.u64 (0 : Int))) = AV.d (D.val (Value.int IntKind.u64 (↑(bor (vB (18446744073709551616 : Nat) l) (vB (18446744073709551616 : Nat) m)) : Int))) ∧ True) ∧
                                 (some (Blk.fix (D.arr IntKind.u64 (4 : Nat) l)) = some (Blk.fix (D.arr IntKind.u64 (4 : Nat) l)) ∧ some (Blk.fix (D.arr IntKind.u64 (4 : Nat) m)) = some (Blk.fix (D.arr IntKind.u64 (4 : Nat) m)) ∧ True) ∧ true = true) ∧
                                True) ∧
                              ∀ (z : Nat),
                               True →
                                true = true ∧
                                 ((4 : Nat) ≠ (0 : Nat) ∧ (4 : Nat) = (4 : Nat) ∧ true = true) ∧
                                  ((4 : Nat) ≠ (0 : Nat) ∧ (4 : Nat) = (4 : Nat) ∧ true = true) ∧
                                   (∃ (l_1 : List Int), ∃ (m_1 : List Int), [D.arr IntKind.u64 (4 : Nat) l, D.arr IntKind.u64 (4 : Nat) m] = [D.arr IntKind.u64 (4 : Nat) l_1, D.arr IntKind.u64 (4 : Nat) m_1] ∧ isN l_1 ∧ isN m_1) ∧
                                    True ∧
                                     ((0 : Nat) < (2 : Nat) ∧ false = false) ∧
                                      ((1 : Nat) < (2 : Nat) ∧ false = false) ∧
                                       (True ∧ (4 : Nat) ≠ (0 : Nat)) ∧
                                        (Sk.arr (4 : Nat) = Sk.arr (4 : Nat) ∧ (4 : Nat) ≠ (0 : Nat) ∧ (4 : Nat) = (4 : Nat) ∧ false = false) ∧
                                         True ∧
                                          ((4 : Nat) ≠ (0 : Nat) ∧ (4 : Nat) = (4 : Nat) ∧ true = true) ∧
                                           ((4 : Nat) ≠ (0 : Nat) ∧ (4 : Nat) = (4 : Nat) ∧ true = true) ∧
                                            (∃ (l_1 : List Int), ∃ (m_1 : List Int), [D.arr IntKind.u64 (4 : Nat) l, D.arr IntKind.u64 (4 : Nat) m] = [D.arr IntKind.u64 (4 : Nat) l_1, D.arr IntKind.u64 (4 : Nat) m_1] ∧ (okw l_1 ∧ l_1.length = (4 : Nat)) ∧ okw m_1 ∧ m_1.length = (4 : Nat)) ∧
                                             True ∧
                                              ((0 : Nat) < (2 : Nat) ∧ false = false) ∧
                                               ((1 : Nat) < (2 : Nat) ∧ false = false) ∧
                                                (True ∧ (4 : Nat) ≠ (0 : Nat)) ∧
                                                 (Sk.arr (4 : Nat) = Sk.arr (4 : Nat) ∧ (4 : Nat) ≠ (0 : Nat) ∧ (4 : Nat) = (4 : Nat) ∧ false = false) ∧
                                                  True ∧
                                                   ((4 : Nat) ≠ (0 : Nat) ∧ (4 : Nat) = (4 : Nat) ∧ true = true) ∧
                                                    True ∧
                                                     (∃ (l_1 : List Int), [D.ints IntKind.i64 (dg (vB (65536 : Nat) (dg (vB (18446744073709551616 : Nat) l)) + vB (65536 : Nat) (dg (vB (18446744073709551616 : Nat) m))))] = [D.ints IntKind.i64 l_1] ∧ okd l_1 ∧ lenOk l_1) ∧
                                                      (IntKind.u64 = IntKind.u64 ∧ IntKind.u64 = IntKind.u64 ∧ (4 : Nat) = (4 : Nat) ∧ (4 : Nat) = (4 : Nat) ∧ (1 : Nat) = (1 : Nat)) ∧
                                                       True ∧
                                                        match
                                                         !eqB (nB (18446744073709551616 : Nat) (4 : Nat) (smN (vB (18446744073709551616 : Nat) l) (vB (18446744073709551616 : Nat) m)))
                                                           (nB (18446744073709551616 : Nat) (4 : Nat) (vB (65536 : Nat) (dg (vB (65536 : Nat) (dg (vB (18446744073709551616 : Nat) l)) + vB (65536 : Nat) (dg (vB (18446744073709551616 : Nat) m)))))) with
                                                        | true => True ∧ True ∧ True ∧ True ∧ True ∧ True ∧ (false = false ∧ True) ∧ D.val (Value.bool false) = F
                                                        | false =>
                                                         True ∧
                                                          True ∧
                                                           True ∧
                                                            True ∧
                                                             True ∧
                                                              match (↑(smC (vB (18446744073709551616 : Nat) l) (vB (18446744073709551616 : Nat) m)) : Int) != (↑(smC (vB (18446744073709551616 : Nat) l) (vB (18446744073709551616 : Nat) m)) : Int) with
                                                              | true => True ∧ True ∧ True ∧ True ∧ (false = false ∧ True) ∧ D.val (Value.bool false) = F
                                                              | false =>
                                                               ((4 : Nat) ≠ (0 : Nat) ∧ (4 : Nat) = (4 : Nat) ∧ true = true) ∧
                                                                True ∧
                                                                 (∃ (n : Int), [D.val (Value.int IntKind.i64 (256 : Int))] = [D.val (Value.int IntKind.i64 n)] ∧ (0 : Int) ≤ n ∧ n ≤ (1048576 : Int)) ∧
                                                                  (∃ (l_1 : List Int), ∃ (m : List Int), [D.ints IntKind.i64 (dg (vB (18446744073709551616 : Nat) l)), D.ints IntKind.i64 (dgP (256 : Nat))] = [D.ints IntKind.i64 l_1, D.ints IntKind.i64 m] ∧ (okd l_1 ∧ lenS l_1) ∧ okd m ∧ lenS m) ∧
                                                                   True ∧
                                                                    (∃ (l_1 : List Int),
                                                                      ∃ (m_1 : List Int),
                                                                       [D.ints IntKind.i64 (dg (vB (65536 : Nat) (dg (vB (18446744073709551616 : Nat) l)) + vB (65536 : Nat) (dgP (256 : Nat)))), D.ints IntKind.i64 (dg (vB (18446744073709551616 : Nat) m))] = [D.ints IntKind.i64 l_1, D.ints IntKind.i64 m_1] ∧
                                                                        (okd l_1 ∧ lenS l_1) ∧ (okd m_1 ∧ lenS m_1) ∧ vB (65536 : Nat) m_1 ≤ vB (65536 : Nat) l_1) ∧
                                                                     (∃ (l_1 : List Int),
                                                                       [D.ints IntKind.i64 (dg (vB (65536 : Nat) (dg (vB (65536 : Nat) (dg (vB (18446744073709551616 : Nat) l)) + vB (65536 : Nat) (dgP (256 : Nat)))) - vB (65536 : Nat) (dg (vB (18446744073709551616 : Nat) m))))] = [D.ints IntKind.i64 l_1] ∧ okd l_1 ∧ lenOk l_1) ∧
                                                                      (IntKind.u64 = IntKind.u64 ∧ IntKind.u64 = IntKind.u64 ∧ (4 : Nat) = (4 : Nat) ∧ (4 : Nat) = (4 : Nat) ∧ (1 : Nat) = (1 : Nat)) ∧
                                                                       True ∧
                                                                        True ∧
                                                                         match
                                                                          !eqB (nB (18446744073709551616 : Nat) (4 : Nat) (dif (vB (18446744073709551616 : Nat) l) (vB (18446744073709551616 : Nat) m)))
                                                                            (nB (18446744073709551616 : Nat) (4 : Nat)
                                                                             (vB (65536 : Nat) (dg (vB (65536 : Nat) (dg (vB (65536 : Nat) (dg (vB (18446744073709551616 : Nat) l)) + vB (65536 : Nat) (dgP (256 : Nat)))) - vB (65536 : Nat) (dg (vB (18446744073709551616 : Nat) m)))))) with
                                                                         | true => True ∧ True ∧ (false = false ∧ True) ∧ D.val (Value.bool false) = F
                                                                         | false =>
                                                                          True ∧
                                                                           True ∧
                                                                            True ∧
                                                                             True ∧
                                                                              match (↑(bor (vB (18446744073709551616 : Nat) l) (vB (18446744073709551616 : Nat) m)) : Int) != (↑(bor (vB (18446744073709551616 : Nat) l) (vB (18446744073709551616 : Nat) m)) : Int) with
                                                                              | true => True ∧ (false = false ∧ True) ∧ D.val (Value.bool false) = F
                                                                              | false =>
                                                                               ((4 : Nat) ≠ (0 : Nat) ∧ (4 : Nat) = (4 : Nat) ∧ true = true) ∧
                                                                                ((4 : Nat) ≠ (0 : Nat) ∧ (4 : Nat) = (4 : Nat) ∧ true = true) ∧
                                                                                 (∃ (l_1 : List Int), ∃ (m_1 : List Int), [D.arr IntKind.u64 (4 : Nat) l, D.arr IntKind.u64 (4 : Nat) m] = [D.arr IntKind.u64 (4 : Nat) l_1, D.arr IntKind.u64 (4 : Nat) m_1] ∧ isN l_1 ∧ isN m_1) ∧
                                                                                  True ∧
                                                                                   True ∧
                                                                                    (∃ (l_1 : List Int),
                                                                                      ∃ (m_1 : List Int),
                                                                                       [D.ints IntKind.i64 (dg (vB (18446744073709551616 : Nat) l)), D.ints IntKind.i64 (dg (vB (18446744073709551616 : Nat) m))] = [D.ints IntKind.i64 l_1, D.ints IntKind.i64 m_1] ∧ (okd l_1 ∧ lenS l_1) ∧ okd m_1 ∧ lenS m_1) ∧
                                                                                     (∃ (l_1 : List Int), [D.ints IntKind.i64 (dg (vB (65536 : Nat) (dg (vB (18446744073709551616 : Nat) l)) * vB (65536 : Nat) (dg (vB (18446744073709551616 : Nat) m))))] = [D.ints IntKind.i64 l_1] ∧ okd l_1 ∧ lenOk l_1) ∧
                                                                                      (IntKind.u64 = IntKind.u64 ∧ IntKind.u64 = IntKind.u64 ∧ (8 : Nat) = (8 : Nat) ∧ (8 : Nat) = (8 : Nat) ∧ (1 : Nat) = (1 : Nat)) ∧
                                                                                       True ∧
                                                                                        match
                                                                                         !eqB (nB (18446744073709551616 : Nat) (8 : Nat) (vB (18446744073709551616 : Nat) l * vB (18446744073709551616 : Nat) m))
                                                                                           (nB (18446744073709551616 : Nat) (8 : Nat) (vB (65536 : Nat) (dg (vB (65536 : Nat) (dg (vB (18446744073709551616 : Nat) l)) * vB (65536 : Nat) (dg (vB (18446744073709551616 : Nat) m)))))) with
                                                                                        | true => True ∧ True ∧ (false = false ∧ True) ∧ D.val (Value.bool false) = F
                                                                                        | false =>
                                                                                         ((4 : Nat) ≠ (0 : Nat) ∧ (4 : Nat) = (4 : Nat) ∧ true = true) ∧
                                                                                          ((4 : Nat) ≠ (0 : Nat) ∧ (4 : Nat) = (4 : Nat) ∧ true = true) ∧
                                                                                           (∃ (l_1 : List Int),
                                                                                             ∃ (m_1 : List Int),
                                                                                              [D.arr IntKind.u64 (4 : Nat) l, D.arr IntKind.u64 (4 : Nat) m] = [D.arr IntKind.u64 (4 : Nat) l_1, D.arr IntKind.u64 (4 : Nat) m_1] ∧ (okw l_1 ∧ l_1.length = (4 : Nat)) ∧ okw m_1 ∧ m_1.length = (4 : Nat)) ∧
                                                                                            True ∧
                                                                                             True ∧
                                                                                              (∃ (l_1 : List Int),
                                                                                                ∃ (m_1 : List Int),
                                                                                                 [D.ints IntKind.i64 (dg (vB (18446744073709551616 : Nat) l)), D.ints IntKind.i64 (dg (vB (18446744073709551616 : Nat) m))] = [D.ints IntKind.i64 l_1, D.ints IntKind.i64 m_1] ∧
                                                                                                  (okd l_1 ∧ lenS l_1) ∧ okd m_1 ∧ lenS m_1) ∧
                                                                                               True ∧
                                                                                                True ∧
                                                                                                 match
                                                                                                  cmpN (vB (18446744073709551616 : Nat) l) (vB (18446744073709551616 : Nat) m) !=
                                                                                                   cmpN (vB (65536 : Nat) (dg (vB (18446744073709551616 : Nat) l))) (vB (65536 : Nat) (dg (vB (18446744073709551616 : Nat) m))) with
                                                                                                 | true => True ∧ (false = false ∧ True) ∧ D.val (Value.bool false) = F
                                                                                                 | false =>
                                                                                                  True ∧
                                                                                                   (∃ (l_1 : List Int),
                                                                                                     ∃ (n : Int),
                                                                                                      [D.ints IntKind.i64 (dg (vB (18446744073709551616 : Nat) l)), D.val (Value.int IntKind.i64 (256 : Int))] = [D.ints IntKind.i64 l_1, D.val (Value.int IntKind.i64 n)] ∧
                                                                                                       okd l_1 ∧ lenOk l_1 ∧ (0 : Int) ≤ n ∧ n ≤ (16777216 : Int)) ∧
                                                                                                    True ∧
                                                                                                     True ∧
                                                                                                      True ∧
                                                                                                       True ∧
                                                                                                        True ∧
                                                                                                         True ∧
                                                                                                          (((AV.d (D.val (Value.int IntKind.i64 (0 : Int))) = AV.d (D.val (Value.int IntKind.i64 (↑(Int.toNat (0 : Int)) : Int))) ∧
                                                                                                              AV.d (D.val (Value.int IntKind.i64 (0 : Int))) = AV.d (D.val (Value.int IntKind.i64 (↑(bitK (vB (18446744073709551616 : Nat) l) i (Int.toNat (0 : Int))) : Int))) ∧
                                                                                                               AV.d (D.val (Value.int IntKind.i64 (0 : Int))) = AV.d (D.val (Value.int IntKind.i64 (↑(bl2 (vB (18446744073709551616 : Nat) l % (1 : Nat))) : Int))) ∧ True) ∧
                                                                                                             (some (Blk.fix (D.arr IntKind.u64 (4 : Nat) l)) = some (Blk.fix (D.arr IntKind.u64 (4 : Nat) l)) ∧
                                                                                                               some (Blk.fix (D.arr IntKind.u64 (4 : Nat) m)) = some (Blk.fix (D.arr IntKind.u64 (4 : Nat) m)) ∧
                                                                                                                some (Blk.fix (D.arr IntKind.u64 (4 : Nat) (nB (18446744073709551616 : Nat) (4 : Nat) (smN (vB (18446744073709551616 : Nat) l) (vB (18446744073709551616 : Nat) m))))) =
                                                                                                                  some (Blk.fix (D.arr IntKind.u64 (4 : Nat) (nB (18446744073709551616 : Nat) (4 : Nat) (smN (vB (18446744073709551616 : Nat) l) (vB (18446744073709551616 : Nat) m))))) ∧
                                                                                                                 some (Blk.fix (D.arr IntKind.u64 (4 : Nat) (nB (18446744073709551616 : Nat) (4 : Nat) (dif (vB (18446744073709551616 : Nat) l) (vB (18446744073709551616 : Nat) m))))) =
                                                                                                                   some (Blk.fix (D.arr IntKind.u64 (4 : Nat) (nB (18446744073709551616 : Nat) (4 : Nat) (dif (vB (18446744073709551616 : Nat) l) (vB (18446744073709551616 : Nat) m))))) ∧
                                                                                                                  True) ∧
                                                                                                              true = true) ∧
                                                                                                            Int.toNat (0 : Int) ≤ (256 : Nat)) ∧
                                                                                                           ∀ (x : Nat),
                                                                                                            x ≤ (256 : Nat) →
                                                                                                             true = true ∧
                                                                                                              True ∧
                                                                                                               match decide ((↑x : Int) < (↑(nB (2 : Nat) (256 : Nat) (vB (65536 : Nat) (dg (vB (18446744073709551616 : Nat) l)))).length : Int)) with
                                                                                                               | true =>
                                                                                                                True ∧
                                                                                                                 ((0 : Int) ≤ (↑x : Int) ∧ (↑x : Int) < (↑(nB (2 : Nat) (256 : Nat) (vB (65536 : Nat) (dg (vB (18446744073709551616 : Nat) l)))).length : Int) ∧ (1 : Nat) = (1 : Nat)) ∧
                                                                                                                  ((1 : Nat) ≠ (0 : Nat) ∧ (1 : Nat) = (1 : Nat) ∧ false = false) ∧
                                                                                                                   True ∧
                                                                                                                    True ∧
                                                                                                                     True ∧
                                                                                                                      True ∧
                                                                                                                       match (nB (2 : Nat) (256 : Nat) (vB (65536 : Nat) (dg (vB (18446744073709551616 : Nat) l)))).getD (↑x : Int).toNat (0 : Int) == (1 : Int) with
                                                                                                                       | true =>
                                                                                                                        True ∧
                                                                                                                         True ∧
                                                                                                                          True ∧
                                                                                                                           True ∧
                                                                                                                            True ∧
                                                                                                                             True ∧
                                                                                                                              match (↑x : Int) == i with
                                                                                                                              | true =>
                                                                                                                               True ∧
                                                                                                                                True ∧
                                                                                                                                 True ∧
                                                                                                                                  True ∧
                                                                                                                                   ((AV.d (D.val (Value.int IntKind.i64 (IntKind.i64.wrap ((↑x : Int) + (1 : Int))))) =
                                                                                                                                       AV.d (D.val (Value.int IntKind.i64 (↑(IntKind.i64.wrap ((↑x : Int) + (1 : Int))).toNat : Int))) ∧
                                                                                                                                      AV.d
                                                                                                                                         (D.val
                                                                                                                                          (Value.int IntKind.i64
                                                                                                                                           ((nB (2 : Nat) (256 : Nat) (vB (65536 : Nat) (dg (vB (18446744073709551616 : Nat) l)))).getD (↑x : Int).toNat (0 : Int)))) =
                                                                                                                                        AV.d
                                                                                                                                         (D.val
                                                                                                                                          (Value.int IntKind.i64
                                                                                                                                           (↑(bitK (vB (18446744073709551616 : Nat) l) i (IntKind.i64.wrap ((↑x : Int) + (1 : Int))).toNat) : Int))) ∧
                                                                                                                                       AV.d (D.val (Value.int IntKind.i64 (IntKind.i64.wrap ((↑x : Int) + (1 : Int))))) =
                                                                                                                                         AV.d
                                                                                                                                          (D.val
                                                                                                                                           (Value.int IntKind.i64
                                                                                                                                            (↑(bl2 (vB (18446744073709551616 : Nat) l % (2 : Nat) ^ (IntKind.i64.wrap ((↑x : Int) + (1 : Int))).toNat)) : Int))) ∧
                                                                                                                                        True) ∧
                                                                                                                                     (some (Blk.fix (D.arr IntKind.u64 (4 : Nat) l)) = some (Blk.fix (D.arr IntKind.u64 (4 : Nat) l)) ∧
                                                                                                                                       some (Blk.fix (D.arr IntKind.u64 (4 : Nat) m)) = some (Blk.fix (D.arr IntKind.u64 (4 : Nat) m)) ∧
                                                                                                                                        some
                                                                                                                                           (Blk.fix
                                                                                                                                            (D.arr IntKind.u64 (4 : Nat)
                                                                                                                                             (nB (18446744073709551616 : Nat) (4 : Nat)
                                                                                                                                              (smN (vB (18446744073709551616 : Nat) l) (vB (18446744073709551616 : Nat) m))))) =
                                                                                                                                          some
                                                                                                                                           (Blk.fix
                                                                                                                                            (D.arr IntKind.u64 (4 : Nat)
                                                                                                                                             (nB (18446744073709551616 : Nat) (4 : Nat)
                                                                                                                                              (smN (vB (18446744073709551616 : Nat) l) (vB (18446744073709551616 : Nat) m))))) ∧
                                                                                                                                         some
                                                                                                                                            (Blk.fix
                                                                                                                                             (D.arr IntKind.u64 (4 : Nat)
                                                                                                                                              (nB (18446744073709551616 : Nat) (4 : Nat)
                                                                                                                                               (dif (vB (18446744073709551616 : Nat) l) (vB (18446744073709551616 : Nat) m))))) =
                                                                                                                                           some
                                                                                                                                            (Blk.fix
                                                                                                                                             (D.arr IntKind.u64 (4 : Nat)
                                                                                                                                              (nB (18446744073709551616 : Nat) (4 : Nat)
                                                                                                                                               (dif (vB (18446744073709551616 : Nat) l) (vB (18446744073709551616 : Nat) m))))) ∧
                                                                                                                                          True) ∧
                                                                                                                                      true = true) ∧
                                                                                                                                    (IntKind.i64.wrap ((↑x : Int) + (1 : Int))).toNat ≤ (256 : Nat) ∧
                                                                                                                                     (256 : Nat) - (IntKind.i64.wrap ((↑x : Int) + (1 : Int))).toNat < (256 : Nat) - x
                                                                                                                              | false =>
                                                                                                                               True ∧
                                                                                                                                True ∧
                                                                                                                                 ((AV.d (D.val (Value.int IntKind.i64 (IntKind.i64.wrap ((↑x : Int) + (1 : Int))))) =
                                                                                                                                     AV.d (D.val (Value.int IntKind.i64 (↑(IntKind.i64.wrap ((↑x : Int) + (1 : Int))).toNat : Int))) ∧
                                                                                                                                    AV.d (D.val (Value.int IntKind.i64 (↑(bitK (vB (18446744073709551616 : Nat) l) i x) : Int))) =
                                                                                                                                      AV.d
                                                                                                                                       (D.val
                                                                                                                                        (Value.int IntKind.i64 (↑(bitK (vB (18446744073709551616 : Nat) l) i (IntKind.i64.wrap ((↑x : Int) + (1 : Int))).toNat) : Int))) ∧
                                                                                                                                     AV.d (D.val (Value.int IntKind.i64 (IntKind.i64.wrap ((↑x : Int) + (1 : Int))))) =
                                                                                                                                       AV.d
                                                                                                                                        (D.val
                                                                                                                                         (Value.int IntKind.i64
                                                                                                                                          (↑(bl2 (vB (18446744073709551616 : Nat) l % (2 : Nat) ^ (IntKind.i64.wrap ((↑x : Int) + (1 : Int))).toNat)) : Int))) ∧
                                                                                                                                      True) ∧
                                                                                                                                   (some (Blk.fix (D.arr IntKind.u64 (4 : Nat) l)) = some (Blk.fix (D.arr IntKind.u64 (4 : Nat) l)) ∧
                                                                                                                                     some (Blk.fix (D.arr IntKind.u64 (4 : Nat) m)) = some (Blk.fix (D.arr IntKind.u64 (4 : Nat) m)) ∧
                                                                                                                                      some
                                                                                                                                         (Blk.fix
                                                                                                                                          (D.arr IntKind.u64 (4 : Nat)
                                                                                                                                           (nB (18446744073709551616 : Nat) (4 : Nat)
                                                                                                                                            (smN (vB (18446744073709551616 : Nat) l) (vB (18446744073709551616 : Nat) m))))) =
                                                                                                                                        some
                                                                                                                                         (Blk.fix
                                                                                                                                          (D.arr IntKind.u64 (4 : Nat)
                                                                                                                                           (nB (18446744073709551616 : Nat) (4 : Nat)
                                                                                                                                            (smN (vB (18446744073709551616 : Nat) l) (vB (18446744073709551616 : Nat) m))))) ∧
                                                                                                                                       some
                                                                                                                                          (Blk.fix
                                                                                                                                           (D.arr IntKind.u64 (4 : Nat)
                                                                                                                                            (nB (18446744073709551616 : Nat) (4 : Nat)
                                                                                                                                             (dif (vB (18446744073709551616 : Nat) l) (vB (18446744073709551616 : Nat) m))))) =
                                                                                                                                         some
                                                                                                                                          (Blk.fix
                                                                                                                                           (D.arr IntKind.u64 (4 : Nat)
                                                                                                                                            (nB (18446744073709551616 : Nat) (4 : Nat)
                                                                                                                                             (dif (vB (18446744073709551616 : Nat) l) (vB (18446744073709551616 : Nat) m))))) ∧
                                                                                                                                        True) ∧
                                                                                                                                    true = true) ∧
                                                                                                                                  (IntKind.i64.wrap ((↑x : Int) + (1 : Int))).toNat ≤ (256 : Nat) ∧
                                                                                                                                   (256 : Nat) - (IntKind.i64.wrap ((↑x : Int) + (1 : Int))).toNat < (256 : Nat) - x
                                                                                                                       | false =>
                                                                                                                        True ∧
                                                                                                                         True ∧
                                                                                                                          True ∧
                                                                                                                           match (↑x : Int) == i with
                                                                                                                           | true =>
                                                                                                                            True ∧
                                                                                                                             True ∧
                                                                                                                              True ∧
                                                                                                                               True ∧
                                                                                                                                ((AV.d (D.val (Value.int IntKind.i64 (IntKind.i64.wrap ((↑x : Int) + (1 : Int))))) =
                                                                                                                                    AV.d (D.val (Value.int IntKind.i64 (↑(IntKind.i64.wrap ((↑x : Int) + (1 : Int))).toNat : Int))) ∧
                                                                                                                                   AV.d
                                                                                                                                      (D.val
                                                                                                                                       (Value.int IntKind.i64
                                                                                                                                        ((nB (2 : Nat) (256 : Nat) (vB (65536 : Nat) (dg (vB (18446744073709551616 : Nat) l)))).getD (↑x : Int).toNat (0 : Int)))) =
                                                                                                                                     AV.d
                                                                                                                                      (D.val
                                                                                                                                       (Value.int IntKind.i64 (↑(bitK (vB (18446744073709551616 : Nat) l) i (IntKind.i64.wrap ((↑x : Int) + (1 : Int))).toNat) : Int))) ∧
                                                                                                                                    AV.d (D.val (Value.int IntKind.i64 (↑(bl2 (vB (18446744073709551616 : Nat) l % (2 : Nat) ^ x)) : Int))) =
                                                                                                                                      AV.d
                                                                                                                                       (D.val
                                                                                                                                        (Value.int IntKind.i64
                                                                                                                                         (↑(bl2 (vB (18446744073709551616 : Nat) l % (2 : Nat) ^ (IntKind.i64.wrap ((↑x : Int) + (1 : Int))).toNat)) : Int))) ∧
                                                                                                                                     True) ∧
                                                                                                                                  (some (Blk.fix (D.arr IntKind.u64 (4 : Nat) l)) = some (Blk.fix (D.arr IntKind.u64 (4 : Nat) l)) ∧
                                                                                                                                    some (Blk.fix (D.arr IntKind.u64 (4 : Nat) m)) = some (Blk.fix (D.arr IntKind.u64 (4 : Nat) m)) ∧
                                                                                                                                     some
                                                                                                                                        (Blk.fix
                                                                                                                                         (D.arr IntKind.u64 (4 : Nat)
                                                                                                                                          (nB (18446744073709551616 : Nat) (4 : Nat) (smN (vB (18446744073709551616 : Nat) l) (vB (18446744073709551616 : Nat) m))))) =
                                                                                                                                       some
                                                                                                                                        (Blk.fix
                                                                                                                                         (D.arr IntKind.u64 (4 : Nat)
                                                                                                                                          (nB (18446744073709551616 : Nat) (4 : Nat) (smN (vB (18446744073709551616 : Nat) l) (vB (18446744073709551616 : Nat) m))))) ∧
                                                                                                                                      some
                                                                                                                                         (Blk.fix
                                                                                                                                          (D.arr IntKind.u64 (4 : Nat)
                                                                                                                                           (nB (18446744073709551616 : Nat) (4 : Nat)
                                                                                                                                            (dif (vB (18446744073709551616 : Nat) l) (vB (18446744073709551616 : Nat) m))))) =
                                                                                                                                        some
                                                                                                                                         (Blk.fix
                                                                                                                                          (D.arr IntKind.u64 (4 : Nat)
                                                                                                                                           (nB (18446744073709551616 : Nat) (4 : Nat)
                                                                                                                                            (dif (vB (18446744073709551616 : Nat) l) (vB (18446744073709551616 : Nat) m))))) ∧
                                                                                                                                       True) ∧
                                                                                                                                   true = true) ∧
                                                                                                                                 (IntKind.i64.wrap ((↑x : Int) + (1 : Int))).toNat ≤ (256 : Nat) ∧
                                                                                                                                  (256 : Nat) - (IntKind.i64.wrap ((↑x : Int) + (1 : Int))).toNat < (256 : Nat) - x
                                                                                                                           | false =>
                                                                                                                            True ∧
                                                                                                                             True ∧
                                                                                                                              ((AV.d (D.val (Value.int IntKind.i64 (IntKind.i64.wrap ((↑x : Int) + (1 : Int))))) =
                                                                                                                                  AV.d (D.val (Value.int IntKind.i64 (↑(IntKind.i64.wrap ((↑x : Int) + (1 : Int))).toNat : Int))) ∧
                                                                                                                                 AV.d (D.val (Value.int IntKind.i64 (↑(bitK (vB (18446744073709551616 : Nat) l) i x) : Int))) =
                                                                                                                                   AV.d
                                                                                                                                    (D.val (Value.int IntKind.i64 (↑(bitK (vB (18446744073709551616 : Nat) l) i (IntKind.i64.wrap ((↑x : Int) + (1 : Int))).toNat) : Int))) ∧
                                                                                                                                  AV.d (D.val (Value.int IntKind.i64 (↑(bl2 (vB (18446744073709551616 : Nat) l % (2 : Nat) ^ x)) : Int))) =
                                                                                                                                    AV.d
                                                                                                                                     (D.val
                                                                                                                                      (Value.int IntKind.i64
                                                                                                                                       (↑(bl2 (vB (18446744073709551616 : Nat) l % (2 : Nat) ^ (IntKind.i64.wrap ((↑x : Int) + (1 : Int))).toNat)) : Int))) ∧
                                                                                                                                   True) ∧
                                                                                                                                (some (Blk.fix (D.arr IntKind.u64 (4 : Nat) l)) = some (Blk.fix (D.arr IntKind.u64 (4 : Nat) l)) ∧
                                                                                                                                  some (Blk.fix (D.arr IntKind.u64 (4 : Nat) m)) = some (Blk.fix (D.arr IntKind.u64 (4 : Nat) m)) ∧
                                                                                                                                   some
                                                                                                                                      (Blk.fix
                                                                                                                                       (D.arr IntKind.u64 (4 : Nat)
                                                                                                                                        (nB (18446744073709551616 : Nat) (4 : Nat) (smN (vB (18446744073709551616 : Nat) l) (vB (18446744073709551616 : Nat) m))))) =
                                                                                                                                     some
                                                                                                                                      (Blk.fix
                                                                                                                                       (D.arr IntKind.u64 (4 : Nat)
                                                                                                                                        (nB (18446744073709551616 : Nat) (4 : Nat) (smN (vB (18446744073709551616 : Nat) l) (vB (18446744073709551616 : Nat) m))))) ∧
                                                                                                                                    some
                                                                                                                                       (Blk.fix
                                                                                                                                        (D.arr IntKind.u64 (4 : Nat)
                                                                                                                                         (nB (18446744073709551616 : Nat) (4 : Nat) (dif (vB (18446744073709551616 : Nat) l) (vB (18446744073709551616 : Nat) m))))) =
                                                                                                                                      some
                                                                                                                                       (Blk.fix
                                                                                                                                        (D.arr IntKind.u64 (4 : Nat)
                                                                                                                                         (nB (18446744073709551616 : Nat) (4 : Nat) (dif (vB (18446744073709551616 : Nat) l) (vB (18446744073709551616 : Nat) m))))) ∧
                                                                                                                                     True) ∧
                                                                                                                                 true = true) ∧
                                                                                                                               (IntKind.i64.wrap ((↑x : Int) + (1 : Int))).toNat ≤ (256 : Nat) ∧ (256 : Nat) - (IntKind.i64.wrap ((↑x : Int) + (1 : Int))).toNat < (256 : Nat) - x
                                                                                                               | false =>
                                                                                                                ((4 : Nat) ≠ (0 : Nat) ∧ (4 : Nat) = (4 : Nat) ∧ true = true) ∧
                                                                                                                 True ∧
                                                                                                                  (∃ (l_1 : List Int),
                                                                                                                    ∃ (i_1 : Int),
                                                                                                                     [D.arr IntKind.u64 (4 : Nat) l, D.val (Value.int IntKind.i64 i)] = [D.arr IntKind.u64 (4 : Nat) l_1, D.val (Value.int IntKind.i64 i_1)] ∧ isN l_1 ∧ i64ok i_1) ∧
                                                                                                                   True ∧
                                                                                                                    True ∧
                                                                                                                     True ∧
                                                                                                                      True ∧
                                                                                                                       match (↑(bitN (vB (18446744073709551616 : Nat) l) i) : Int) != IntKind.u64.wrap (↑(bitK (vB (18446744073709551616 : Nat) l) i x) : Int) with
                                                                                                                       | true => True ∧ True ∧ (false = false ∧ True) ∧ D.val (Value.bool false) = F
                                                                                                                       | false =>
                                                                                                                        ((4 : Nat) ≠ (0 : Nat) ∧ (4 : Nat) = (4 : Nat) ∧ true = true) ∧
                                                                                                                         (∃ (l_1 : List Int), [D.arr IntKind.u64 (4 : Nat) l] = [D.arr IntKind.u64 (4 : Nat) l_1] ∧ isN l_1) ∧
                                                                                                                          True ∧
                                                                                                                           True ∧
                                                                                                                            True ∧
                                                                                                                             match (↑(bl2 (vB (18446744073709551616 : Nat) l)) : Int) != (↑(bl2 (vB (18446744073709551616 : Nat) l % (2 : Nat) ^ x)) : Int) with
                                                                                                                             | true => True ∧ (false = false ∧ True) ∧ D.val (Value.bool false) = F
                                                                                                                             | false =>
                                                                                                                              ((0 : Int) ≤ (256 : Int) ∧
                                                                                                                                (256 : Int) = (256 : Int) ∧
                                                                                                                                 (256 : Int) ≤ (281474976710656 : Int) ∧ (↑(8 : Nat) : Int) * (256 : Int) ≤ (281474976710656 : Int) ∧ (1 : Nat) = (1 : Nat)) ∧
                                                                                                                               True ∧
                                                                                                                                True ∧
                                                                                                                                 True ∧
                                                                                                                                  True ∧
                                                                                                                                   (((AV.d (D.val (Value.int IntKind.i64 (0 : Int))) = AV.d (D.val (Value.int IntKind.i64 (↑(Int.toNat (0 : Int)) : Int))) ∧ True) ∧
                                                                                                                                      (some (Blk.fix (D.arr IntKind.u64 (4 : Nat) l)) = some (Blk.fix (D.arr IntKind.u64 (4 : Nat) l)) ∧
                                                                                                                                        some (Blk.fix (D.arr IntKind.u64 (4 : Nat) m)) = some (Blk.fix (D.arr IntKind.u64 (4 : Nat) m)) ∧
                                                                                                                                         some
                                                                                                                                            (Blk.fix
                                                                                                                                             (D.arr IntKind.u64 (4 : Nat)
                                                                                                                                              (nB (18446744073709551616 : Nat) (4 : Nat)
                                                                                                                                               (smN (vB (18446744073709551616 : Nat) l) (vB (18446744073709551616 : Nat) m))))) =
                                                                                                                                           some
                                                                                                                                            (Blk.fix
                                                                                                                                             (D.arr IntKind.u64 (4 : Nat)
                                                                                                                                              (nB (18446744073709551616 : Nat) (4 : Nat)
                                                                                                                                               (smN (vB (18446744073709551616 : Nat) l) (vB (18446744073709551616 : Nat) m))))) ∧
                                                                                                                                          some
                                                                                                                                             (Blk.fix
                                                                                                                                              (D.arr IntKind.u64 (4 : Nat)
                                                                                                                                               (nB (18446744073709551616 : Nat) (4 : Nat)
                                                                                                                                                (dif (vB (18446744073709551616 : Nat) l) (vB (18446744073709551616 : Nat) m))))) =
                                                                                                                                            some
                                                                                                                                             (Blk.fix
                                                                                                                                              (D.arr IntKind.u64 (4 : Nat)
                                                                                                                                               (nB (18446744073709551616 : Nat) (4 : Nat)
                                                                                                                                                (dif (vB (18446744073709551616 : Nat) l) (vB (18446744073709551616 : Nat) m))))) ∧
                                                                                                                                           some
                                                                                                                                              (Blk.fix
                                                                                                                                               (D.arr IntKind.i64 (256 : Nat)
                                                                                                                                                (List.replicate (256 : Nat) (0 : Int)))) =
                                                                                                                                             some (Blk.fix (D.arr IntKind.i64 (256 : Nat) (shL (vB (18446744073709551616 : Nat) l) i (Int.toNat (0 : Int))))) ∧
                                                                                                                                            True) ∧
                                                                                                                                       true = true) ∧
                                                                                                                                     Int.toNat (0 : Int) ≤ (256 : Nat)) ∧
                                                                                                                                    ∀ (x : Nat),
                                                                                                                                     x ≤ (256 : Nat) →
                                                                                                                                      true = true ∧
                                                                                                                                       True ∧
                                                                                                                                        match
                                                                                                                                         decide
                                                                                                                                          ((↑x : Int) < (↑(nB (2 : Nat) (256 : Nat) (vB (65536 : Nat) (dg (vB (18446744073709551616 : Nat) l)))).length : Int)) with
                                                                                                                                        | true =>
                                                                                                                                         True ∧
                                                                                                                                          ((0 : Int) ≤ (↑x : Int) ∧
                                                                                                                                            (↑x : Int) < (↑(nB (2 : Nat) (256 : Nat) (vB (65536 : Nat) (dg (vB (18446744073709551616 : Nat) l)))).length : Int) ∧
                                                                                                                                             (1 : Nat) = (1 : Nat)) ∧
                                                                                                                                           ((1 : Nat) ≠ (0 : Nat) ∧ (1 : Nat) = (1 : Nat) ∧ false = false) ∧
                                                                                                                                            True ∧
                                                                                                                                             True ∧
                                                                                                                                              True ∧
                                                                                                                                               True ∧
                                                                                                                                                True ∧
                                                                                                                                                 match decide (i ≥ (-255 : Int)) with
                                                                                                                                                 | true =>
                                                                                                                                                  True ∧
                                                                                                                                                   True ∧
                                                                                                                                                    True ∧
                                                                                                                                                     True ∧
                                                                                                                                                      match decide (i ≤ (255 : Int)) with
                                                                                                                                                      | true =>
                                                                                                                                                       True ∧
                                                                                                                                                        True ∧
                                                                                                                                                         True ∧
                                                                                                                                                          True ∧
                                                                                                                                                           True ∧
                                                                                                                                                            True ∧
                                                                                                                                                             match decide (IntKind.i64.wrap ((↑x : Int) + i) ≥ (0 : Int)) with
                                                                                                                                                             | true =>
                                                                                                                                                              True ∧
                                                                                                                                                               True ∧
                                                                                                                                                                True ∧
                                                                                                                                                                 True ∧
                                                                                                                                                                  True ∧
                                                                                                                                                                   match decide (IntKind.i64.wrap ((↑x : Int) + i) < (256 : Int)) with
                                                                                                                                                                   | true =>
                                                                                                                                                                    True ∧
                                                                                                                                                                     True ∧
                                                                                                                                                                      True ∧
                                                                                                                                                                       True ∧
                                                                                                                                                                        True ∧
                                                                                                                                                                         ((0 : Int) ≤ IntKind.i64.wrap ((↑x : Int) + i) ∧
                                                                                                                                                                           IntKind.i64.wrap ((↑x : Int) + i) < (↑(256 : Nat) : Int) ∧
                                                                                                                                                                            (1 : Nat) = (1 : Nat)) ∧
                                                                                                                                                                          (((0 : Nat) + (IntKind.i64.wrap ((↑x : Int) + i)).toNat <
                                                                                                                                                                              (256 : Nat) ∧
                                                                                                                                                                             ([] : List Nat) = [] ∧ true = true) ∧
                                                                                                                                                                            (1 : Nat) ≠ (0 : Nat) ∧
                                                                                                                                                                             (1 : Nat) = (1 : Nat) ∧ false = false) ∧
                                                                                                                                                                           True ∧
                                                                                                                                                                            True ∧
                                                                                                                                                                             ((AV.d
                                                                                                                                                                                  (D.val
                                                                                                                                                                                   (Value.int IntKind.i64
                                                                                                                                                                                    (IntKind.i64.wrap
                                                                                                                                                                                     ((↑x : Int) + (1 : Int))))) =
                                                                                                                                                                                 AV.d
                                                                                                                                                                                  (D.val
                                                                                                                                                                                   (Value.int IntKind.i64
                                                                                                                                                                                    (↑(IntKind.i64.wrap
                                                                                                                                                                                        ((↑x : Int) + (1 : Int))).toNat :
                                                                                                                                                                                     Int))) ∧
                                                                                                                                                                                True) ∧
                                                                                                                                                                               (some (Blk.fix (D.arr IntKind.u64 (4 : Nat) l)) =
                                                                                                                                                                                  some
                                                                                                                                                                                   (Blk.fix (D.arr IntKind.u64 (4 : Nat) l)) ∧
                                                                                                                                                                                 some (Blk.fix (D.arr IntKind.u64 (4 : Nat) m)) =
                                                                                                                                                                                   some
                                                                                                                                                                                    (Blk.fix
                                                                                                                                                                                     (D.arr IntKind.u64 (4 : Nat) m)) ∧
                                                                                                                                                                                  some
                                                                                                                                                                                     (Blk.fix
                                                                                                                                                                                      (D.arr IntKind.u64 (4 : Nat)
                                                                                                                                                                                       (nB (18446744073709551616 : Nat)
                                                                                                                                                                                        (4 : Nat)
                                                                                                                                                                                        (smN
                                                                                                                                                                                         (vB (18446744073709551616 : Nat)
                                                                                                                                                                                          l)
                                                                                                                                                                                         (vB (18446744073709551616 : Nat)
                                                                                                                                                                                          m))))) =
                                                                                                                                                                                    some
                                                                                                                                                                                     (Blk.fix
                                                                                                                                                                                      (D.arr IntKind.u64 (4 : Nat)
                                                                                                                                                                                       (nB (18446744073709551616 : Nat)
                                                                                                                                                                                        (4 : Nat)
                                                                                                                                                                                        (smN
                                                                                                                                                                                         (vB (18446744073709551616 : Nat)
                                                                                                                                                                                          l)
                                                                                                                                                                                         (vB (18446744073709551616 : Nat)
                                                                                                                                                                                          m))))) ∧
                                                                                                                                                                                   some
                                                                                                                                                                                      (Blk.fix
                                                                                                                                                                                       (D.arr IntKind.u64 (4 : Nat)
                                                                                                                                                                                        (nB (18446744073709551616 : Nat)
                                                                                                                                                                                         (4 : Nat)
                                                                                                                                                                                         (dif
                                                                                                                                                                                          (vB
                                                                                                                                                                                           (18446744073709551616 : Nat)
                                                                                                                                                                                           l)
                                                                                                                                                                                          (vB
                                                                                                                                                                                           (18446744073709551616 : Nat)
                                                                                                                                                                                           m))))) =
                                                                                                                                                                                     some
                                                                                                                                                                                      (Blk.fix
                                                                                                                                                                                       (D.arr IntKind.u64 (4 : Nat)
                                                                                                                                                                                        (nB (18446744073709551616 : Nat)
                                                                                                                                                                                         (4 : Nat)
                                                                                                                                                                                         (dif
                                                                                                                                                                                          (vB
                                                                                                                                                                                           (18446744073709551616 : Nat)
                                                                                                                                                                                           l)
                                                                                                                                                                                          (vB
                                                                                                                                                                                           (18446744073709551616 : Nat)
                                                                                                                                                                                           m))))) ∧
                                                                                                                                                                                    some
                                                                                                                                                                                       (Blk.fix
                                                                                                                                                                                        (D.arr IntKind.i64 (256 : Nat)
                                                                                                                                                                                         ((shL
                                                                                                                                                                                            (vB
                                                                                                                                                                                             (18446744073709551616 :
                                                                                                                                                                                              Nat)
                                                                                                                                                                                             l)
                                                                                                                                                                                            i x).set
                                                                                                                                                                                          ((0 : Nat) +
                                                                                                                                                                                           (IntKind.i64.wrap
                                                                                                                                                                                             ((↑x : Int) + i)).toNat)
                                                                                                                                                                                          ((nB (2 : Nat) (256 : Nat)
                                                                                                                                                                                             (vB (65536 : Nat)
                                                                                                                                                                                              (dg
                                                                                                                                                                                               (vB
                                                                                                                                                                                                (18446744073709551616 :
                                                                                                                                                                                                 Nat)
                                                                                                                                                                                                l)))).getD
                                                                                                                                                                                           (↑x : Int).toNat
                                                                                                                                                                                           (0 : Int))))) =
                                                                                                                                                                                      some
                                                                                                                                                                                       (Blk.fix
                                                                                                                                                                                        (D.arr IntKind.i64 (256 : Nat)
                                                                                                                                                                                         (shL
                                                                                                                                                                                          (vB
                                                                                                                                                                                           (18446744073709551616 : Nat)
                                                                                                                                                                                           l)
                                                                                                                                                                                          i
                                                                                                                                                                                          (IntKind.i64.wrap
                                                                                                                                                                                            ((↑x : Int) +
                                                                                                                                                                                             (1 : Int))).toNat))) ∧
                                                                                                                                                                                     True) ∧
                                                                                                                                                                                true = true) ∧
                                                                                                                                                                              (IntKind.i64.wrap ((↑x : Int) + (1 : Int))).toNat ≤
                                                                                                                                                                                (256 : Nat) ∧
                                                                                                                                                                               (256 : Nat) -
                                                                                                                                                                                 (IntKind.i64.wrap
                                                                                                                                                                                   ((↑x : Int) + (1 : Int))).toNat <
                                                                                                                                                                                (256 : Nat) - x
                                                                                                                                                                   | false =>
                                                                                                                                                                    True ∧
                                                                                                                                                                     True ∧
                                                                                                                                                                      ((AV.d
                                                                                                                                                                           (D.val
                                                                                                                                                                            (Value.int IntKind.i64
                                                                                                                                                                             (IntKind.i64.wrap ((↑x : Int) + (1 : Int))))) =
                                                                                                                                                                          AV.d
                                                                                                                                                                           (D.val
                                                                                                                                                                            (Value.int IntKind.i64
                                                                                                                                                                             (↑(IntKind.i64.wrap ((↑x : Int) + (1 : Int))).toNat :
                                                                                                                                                                              Int))) ∧
                                                                                                                                                                         True) ∧
                                                                                                                                                                        (some (Blk.fix (D.arr IntKind.u64 (4 : Nat) l)) =
                                                                                                                                                                           some (Blk.fix (D.arr IntKind.u64 (4 : Nat) l)) ∧
                                                                                                                                                                          some (Blk.fix (D.arr IntKind.u64 (4 : Nat) m)) =
                                                                                                                                                                            some (Blk.fix (D.arr IntKind.u64 (4 : Nat) m)) ∧
                                                                                                                                                                           some
                                                                                                                                                                              (Blk.fix
                                                                                                                                                                               (D.arr IntKind.u64 (4 : Nat)
                                                                                                                                                                                (nB (18446744073709551616 : Nat) (4 : Nat)
                                                                                                                                                                                 (smN (vB (18446744073709551616 : Nat) l)
                                                                                                                                                                                  (vB (18446744073709551616 : Nat) m))))) =
                                                                                                                                                                             some
                                                                                                                                                                              (Blk.fix
                                                                                                                                                                               (D.arr IntKind.u64 (4 : Nat)
                                                                                                                                                                                (nB (18446744073709551616 : Nat) (4 : Nat)
                                                                                                                                                                                 (smN (vB (18446744073709551616 : Nat) l)
                                                                                                                                                                                  (vB (18446744073709551616 : Nat) m))))) ∧
                                                                                                                                                                            some
                                                                                                                                                                               (Blk.fix
                                                                                                                                                                                (D.arr IntKind.u64 (4 : Nat)
                                                                                                                                                                                 (nB (18446744073709551616 : Nat) (4 : Nat)
                                                                                                                                                                                  (dif (vB (18446744073709551616 : Nat) l)
                                                                                                                                                                                   (vB (18446744073709551616 : Nat) m))))) =
                                                                                                                                                                              some
                                                                                                                                                                               (Blk.fix
                                                                                                                                                                                (D.arr IntKind.u64 (4 : Nat)
                                                                                                                                                                                 (nB (18446744073709551616 : Nat) (4 : Nat)
                                                                                                                                                                                  (dif (vB (18446744073709551616 : Nat) l)
                                                                                                                                                                                   (vB (18446744073709551616 : Nat) m))))) ∧
                                                                                                                                                                             some
                                                                                                                                                                                (Blk.fix
                                                                                                                                                                                 (D.arr IntKind.i64 (256 : Nat)
                                                                                                                                                                                  (shL (vB (18446744073709551616 : Nat) l) i
                                                                                                                                                                                   x))) =
                                                                                                                                                                               some
                                                                                                                                                                                (Blk.fix
                                                                                                                                                                                 (D.arr IntKind.i64 (256 : Nat)
                                                                                                                                                                                  (shL (vB (18446744073709551616 : Nat) l) i
                                                                                                                                                                                   (IntKind.i64.wrap
                                                                                                                                                                                     ((↑x : Int) + (1 : Int))).toNat))) ∧
                                                                                                                                                                              True) ∧
                                                                                                                                                                         true = true) ∧
                                                                                                                                                                       (IntKind.i64.wrap ((↑x : Int) + (1 : Int))).toNat ≤ (256 : Nat) ∧
                                                                                                                                                                        (256 : Nat) - (IntKind.i64.wrap ((↑x : Int) + (1 : Int))).toNat <
                                                                                                                                                                         (256 : Nat) - x
                                                                                                                                                             | false =>
                                                                                                                                                              True ∧
                                                                                                                                                               True ∧
                                                                                                                                                                True ∧
                                                                                                                                                                 ((AV.d
                                                                                                                                                                      (D.val
                                                                                                                                                                       (Value.int IntKind.i64
                                                                                                                                                                        (IntKind.i64.wrap ((↑x : Int) + (1 : Int))))) =
                                                                                                                                                                     AV.d
                                                                                                                                                                      (D.val
                                                                                                                                                                       (Value.int IntKind.i64
                                                                                                                                                                        (↑(IntKind.i64.wrap ((↑x : Int) + (1 : Int))).toNat : Int))) ∧
                                                                                                                                                                    True) ∧
                                                                                                                                                                   (some (Blk.fix (D.arr IntKind.u64 (4 : Nat) l)) =
                                                                                                                                                                      some (Blk.fix (D.arr IntKind.u64 (4 : Nat) l)) ∧
                                                                                                                                                                     some (Blk.fix (D.arr IntKind.u64 (4 : Nat) m)) =
                                                                                                                                                                       some (Blk.fix (D.arr IntKind.u64 (4 : Nat) m)) ∧
                                                                                                                                                                      some
                                                                                                                                                                         (Blk.fix
                                                                                                                                                                          (D.arr IntKind.u64 (4 : Nat)
                                                                                                                                                                           (nB (18446744073709551616 : Nat) (4 : Nat)
                                                                                                                                                                            (smN (vB (18446744073709551616 : Nat) l)
                                                                                                                                                                             (vB (18446744073709551616 : Nat) m))))) =
                                                                                                                                                                        some
                                                                                                                                                                         (Blk.fix
                                                                                                                                                                          (D.arr IntKind.u64 (4 : Nat)
                                                                                                                                                                           (nB (18446744073709551616 : Nat) (4 : Nat)
                                                                                                                                                                            (smN (vB (18446744073709551616 : Nat) l)
                                                                                                                                                                             (vB (18446744073709551616 : Nat) m))))) ∧
                                                                                                                                                                       some
                                                                                                                                                                          (Blk.fix
                                                                                                                                                                           (D.arr IntKind.u64 (4 : Nat)
                                                                                                                                                                            (nB (18446744073709551616 : Nat) (4 : Nat)
                                                                                                                                                                             (dif (vB (18446744073709551616 : Nat) l)
                                                                                                                                                                              (vB (18446744073709551616 : Nat) m))))) =
                                                                                                                                                                         some
                                                                                                                                                                          (Blk.fix
                                                                                                                                                                           (D.arr IntKind.u64 (4 : Nat)
                                                                                                                                                                            (nB (18446744073709551616 : Nat) (4 : Nat)
                                                                                                                                                                             (dif (vB (18446744073709551616 : Nat) l)
                                                                                                                                                                              (vB (18446744073709551616 : Nat) m))))) ∧
                                                                                                                                                                        some
                                                                                                                                                                           (Blk.fix
                                                                                                                                                                            (D.arr IntKind.i64 (256 : Nat)
                                                                                                                                                                             (shL (vB (18446744073709551616 : Nat) l) i x))) =
                                                                                                                                                                          some
                                                                                                                                                                           (Blk.fix
                                                                                                                                                                            (D.arr IntKind.i64 (256 : Nat)
                                                                                                                                                                             (shL (vB (18446744073709551616 : Nat) l) i
                                                                                                                                                                              (IntKind.i64.wrap ((↑x : Int) + (1 : Int))).toNat))) ∧
                                                                                                                                                                         True) ∧
                                                                                                                                                                    true = true) ∧
                                                                                                                                                                  (IntKind.i64.wrap ((↑x : Int) + (1 : Int))).toNat ≤ (256 : Nat) ∧
                                                                                                                                                                   (256 : Nat) - (IntKind.i64.wrap ((↑x : Int) + (1 : Int))).toNat <
                                                                                                                                                                    (256 : Nat) - x
                                                                                                                                                      | false =>
                                                                                                                                                       True ∧
                                                                                                                                                        True ∧
                                                                                                                                                         True ∧
                                                                                                                                                          True ∧
                                                                                                                                                           True ∧
                                                                                                                                                            ((AV.d (D.val (Value.int IntKind.i64 (IntKind.i64.wrap ((↑x : Int) + (1 : Int))))) =
                                                                                                                                                                AV.d
                                                                                                                                                                 (D.val
                                                                                                                                                                  (Value.int IntKind.i64
                                                                                                                                                                   (↑(IntKind.i64.wrap ((↑x : Int) + (1 : Int))).toNat : Int))) ∧
                                                                                                                                                               True) ∧
                                                                                                                                                              (some (Blk.fix (D.arr IntKind.u64 (4 : Nat) l)) =
                                                                                                                                                                 some (Blk.fix (D.arr IntKind.u64 (4 : Nat) l)) ∧
                                                                                                                                                                some (Blk.fix (D.arr IntKind.u64 (4 : Nat) m)) =
                                                                                                                                                                  some (Blk.fix (D.arr IntKind.u64 (4 : Nat) m)) ∧
                                                                                                                                                                 some
                                                                                                                                                                    (Blk.fix
                                                                                                                                                                     (D.arr IntKind.u64 (4 : Nat)
                                                                                                                                                                      (nB (18446744073709551616 : Nat) (4 : Nat)
                                                                                                                                                                       (smN (vB (18446744073709551616 : Nat) l)
                                                                                                                                                                        (vB (18446744073709551616 : Nat) m))))) =
                                                                                                                                                                   some
                                                                                                                                                                    (Blk.fix
                                                                                                                                                                     (D.arr IntKind.u64 (4 : Nat)
                                                                                                                                                                      (nB (18446744073709551616 : Nat) (4 : Nat)
                                                                                                                                                                       (smN (vB (18446744073709551616 : Nat) l)
                                                                                                                                                                        (vB (18446744073709551616 : Nat) m))))) ∧
                                                                                                                                                                  some
                                                                                                                                                                     (Blk.fix
                                                                                                                                                                      (D.arr IntKind.u64 (4 : Nat)
                                                                                                                                                                       (nB (18446744073709551616 : Nat) (4 : Nat)
                                                                                                                                                                        (dif (vB (18446744073709551616 : Nat) l)
                                                                                                                                                                         (vB (18446744073709551616 : Nat) m))))) =
                                                                                                                                                                    some
                                                                                                                                                                     (Blk.fix
                                                                                                                                                                      (D.arr IntKind.u64 (4 : Nat)
                                                                                                                                                                       (nB (18446744073709551616 : Nat) (4 : Nat)
                                                                                                                                                                        (dif (vB (18446744073709551616 : Nat) l)
                                                                                                                                                                         (vB (18446744073709551616 : Nat) m))))) ∧
                                                                                                                                                                   some
                                                                                                                                                                      (Blk.fix
                                                                                                                                                                       (D.arr IntKind.i64 (256 : Nat)
                                                                                                                                                                        (shL (vB (18446744073709551616 : Nat) l) i x))) =
                                                                                                                                                                     some
                                                                                                                                                                      (Blk.fix
                                                                                                                                                                       (D.arr IntKind.i64 (256 : Nat)
                                                                                                                                                                        (shL (vB (18446744073709551616 : Nat) l) i
                                                                                                                                                                         (IntKind.i64.wrap ((↑x : Int) + (1 : Int))).toNat))) ∧
                                                                                                                                                                    True) ∧
                                                                                                                                                               true = true) ∧
                                                                                                                                                             (IntKind.i64.wrap ((↑x : Int) + (1 : Int))).toNat ≤ (256 : Nat) ∧
                                                                                                                                                              (256 : Nat) - (IntKind.i64.wrap ((↑x : Int) + (1 : Int))).toNat < (256 : Nat) - x
                                                                                                                                                 | false =>
                                                                                                                                                  True ∧
                                                                                                                                                   True ∧
                                                                                                                                                    True ∧
                                                                                                                                                     True ∧
                                                                                                                                                      True ∧
                                                                                                                                                       True ∧
                                                                                                                                                        True ∧
                                                                                                                                                         ((AV.d (D.val (Value.int IntKind.i64 (IntKind.i64.wrap ((↑x : Int) + (1 : Int))))) =
                                                                                                                                                             AV.d
                                                                                                                                                              (D.val
                                                                                                                                                               (Value.int IntKind.i64
                                                                                                                                                                (↑(IntKind.i64.wrap ((↑x : Int) + (1 : Int))).toNat : Int))) ∧
                                                                                                                                                            True) ∧
                                                                                                                                                           (some (Blk.fix (D.arr IntKind.u64 (4 : Nat) l)) =
                                                                                                                                                              some (Blk.fix (D.arr IntKind.u64 (4 : Nat) l)) ∧
                                                                                                                                                             some (Blk.fix (D.arr IntKind.u64 (4 : Nat) m)) =
                                                                                                                                                               some (Blk.fix (D.arr IntKind.u64 (4 : Nat) m)) ∧
                                                                                                                                                              some
                                                                                                                                                                 (Blk.fix
                                                                                                                                                                  (D.arr IntKind.u64 (4 : Nat)
                                                                                                                                                                   (nB (18446744073709551616 : Nat) (4 : Nat)
                                                                                                                                                                    (smN (vB (18446744073709551616 : Nat) l)
                                                                                                                                                                     (vB (18446744073709551616 : Nat) m))))) =
                                                                                                                                                                some
                                                                                                                                                                 (Blk.fix
                                                                                                                                                                  (D.arr IntKind.u64 (4 : Nat)
                                                                                                                                                                   (nB (18446744073709551616 : Nat) (4 : Nat)
                                                                                                                                                                    (smN (vB (18446744073709551616 : Nat) l)
                                                                                                                                                                     (vB (18446744073709551616 : Nat) m))))) ∧
                                                                                                                                                               some
                                                                                                                                                                  (Blk.fix
                                                                                                                                                                   (D.arr IntKind.u64 (4 : Nat)
                                                                                                                                                                    (nB (18446744073709551616 : Nat) (4 : Nat)
                                                                                                                                                                     (dif (vB (18446744073709551616 : Nat) l)
                                                                                                                                                                      (vB (18446744073709551616 : Nat) m))))) =
                                                                                                                                                                 some
                                                                                                                                                                  (Blk.fix
                                                                                                                                                                   (D.arr IntKind.u64 (4 : Nat)
                                                                                                                                                                    (nB (18446744073709551616 : Nat) (4 : Nat)
                                                                                                                                                                     (dif (vB (18446744073709551616 : Nat) l)
                                                                                                                                                                      (vB (18446744073709551616 : Nat) m))))) ∧
                                                                                                                                                                some
                                                                                                                                                                   (Blk.fix
                                                                                                                                                                    (D.arr IntKind.i64 (256 : Nat)
                                                                                                                                                                     (shL (vB (18446744073709551616 : Nat) l) i x))) =
                                                                                                                                                                  some
                                                                                                                                                                   (Blk.fix
                                                                                                                                                                    (D.arr IntKind.i64 (256 : Nat)
                                                                                                                                                                     (shL (vB (18446744073709551616 : Nat) l) i
                                                                                                                                                                      (IntKind.i64.wrap ((↑x : Int) + (1 : Int))).toNat))) ∧
                                                                                                                                                                 True) ∧
                                                                                                                                                            true = true) ∧
                                                                                                                                                          (IntKind.i64.wrap ((↑x : Int) + (1 : Int))).toNat ≤ (256 : Nat) ∧
                                                                                                                                                           (256 : Nat) - (IntKind.i64.wrap ((↑x : Int) + (1 : Int))).toNat < (256 : Nat) - x
                                                                                                                                        | false =>
                                                                                                                                         ((4 : Nat) ≠ (0 : Nat) ∧ (4 : Nat) = (4 : Nat) ∧ true = true) ∧
                                                                                                                                          (True ∧ (4 : Nat) ≠ (0 : Nat)) ∧
                                                                                                                                           (Sk.arr (4 : Nat) = Sk.arr (4 : Nat) ∧ (4 : Nat) ≠ (0 : Nat) ∧ (4 : Nat) = (4 : Nat) ∧ false = false) ∧
                                                                                                                                            True ∧
                                                                                                                                             (2 : Int) ≠ (0 : Int) ∧
                                                                                                                                              True ∧
                                                                                                                                               (match (↑c : Int).tmod (2 : Int) == (1 : Int) with
                                                                                                                                                | true =>
                                                                                                                                                 ((4 : Nat) ≠ (0 : Nat) ∧ (4 : Nat) = (4 : Nat) ∧ true = true) ∧
                                                                                                                                                  (Sk.arr (4 : Nat) = Sk.arr (4 : Nat) ∧ (4 : Nat) ≠ (0 : Nat) ∧ (4 : Nat) = (4 : Nat) ∧ false = false) ∧
                                                                                                                                                   (True ∧
                                                                                                                                                     (some (Blk.fix (D.arr IntKind.u64 (4 : Nat) l)) = some (Blk.fix (D.arr IntKind.u64 (4 : Nat) l)) ∧
                                                                                                                                                       some (Blk.fix (D.arr IntKind.u64 (4 : Nat) m)) = some (Blk.fix (D.arr IntKind.u64 (4 : Nat) m)) ∧
                                                                                                                                                        some
                                                                                                                                                           (Blk.fix
                                                                                                                                                            (D.arr IntKind.u64 (4 : Nat)
                                                                                                                                                             (nB (18446744073709551616 : Nat) (4 : Nat)
                                                                                                                                                              (smN (vB (18446744073709551616 : Nat) l) (vB (18446744073709551616 : Nat) m))))) =
                                                                                                                                                          some
                                                                                                                                                           (Blk.fix
                                                                                                                                                            (D.arr IntKind.u64 (4 : Nat)
                                                                                                                                                             (nB (18446744073709551616 : Nat) (4 : Nat)
                                                                                                                                                              (smN (vB (18446744073709551616 : Nat) l) (vB (18446744073709551616 : Nat) m))))) ∧
                                                                                                                                                         some
                                                                                                                                                            (Blk.fix
                                                                                                                                                             (D.arr IntKind.u64 (4 : Nat)
                                                                                                                                                              (nB (18446744073709551616 : Nat) (4 : Nat)
                                                                                                                                                               (dif (vB (18446744073709551616 : Nat) l) (vB (18446744073709551616 : Nat) m))))) =
                                                                                                                                                           some
                                                                                                                                                            (Blk.fix
                                                                                                                                                             (D.arr IntKind.u64 (4 : Nat)
                                                                                                                                                              (nB (18446744073709551616 : Nat) (4 : Nat)
                                                                                                                                                               (dif (vB (18446744073709551616 : Nat) l) (vB (18446744073709551616 : Nat) m))))) ∧
                                                                                                                                                          some (Blk.fix (D.arr IntKind.u64 (4 : Nat) m)) =
                                                                                                                                                            some (Blk.fix (D.arr IntKind.u64 (4 : Nat) (pkL c l m))) ∧
                                                                                                                                                           some
                                                                                                                                                              (Blk.fix
                                                                                                                                                               (D.arr IntKind.i64 (256 : Nat) (shL (vB (18446744073709551616 : Nat) l) i x))) =
                                                                                                                                                             some
                                                                                                                                                              (Blk.fix
                                                                                                                                                               (D.arr IntKind.i64 (256 : Nat) (shL (vB (18446744073709551616 : Nat) l) i x))) ∧
                                                                                                                                                            True) ∧
                                                                                                                                                      true = true) ∧
                                                                                                                                                    True
                                                                                                                                                | false =>
                                                                                                                                                 (True ∧
                                                                                                                                                   (some (Blk.fix (D.arr IntKind.u64 (4 : Nat) l)) = some (Blk.fix (D.arr IntKind.u64 (4 : Nat) l)) ∧
                                                                                                                                                     some (Blk.fix (D.arr IntKind.u64 (4 : Nat) m)) = some (Blk.fix (D.arr IntKind.u64 (4 : Nat) m)) ∧
                                                                                                                                                      some
                                                                                                                                                         (Blk.fix
                                                                                                                                                          (D.arr IntKind.u64 (4 : Nat)
                                                                                                                                                           (nB (18446744073709551616 : Nat) (4 : Nat)
                                                                                                                                                            (smN (vB (18446744073709551616 : Nat) l) (vB (18446744073709551616 : Nat) m))))) =
                                                                                                                                                        some
                                                                                                                                                         (Blk.fix
                                                                                                                                                          (D.arr IntKind.u64 (4 : Nat)
                                                                                                                                                           (nB (18446744073709551616 : Nat) (4 : Nat)
                                                                                                                                                            (smN (vB (18446744073709551616 : Nat) l) (vB (18446744073709551616 : Nat) m))))) ∧
                                                                                                                                                       some
                                                                                                                                                          (Blk.fix
                                                                                                                                                           (D.arr IntKind.u64 (4 : Nat)
                                                                                                                                                            (nB (18446744073709551616 : Nat) (4 : Nat)
                                                                                                                                                             (dif (vB (18446744073709551616 : Nat) l) (vB (18446744073709551616 : Nat) m))))) =
                                                                                                                                                         some
                                                                                                                                                          (Blk.fix
                                                                                                                                                           (D.arr IntKind.u64 (4 : Nat)
                                                                                                                                                            (nB (18446744073709551616 : Nat) (4 : Nat)
                                                                                                                                                             (dif (vB (18446744073709551616 : Nat) l) (vB (18446744073709551616 : Nat) m))))) ∧
                                                                                                                                                        some (Blk.fix (D.arr IntKind.u64 (4 : Nat) l)) =
                                                                                                                                                          some (Blk.fix (D.arr IntKind.u64 (4 : Nat) (pkL c l m))) ∧
                                                                                                                                                         some (Blk.fix (D.arr IntKind.i64 (256 : Nat) (shL (vB (18446744073709551616 : Nat) l) i x))) =
                                                                                                                                                           some
                                                                                                                                                            (Blk.fix (D.arr IntKind.i64 (256 : Nat) (shL (vB (18446744073709551616 : Nat) l) i x))) ∧
                                                                                                                                                          True) ∧
                                                                                                                                                    true = true) ∧
                                                                                                                                                  True) ∧
                                                                                                                                                ∀ (z : Nat),
                                                                                                                                                 True →
                                                                                                                                                  true = true ∧
                                                                                                                                                   ((4 : Nat) ≠ (0 : Nat) ∧ (4 : Nat) = (4 : Nat) ∧ true = true) ∧
                                                                                                                                                    True ∧
                                                                                                                                                     (∃ (l_1 : List Int),
                                                                                                                                                       ∃ (n : Int),
                                                                                                                                                        [D.arr IntKind.u64 (4 : Nat) l, D.val (Value.int IntKind.i64 i)] =
                                                                                                                                                          [D.arr IntKind.u64 (4 : Nat) l_1, D.val (Value.int IntKind.i64 n)] ∧
                                                                                                                                                         (okw l_1 ∧ l_1.length = (4 : Nat)) ∧ i64ok n) ∧
                                                                                                                                                      True ∧
                                                                                                                                                       (∃ (l_1 : List Int),
                                                                                                                                                         [D.ints IntKind.i64
                                                                                                                                                             (List.take (256 : Nat)
                                                                                                                                                              (List.drop (0 : Nat) (shL (vB (18446744073709551616 : Nat) l) i x)))] =
                                                                                                                                                           [D.ints IntKind.i64 l_1] ∧
                                                                                                                                                          isBits l_1) ∧
                                                                                                                                                        (∃ (l_1 : List Int),
                                                                                                                                                          [D.ints IntKind.i64
                                                                                                                                                              (dg
                                                                                                                                                               (vB (2 : Nat)
                                                                                                                                                                (List.take (256 : Nat)
                                                                                                                                                                 (List.drop (0 : Nat) (shL (vB (18446744073709551616 : Nat) l) i x)))))] =
                                                                                                                                                            [D.ints IntKind.i64 l_1] ∧
                                                                                                                                                           okd l_1 ∧ lenOk l_1) ∧
                                                                                                                                                         (IntKind.u64 = IntKind.u64 ∧
                                                                                                                                                           IntKind.u64 = IntKind.u64 ∧
                                                                                                                                                            (4 : Nat) = (4 : Nat) ∧ (4 : Nat) = (4 : Nat) ∧ (1 : Nat) = (1 : Nat)) ∧
                                                                                                                                                          True ∧
                                                                                                                                                           match
                                                                                                                                                            eqB
                                                                                                                                                             (nB (18446744073709551616 : Nat) (4 : Nat) (shf (vB (18446744073709551616 : Nat) l) i))
                                                                                                                                                             (nB (18446744073709551616 : Nat) (4 : Nat)
                                                                                                                                                              (vB (65536 : Nat)
                                                                                                                                                               (dg
                                                                                                                                                                (vB (2 : Nat)
                                                                                                                                                                 (List.take (256 : Nat)
                                                                                                                                                                  (List.drop (0 : Nat) (shL (vB (18446744073709551616 : Nat) l) i x))))))) with
                                                                                                                                                           | true =>
                                                                                                                                                            True ∧
                                                                                                                                                             ((4 : Nat) ≠ (0 : Nat) ∧ (4 : Nat) = (4 : Nat) ∧ true = true) ∧
                                                                                                                                                              ((4 : Nat) ≠ (0 : Nat) ∧ (4 : Nat) = (4 : Nat) ∧ true = true) ∧
                                                                                                                                                               (∃ (c_1 : Nat),
                                                                                                                                                                 ∃ (l_1 : List Int),
                                                                                                                                                                  ∃ (m_1 : List Int),
                                                                                                                                                                   [D.val (Value.int IntKind.u64 (↑c : Int)), D.arr IntKind.u64 (4 : Nat) l,
                                                                                                                                                                      D.arr IntKind.u64 (4 : Nat) m] =
                                                                                                                                                                     [D.val (Value.int IntKind.u64 (↑c_1 : Int)),
                                                                                                                                                                      D.arr IntKind.u64 (4 : Nat) l_1, D.arr IntKind.u64 (4 : Nat) m_1] ∧
                                                                                                                                                                    c_1 < (18446744073709551616 : Nat) ∧ isN l_1 ∧ isN m_1) ∧
                                                                                                                                                                ((4 : Nat) ≠ (0 : Nat) ∧ (4 : Nat) = (4 : Nat) ∧ true = true) ∧
                                                                                                                                                                 (IntKind.u64 = IntKind.u64 ∧
                                                                                                                                                                   IntKind.u64 = IntKind.u64 ∧
                                                                                                                                                                    (4 : Nat) = (4 : Nat) ∧ (4 : Nat) = (4 : Nat) ∧ (1 : Nat) = (1 : Nat)) ∧
                                                                                                                                                                  True ∧
                                                                                                                                                                   True ∧
                                                                                                                                                                    (false = false ∧ True) ∧
                                                                                                                                                                     D.val (Value.bool (eqB (pkL (↑c : Int).toNat l m) (pkL c l m))) = F
                                                                                                                                                           | false => True ∧ True ∧ (false = false ∧ True) ∧ D.val (Value.bool false) = F) := by kernel_rfl

end Go.Proofs.Ytfbfblhlnhnonaa
/- The law LimbTells: bits (no program in sight). -/
namespace Go.Proofs.Ytfbfblhlnhnonaa
open Go Go.Vg

theorem map_set {n j : Nat} {f g : Nat → Int} {v : Int} (hj : j < n) (hf : ∀ t, t < n → t ≠ j → f t = g t) (hv : g j = v) : ((List.range n).map f).set j v = (List.range n).map g := by
  apply List.ext_getElem?
  intro t
  rw [List.getElem?_set, List.getElem?_map, List.length_map, List.length_range]
  by_cases h : j = t
  · subst h
    rw [if_pos rfl, if_pos hj, List.getElem?_map, List.getElem?_range hj, ← hv]
    rfl
  · rw [if_neg h, List.getElem?_map]
    by_cases ht : t < n
    · rw [List.getElem?_range ht]
      simp [hf t ht (fun e => h e.symm)]
    · rw [List.getElem?_eq_none (by rw [List.length_range]; omega)]
      rfl
theorem map_same {n : Nat} {f g : Nat → Int} (hf : ∀ t, t < n → f t = g t) : (List.range n).map f = (List.range n).map g := by
  apply List.map_congr_left
  intro t ht
  exact hf t (List.mem_range.1 ht)
theorem shL_zero (v : Nat) (i : Int) : shL v i 0 = List.replicate 256 0 := by
  have e : shL v i 0 = (List.range 256).map fun _ => (0 : Int) := by
    refine map_same fun t _ => ?_
    unfold shE
    rw [if_neg (by omega)]
    rfl
  rw [e, List.map_const', List.length_range]
theorem shE_at {v : Nat} {i : Int} {k j : Nat} (h1 : -255 ≤ i) (h2 : i ≤ 255) (e : (j : Int) = (k : Int) + i) : shE v i (k + 1) j = v / 2 ^ k % 2 := by
  unfold shE
  rw [if_pos ⟨⟨h1, h2⟩, by omega, by omega⟩, show ((j : Int) - i).toNat = k by omega]
theorem shE_else {v : Nat} {i : Int} {k j : Nat} (h : (-255 ≤ i ∧ i ≤ 255) → (j : Int) ≠ (k : Int) + i) : shE v i (k + 1) j = shE v i k j := by
  unfold shE
  by_cases h1 : (-255 ≤ i ∧ i ≤ 255) ∧ 0 ≤ (j : Int) - i ∧ (j : Int) - i < (k : Int)
  · rw [if_pos h1, if_pos ⟨h1.1, h1.2.1, by omega⟩]
  · rw [if_neg h1, if_neg (fun h2 => h1 ⟨h2.1, h2.2.1, by have := h h2.1; omega⟩)]
theorem shL_set {v : Nat} {i : Int} {k j : Nat} (h1 : -255 ≤ i) (h2 : i ≤ 255) (e : (j : Int) = (k : Int) + i) (hj : j < 256) : (shL v i k).set j ((v / 2 ^ k % 2 : Nat) : Int) = shL v i (k + 1) := by
  refine map_set hj (fun t _ hn => ?_) (by rw [shE_at h1 h2 e])
  rw [shE_else]
  intro _ h3
  omega
theorem shL_skip {v : Nat} {i : Int} {k : Nat} (h : (-255 ≤ i ∧ i ≤ 255) → ((k : Int) + i < 0 ∨ 256 ≤ (k : Int) + i)) : shL v i k = shL v i (k + 1) := by
  refine map_same fun t ht => ?_
  rw [shE_else]
  intro h1 h2
  have := h h1
  omega
theorem mul_bit (v n t : Nat) (h : t < n) : v * 2 ^ n / 2 ^ t % 2 = 0 := by
  obtain ⟨d, rfl⟩ : ∃ d, n = t + 1 + d := ⟨n - (t + 1), by omega⟩
  rw [Nat.pow_add, Nat.pow_succ, Nat.mul_assoc (2 ^ t), Nat.mul_left_comm, Nat.mul_div_cancel_left _ (Nat.two_pow_pos t), Nat.mul_left_comm, Nat.mul_mod_right]
theorem mul_bit2 (v n t : Nat) (h : n ≤ t) : v * 2 ^ n / 2 ^ t % 2 = v / 2 ^ (t - n) % 2 := by
  obtain ⟨d, rfl⟩ : ∃ d, t = n + d := ⟨t - n, by omega⟩
  rw [Nat.add_sub_cancel_left, Nat.pow_add, Nat.mul_comm v, Nat.mul_div_mul_left _ _ (Nat.two_pow_pos n)]
theorem shE_shf {v : Nat} (hv : v < 2 ^ 256) (i : Int) {t : Nat} (ht : t < 256) : shE v i 256 t = shf v i / 2 ^ t % 2 := by
  unfold shE shf
  by_cases h0 : 0 ≤ i
  · obtain ⟨n, rfl⟩ := Int.eq_ofNat_of_zero_le h0
    rw [if_pos h0, Int.toNat_natCast]
    by_cases h1 : t < n
    · rw [mul_bit v n t h1, if_neg (by omega)]
    · rw [mul_bit2 v n t (by omega), if_pos ⟨⟨by omega, by omega⟩, by omega, by omega⟩, show ((t : Int) - (n : Int)).toNat = t - n by omega]
  · obtain ⟨n, hn⟩ : ∃ n : Nat, -i = (n : Int) := Int.eq_ofNat_of_zero_le (by omega)
    obtain rfl : i = -(n : Int) := by omega
    rw [if_neg h0, show (-(-(n : Int))).toNat = n by omega, Nat.div_div_eq_div_mul, ← Nat.pow_add]
    by_cases h1 : n + t < 256
    · rw [if_pos ⟨⟨by omega, by omega⟩, by omega, by omega⟩, show ((t : Int) - -(n : Int)).toNat = n + t by omega]
    · rw [if_neg (by omega), Nat.div_eq_of_lt (Nat.lt_of_lt_of_le hv (Nat.pow_le_pow_right (by decide) (by omega)))]
theorem shL_shf {v : Nat} (hv : v < 2 ^ 256) (i : Int) : shL v i 256 = nB 2 256 (shf v i) := by
  have hl : (shL v i 256).length = 256 := by unfold shL; rw [List.length_map, List.length_range]
  refine ext_getD (by rw [hl, nB_length]) fun t ht => ?_
  rw [hl] at ht
  rw [nB_get 2 256 _ t ht]
  unfold shL
  rw [List.getD_eq_getElem?_getD, List.getElem?_map, List.getElem?_range ht]
  show ((shE v i 256 t : Nat) : Int) = _
  rw [shE_shf hv i ht]
theorem isBits_nB (v : Nat) : isBits (nB 2 256 v) := ⟨nB_ok (by decide) 256 v, by rw [nB_length]; exact Nat.le_refl _⟩
theorem back_shf (v : Nat) : nB 18446744073709551616 4 (vB 2 (nB 2 256 v)) = nB 18446744073709551616 4 v := by
  rw [vB_nB]
  exact nB_mod 18446744073709551616 4 v
theorem bl2_step (v k : Nat) : bl2 (v % 2 ^ (k + 1)) = if v / 2 ^ k % 2 = 1 then k + 1 else bl2 (v % 2 ^ k) := by
  rw [Nat.mod_pow_succ]
  split
  · rename_i h
    rw [h, bl2_up (Nat.mod_lt _ (Nat.two_pow_pos k)) (by decide)]
    rfl
  · rename_i h
    rw [show v / 2 ^ k % 2 = 0 by omega, Nat.mul_zero, Nat.add_zero]
theorem bitK_at (v k : Nat) : bitK v (k : Int) (k + 1) = v / 2 ^ k % 2 := by
  unfold bitK
  rw [if_pos ⟨by omega, by omega⟩, Int.toNat_natCast]
theorem bitK_else {v : Nat} {i : Int} {k : Nat} (h : (k : Int) ≠ i) : bitK v i (k + 1) = bitK v i k := by
  unfold bitK
  by_cases h1 : 0 ≤ i ∧ i < (k : Int)
  · rw [if_pos h1, if_pos ⟨h1.1, by omega⟩]
  · rw [if_neg h1, if_neg (fun h2 => h1 ⟨h2.1, by omega⟩)]
theorem bitK_zero (v : Nat) (i : Int) : bitK v i 0 = 0 := if_neg (by omega)
theorem bitK_le (v : Nat) (i : Int) (k : Nat) : bitK v i k ≤ 1 := by
  unfold bitK
  split <;> omega
theorem bitK_end (v : Nat) (i : Int) : bitK v i 256 = bitN v i := by
  unfold bitK bitN
  by_cases h : 0 ≤ i ∧ i < 256
  · rw [if_pos (by exact h), if_pos ⟨h.1, by omega⟩]
  · rw [if_neg (by exact h), if_neg (fun h2 => h ⟨h2.1, by omega⟩)]
theorem smC_cmp (a b : Nat) (ha : a < 2 ^ 256) (hb : b < 2 ^ 256) : (cmpN (a + b) (2 ^ 256) ≥ 0 → smC a b = 1) ∧ (¬ cmpN (a + b) (2 ^ 256) ≥ 0 → smC a b = 0) := by
  unfold cmpN smC
  constructor
  · intro h
    by_cases h1 : a + b < 2 ^ 256
    · rw [if_pos h1] at h
      omega
    · omega
  · intro h
    by_cases h1 : a + b < 2 ^ 256
    · omega
    · rw [if_neg h1] at h
      split at h <;> omega
theorem bor_cmp (a b : Nat) : (cmpN a b < 0 → bor a b = 1) ∧ (¬ cmpN a b < 0 → bor a b = 0) := by
  unfold cmpN bor
  constructor
  · intro h
    by_cases h1 : a < b
    · rw [if_pos h1]
    · rw [if_neg h1] at h
      split at h <;> omega
  · intro h
    by_cases h1 : a < b
    · rw [if_pos h1] at h
      omega
    · rw [if_neg h1]
end Go.Proofs.Ytfbfblhlnhnonaa
/- The law LimbTells. -/
namespace Go.Proofs.Ytfbfblhlnhnonaa
open Go Go.Vg

theorem okAll4 {t : Tab} {n : Nat} {a b c u : TypeId} : ∀ {ds : List D}, OkAll t n [a, b, c, u] ds → ∃ d e f g, ds = [d, e, f, g] ∧ OkT t n a d ∧ OkT t n b e ∧ OkT t n c f ∧ OkT t n u g
  | [], h => by cases h
  | [_], h => by cases h.2
  | [_, _], h => by cases h.2.2
  | [_, _, _], h => by cases h.2.2.2
  | [d, e, f, g], h => ⟨d, e, f, g, rfl, h.1, h.2.1, h.2.2.1, h.2.2.2.1⟩
  | _ :: _ :: _ :: _ :: _ :: _, h => by cases h.2.2.2.2
set_option maxRecDepth 100000 in
theorem ok3  (d : D)  :
    (OkT tab 8 3 d) = (
 ∃ (z : Int), d = D.val (Value.int IntKind.i64 z) ∧ -(2 : Int) ^ (63 : Nat) ≤ z ∧ z ≤ IntKind.i64.max) := by kernel_rfl
set_option maxRecDepth 100000 in
theorem ok22  (d : D)  :
    (OkT tab 8 22 d) = (
 ∃ (z : Int), d = D.val (Value.int IntKind.u64 z) ∧ (0 : Int) ≤ z ∧ z ≤ IntKind.u64.max) := by kernel_rfl
theorem i64_of {d : D} (h : OkT tab 8 3 d) : ∃ z : Int, d = i64 z ∧ i64ok z := by
  rw [ok3] at h
  obtain ⟨z, rfl, h1, h2⟩ := h
  have e : IntKind.i64.max = 9223372036854775807 := rfl
  rw [e] at h2
  exact ⟨z, rfl, by simpa using h1, h2⟩
theorem u64_of {d : D} (h : OkT tab 8 22 d) : ∃ n : Nat, d = u64n n ∧ n < B64 := by
  rw [ok22] at h
  obtain ⟨z, rfl, h1, h2⟩ := h
  have e : IntKind.u64.max = 18446744073709551615 := rfl
  rw [e] at h2
  obtain ⟨n, rfl⟩ := Int.eq_ofNat_of_zero_le h1
  exact ⟨n, rfl, by show n < 18446744073709551616; omega⟩

set_option maxRecDepth 100000 in
theorem m4 : Meets Try.prog 4 (lawSpec tab Try.f4.params.toList) := by
  refine meets_of_owed (C := c4) ⟨tab_ok, lkS_ok ⟨m14, m15, m16, m17, m18, m19, m20, m21, m22, m23, m24, m25, m26, m27, m28, m29, m30, m31, trivial⟩⟩ (by kernel_rfl) (by kernel_rfl : Try.prog.funcs[4]? = some Try.f4) (by kernel_rfl) (by kernel_rfl) (by kernel_rfl) _ ?_
  intro ds hds
  obtain ⟨l, m, i, c, rfl, hl, hm, hi, hc⟩ : ∃ l m i c, ds = [num4 l, num4 m, i64 i, u64n c] ∧ isN l ∧ isN m ∧ i64ok i ∧ c < B64 := by
    have hds : OkAll tab 8 [24, 24, 3, 22] ds := hds
    obtain ⟨d, e, f, g, rfl, h1, h2, h3, h4⟩ := okAll4 hds
    obtain ⟨l, rfl, h5, h6⟩ := num_of h1
    obtain ⟨m, rfl, h7, h8⟩ := num_of h2
    obtain ⟨i, rfl, hi⟩ := i64_of h3
    obtain ⟨c, rfl, hc⟩ := u64_of h4
    exact ⟨l, m, i, c, rfl, ⟨h5, h6⟩, ⟨h7, h8⟩, hi, hc⟩
  refine ⟨fun _ => rfl, inv4 l m i c, ?_⟩
  show owed c4 (inv4 l m i c) Try.f4 [num4 l, num4 m, i64 i, u64n c] (.val (.bool true))
  rw [vc4]
  have hA := wv_lt hl.1 hl.2
  have hM := wv_lt hm.1 hm.2
  have eqs : ∀ a : List Int, eqB a a = true := fun a => eqB_iff.2 rfl
  have ed : dgP 256 = dg (2 ^ 256) := opq_eq _
  have ew : vB 65536 (dgP 256) = 2 ^ 256 := by rw [ed, vl_dg]
  have kP : okd (dgP 256) ∧ lenS (dgP 256) := by rw [ed]; exact ⟨dg_ok _, (len_ok (k := 17) (by decide) (by decide)).1⟩
  have l16 : ∀ {n : Nat}, n < 2 ^ 256 + 2 ^ 256 → okd (dg n) ∧ lenS (dg n) ∧ lenOk (dg n) := fun {n} h => ⟨dg_ok n, (len_ok (k := 17) (Nat.lt_trans h (by decide)) (by decide)).1, (len_ok (k := 17) (Nat.lt_trans h (by decide)) (by decide)).2⟩
  unfold wv at hA hM
  have n8 : (nB 2 256 (vB 18446744073709551616 l)).length = 256 := nB_length _ _ _
  have t0 : ∀ k, List.take 256 (List.drop 0 (shL (vB 18446744073709551616 l) i k)) = shL (vB 18446744073709551616 l) i k := fun k => by
    rw [List.drop_zero, List.take_of_length_le (by unfold shL; rw [List.length_map, List.length_range]; exact Nat.le_refl _)]
  have sm : nB 18446744073709551616 4 (smN (vB 18446744073709551616 l) (vB 18446744073709551616 m)) = nB 18446744073709551616 4 (vB 18446744073709551616 l + vB 18446744073709551616 m) := nB_mod 18446744073709551616 4 _
  have df : nB 18446744073709551616 4 (dif (vB 18446744073709551616 l) (vB 18446744073709551616 m)) = nB 18446744073709551616 4 (vB 18446744073709551616 l + 2 ^ 256 - vB 18446744073709551616 m) := nB_mod 18446744073709551616 4 _
  simp (decide := true) only [vl_dg, ew, n8, t0, sm, df, eqs, bne_self_eq_false, Bool.not_true, shL_zero, bitK_zero, Int.toNat_natCast, show Int.toNat 0 = 0 from rfl, Nat.mod_one, eq_self, true_and, and_true, ne_eq, not_false_eq_true]
  generalize hVA : vB 18446744073709551616 l = A at *
  generalize hVM : vB 18446744073709551616 m = M at *
  have a1 := l16 (n := A) (by omega)
  have a2 := l16 (n := M) (by omega)
  have a3 := l16 (n := A + M) (by omega)
  have a4 := l16 (n := A + 2 ^ 256) (by omega)
  have a5 := l16 (n := A + 2 ^ 256 - M) (by omega)
  have a6 : okd (dg (A * M)) ∧ lenOk (dg (A * M)) := ⟨dg_ok _, (len_ok (k := 32) (Nat.lt_of_lt_of_le (Nat.mul_lt_mul'' hA hM) (by decide)) (by decide)).2⟩
  refine ⟨⟨l, rfl, hl⟩, ⟨m, rfl, hm⟩, ⟨_, _, rfl, ⟨a1.1, a1.2.1⟩, a2.1, a2.2.1⟩, ⟨256, rfl, by decide, by decide⟩, ⟨_, _, rfl, ⟨a3.1, a3.2.1⟩, kP⟩, ?_, fun _ _ => ⟨⟨_, _, rfl, ⟨a1.1, a1.2.1⟩, a2.1, a2.2.1⟩, ?_, fun _ _ =>
    ⟨⟨l, m, rfl, hl, hm⟩, ⟨l, m, rfl, hl, hm⟩, ⟨_, rfl, a3.1, a3.2.2⟩, ⟨256, rfl, by decide, by decide⟩, ⟨_, _, rfl, ⟨a1.1, a1.2.1⟩, kP⟩, ⟨_, _, rfl, ⟨a4.1, a4.2.1⟩, ⟨a2.1, a2.2.1⟩, by rw [vl_dg, vl_dg]; omega⟩, ⟨_, rfl, a5.1, a5.2.2⟩,
      ⟨l, m, rfl, hl, hm⟩, ⟨_, _, rfl, ⟨a1.1, a1.2.1⟩, a2.1, a2.2.1⟩, ⟨_, rfl, a6⟩, ⟨l, m, rfl, hl, hm⟩, ⟨_, _, rfl, ⟨a1.1, a1.2.1⟩, a2.1, a2.2.1⟩, ⟨_, 256, rfl, a1.1, a1.2.2, by decide, by decide⟩, ⟨rfl, rfl, rfl⟩, ?_⟩⟩⟩
  · obtain ⟨s1, s2⟩ := smC_cmp A M hA hM
    split
    · rename_i h
      rw [s1 (of_decide_eq_true h)]
      rfl
    · rename_i h
      rw [s2 (of_decide_eq_false h)]
      rfl
  · obtain ⟨s1, s2⟩ := bor_cmp A M
    split
    · rename_i h
      rw [s1 (of_decide_eq_true h)]
      rfl
    · rename_i h
      rw [s2 (of_decide_eq_false h)]
      rfl
  intro x hx
  split
  · rename_i h
    have h : x < 256 := by have := of_decide_eq_true h; omega
    have ew : IntKind.i64.wrap ((x : Int) + 1) = ((x + 1 : Nat) : Int) := by rw [wi (by omega) (by omega)]; omega
    have hb := nB_get 2 256 A x h
    have hs := bl2_step A x
    rw [ew, hb]
    simp only [Int.toNat_natCast]
    refine ⟨by omega, ?_⟩
    split
    · rename_i h1
      have h1 : A / 2 ^ x % 2 = 1 := by have := eq_of_beq h1; omega
      rw [if_pos h1] at hs
      rw [hs]
      split
      · rename_i h2
        have h2 : (x : Int) = i := eq_of_beq h2
        subst h2
        rw [bitK_at]
        exact ⟨by and_intros <;> first | rfl | trivial, by omega, by omega⟩
      · rename_i h2
        have h2 : (x : Int) ≠ i := fun e => by rw [e] at h2; simp at h2
        rw [bitK_else h2]
        exact ⟨by and_intros <;> first | rfl | trivial, by omega, by omega⟩
    · rename_i h1
      have h1 : ¬ A / 2 ^ x % 2 = 1 := fun e => by rw [e] at h1; cases h1
      rw [if_neg h1] at hs
      rw [hs]
      split
      · rename_i h2
        have h2 : (x : Int) = i := eq_of_beq h2
        subst h2
        rw [bitK_at]
        exact ⟨by and_intros <;> first | rfl | trivial, by omega, by omega⟩
      · rename_i h2
        have h2 : (x : Int) ≠ i := fun e => by rw [e] at h2; simp at h2
        rw [bitK_else h2]
        exact ⟨by and_intros <;> first | rfl | trivial, by omega, by omega⟩
  · rename_i h
    obtain rfl : x = 256 := by have := of_decide_eq_false h; omega
    have hbl := bitK_le A i 256
    rw [wB (n := bitK A i 256) (by omega), bitK_end, Nat.mod_eq_of_lt hA, bne_self_eq_false, bne_self_eq_false]
    refine ⟨⟨l, i, rfl, hl, hi⟩, ⟨l, rfl, hl⟩, rfl, ?_⟩
    intro x hx
    split
    · rename_i h
      have h : x < 256 := by have := of_decide_eq_true h; omega
      have ew : IntKind.i64.wrap ((x : Int) + 1) = ((x + 1 : Nat) : Int) := by rw [wi (by omega) (by omega)]; omega
      have hb := nB_get 2 256 A x h
      rw [ew, hb]
      simp only [Int.toNat_natCast]
      refine ⟨by omega, ?_⟩
      split
      · rename_i h1
        have h1 := of_decide_eq_true h1
        split
        · rename_i h2
          have h2 := of_decide_eq_true h2
          have ei : IntKind.i64.wrap ((x : Int) + i) = (x : Int) + i := wi (by omega) (by omega)
          rw [ei]
          split
          · rename_i h3
            have h3 := of_decide_eq_true h3
            split
            · rename_i h4
              have h4 := of_decide_eq_true h4
              have hs := shL_set (v := A) (i := i) (k := x) (j := ((x : Int) + i).toNat) (by omega) (by omega) (by omega) (by omega)
              rw [Nat.zero_add, hs]
              exact ⟨by omega, by omega, by and_intros <;> first | rfl | trivial, by omega, by omega⟩
            · rename_i h4
              have h4 := of_decide_eq_false h4
              rw [← shL_skip (v := A) (i := i) (k := x) (by omega)]
              exact ⟨by and_intros <;> first | rfl | trivial, by omega, by omega⟩
          · rename_i h3
            have h3 := of_decide_eq_false h3
            rw [← shL_skip (v := A) (i := i) (k := x) (by omega)]
            exact ⟨by and_intros <;> first | rfl | trivial, by omega, by omega⟩
        · rename_i h2
          have h2 := of_decide_eq_false h2
          rw [← shL_skip (v := A) (i := i) (k := x) (by omega)]
          exact ⟨by and_intros <;> first | rfl | trivial, by omega, by omega⟩
      · rename_i h1
        have h1 := of_decide_eq_false h1
        rw [← shL_skip (v := A) (i := i) (k := x) (by omega)]
        exact ⟨by and_intros <;> first | rfl | trivial, by omega, by omega⟩
    · rename_i h
      obtain rfl : x = 256 := by have := of_decide_eq_false h; omega
      rw [shL_shf hA, back_shf, eqs]
      have hbv := bits_lt (isBits_nB (shf A i))
      have hlb := l16 (n := vB 2 (nB 2 256 (shf A i))) (by omega)
      have d2 : ((c : Nat) : Int).tmod 2 = ((c % 2 : Nat) : Int) := tmodN _ 2
      rw [d2]
      refine ⟨?_, fun _ _ => ⟨⟨l, i, rfl, hl, hi⟩, ⟨_, rfl, isBits_nB _⟩, ⟨_, rfl, hlb.1, hlb.2.2⟩, ⟨c, l, m, rfl, hc, hl, hm⟩⟩⟩
      split
      · rename_i h1
        have h1 : c % 2 = 1 := by have := eq_of_beq h1; omega
        unfold pkL
        rw [if_pos h1]
      · rename_i h1
        have h1 : ¬ c % 2 = 1 := fun e => by rw [e] at h1; cases h1
        unfold pkL
        rw [if_neg h1]

end Go.Proofs.Ytfbfblhlnhnonaa
