/- QuotInverts: Inverse: its spec and what it owes. -/
import Derived.Test.YtfbfblhlnhnonaaZb10
namespace Go.Proofs.Ytfbfblhlnhnonaa
open Go Go.Vg

/-- The inverse, where there is one below m. -/
noncomputable def invN (A M : Nat) : Nat := @dite _ (∃ x, x < M ∧ A * x % M = 1) (Classical.propDecidable _) (fun h => Classical.choose h) (fun _ => 0)
/-- What Inverse answers: the number, and the code. -/
noncomputable def ivX (A M : Nat) : Nat := if M ≤ 1 then 0 else if Nat.gcd A M = 1 then invN A M else 0
noncomputable def ivE (A M : Nat) : Nat := if M = 0 then 1 else if M = 1 then 0 else if Nat.gcd A M = 1 then 0 else 6
noncomputable def sp32 : Go.Vg.Spec := ⟨fun ds => ∃ l m, ds = [num4 l, num4 m] ∧ isN l ∧ isN m,
  fun ds => .tup [num4 (nB 18446744073709551616 4 (ivX (wv (arrOf (ds.headD default))) (wv (arrOf (ds.getD 1 default))))), i64n (ivE (wv (arrOf (ds.headD default))) (wv (arrOf (ds.getD 1 default))))], true, [24, 24]⟩
def c32 : Ctx := ⟨tab, lkS [(18, sp18), (19, sp19), (22, sp22), (50, sp50), (51, sp51), (52, sp52), (53, sp53)], [], [200006, 200007, 200009, 200010, 200011, 200012, 200014, 200018]⟩
abbrev n4 (v : Nat) : D := num4 (nB 18446744073709551616 4 v)
structure InvI (A M r0 r1 s0 s1 : Nat) : Prop where
  big : 1 < M
  top : M < 2 ^ 256
  r : r1 < r0 ∧ r0 ≤ M
  s : s0 < M ∧ s1 < M
  g : Nat.gcd r0 r1 = Nat.gcd A M
  e0 : ∃ k : Int, (A : Int) * (s0 : Int) = (r0 : Int) + k * (M : Int)
  e1 : ∃ k : Int, (A : Int) * (s1 : Int) = (r1 : Int) + k * (M : Int)
def inv32 (l m : List Int) : Nat → Option Inv
  | 8 => some ⟨Nat × Nat × Nat × Nat, fun _ => [], fun x => [(9, .fix (n4 x.1)), (10, .fix (n4 x.2.1)), (11, .fix (n4 x.2.2.1)), (12, .fix (n4 x.2.2.2))], fun s => (wv (rowD s 9), wv (rowD s 10), wv (rowD s 11), wv (rowD s 12)),
      fun _ x => InvI (wv l) (wv m) x.1 x.2.1 x.2.2.1 x.2.2.2, fun x => x.2.1⟩
  | _ => none
--KEEP Nat.gcd Go.Vg.eqB Go.Vg.vB Go.Vg.nB Go.Vg.okd Go.Vg.okw Go.Vg.dg Go.Vg.dig Go.Vg.trimL okb lenOk lenS len1 sbd sbb dif bor cmpN shf i64ok subL dvq dvr dve sbD adl adc mulL mulH stL stH smN smC addL addK TimI TimJ isN invN ivX ivE InvI
set_option maxRecDepth 100000 in
theorem vc32  (l m : List Int) (F : D)  :
    (owed c32 (inv32 l m) Try.f32 [num4 l, num4 m] F) = (
 (True ∧ false = false) ∧
   (True ∧ false = false) ∧
    (True ∧ (4 : Nat) ≠ (0 : Nat)) ∧
     True ∧
      (True ∧ (4 : Nat) ≠ (0 : Nat)) ∧
       ((4 : Nat) ≠ (0 : Nat) ∧ (4 : Nat) = (4 : Nat) ∧ true = true) ∧
        (true = true ∧ (4 : Nat) ≠ (0 : Nat) ∧ (4 : Nat) = (4 : Nat) ∧ true = true) ∧
         (∃ (l_1 : List Int), ∃ (m : List Int), [D.arr IntKind.u64 (4 : Nat) l, D.arr IntKind.u64 (4 : Nat) [(0 : Int), (0 : Int), (0 : Int), (0 : Int)]] = [D.arr IntKind.u64 (4 : Nat) l_1, D.arr IntKind.u64 (4 : Nat) m] ∧ l_1.length = (4 : Nat) ∧ m.length = (4 : Nat)) ∧
          ((4 : Nat) ≠ (0 : Nat) ∧ (4 : Nat) = (4 : Nat) ∧ true = true) ∧
           (∃ (a : List Int), ∃ (m_1 : List Int), [D.arr IntKind.u64 (8 : Nat) (l ++ [(0 : Int), (0 : Int), (0 : Int), (0 : Int)]), D.arr IntKind.u64 (4 : Nat) m] = [D.arr IntKind.u64 (8 : Nat) a, D.arr IntKind.u64 (4 : Nat) m_1] ∧ (okw a ∧ a.length = (8 : Nat)) ∧ okw m_1 ∧ m_1.length = (4 : Nat)) ∧
            True ∧
             ((0 : Nat) < (2 : Nat) ∧ false = false) ∧
              ((1 : Nat) < (2 : Nat) ∧ false = false) ∧
               (True ∧ (4 : Nat) ≠ (0 : Nat)) ∧
                (true = true ∧ Sk.arr (4 : Nat) = Sk.arr (4 : Nat) ∧ (4 : Nat) ≠ (0 : Nat) ∧ (4 : Nat) = (4 : Nat) ∧ false = false) ∧
                 True ∧
                  True ∧
                   True ∧
                    match (↑(dve (vB (18446744073709551616 : Nat) m)) : Int) != (0 : Int) with
                    | true =>
                     (true = true ∧ (4 : Nat) ≠ (0 : Nat) ∧ (4 : Nat) = (4 : Nat) ∧ true = true) ∧
                      True ∧
                       (Sk.arr (4 : Nat) = Sk.arr (4 : Nat) ∧ (4 : Nat) ≠ (0 : Nat) ∧ (4 : Nat) = (4 : Nat) ∧ false = false) ∧
                        True ∧ (((4 : Nat) ≠ (0 : Nat) ∧ (4 : Nat) = (4 : Nat) ∧ true = true) ∧ false = false ∧ True) ∧ D.tup [D.arr IntKind.u64 (4 : Nat) [(0 : Int), (0 : Int), (0 : Int), (0 : Int)], D.val (Value.int IntKind.i64 (↑(dve (vB (18446744073709551616 : Nat) m)) : Int))] = F
                    | false =>
                     ((4 : Nat) ≠ (0 : Nat) ∧ (4 : Nat) = (4 : Nat) ∧ true = true) ∧
                      ((1 : Nat) = (1 : Nat) ∧ false = false ∧ ((0 : Nat) < (4 : Nat) ∧ ([] : List Nat) = [] ∧ true = true) ∧ True) ∧
                       (IntKind.u64 = IntKind.u64 ∧ IntKind.u64 = IntKind.u64 ∧ (4 : Nat) = (4 : Nat) ∧ (4 : Nat) = (4 : Nat) ∧ (1 : Nat) = (1 : Nat)) ∧
                        match eqB m [(1 : Int), (0 : Int), (0 : Int), (0 : Int)] with
                        | true =>
                         (true = true ∧ (4 : Nat) ≠ (0 : Nat) ∧ (4 : Nat) = (4 : Nat) ∧ true = true) ∧
                          (Sk.arr (4 : Nat) = Sk.arr (4 : Nat) ∧ (4 : Nat) ≠ (0 : Nat) ∧ (4 : Nat) = (4 : Nat) ∧ false = false) ∧ True ∧ (((4 : Nat) ≠ (0 : Nat) ∧ (4 : Nat) = (4 : Nat) ∧ true = true) ∧ false = false ∧ True) ∧ D.tup [D.arr IntKind.u64 (4 : Nat) [(0 : Int), (0 : Int), (0 : Int), (0 : Int)], D.val (Value.int IntKind.i64 (0 : Int))] = F
                        | false =>
                         ((4 : Nat) ≠ (0 : Nat) ∧ (4 : Nat) = (4 : Nat) ∧ true = true) ∧
                          (true = true ∧ (4 : Nat) ≠ (0 : Nat) ∧ (4 : Nat) = (4 : Nat) ∧ true = true) ∧
                           (true = true ∧ (4 : Nat) ≠ (0 : Nat) ∧ (4 : Nat) = (4 : Nat) ∧ true = true) ∧
                            ((1 : Nat) = (1 : Nat) ∧ false = false ∧ ((0 : Nat) < (4 : Nat) ∧ ([] : List Nat) = [] ∧ true = true) ∧ True) ∧
                             (True ∧ (4 : Nat) ≠ (0 : Nat)) ∧
                              (True ∧ (4 : Nat) ≠ (0 : Nat)) ∧
                               (True ∧ (4 : Nat) ≠ (0 : Nat)) ∧
                                (True ∧ (4 : Nat) ≠ (0 : Nat)) ∧
                                 (true = true ∧ Sk.arr (4 : Nat) = Sk.arr (4 : Nat) ∧ (4 : Nat) ≠ (0 : Nat) ∧ (4 : Nat) = (4 : Nat) ∧ false = false) ∧
                                  (true = true ∧ Sk.arr (4 : Nat) = Sk.arr (4 : Nat) ∧ (4 : Nat) ≠ (0 : Nat) ∧ (4 : Nat) = (4 : Nat) ∧ false = false) ∧
                                   (true = true ∧ Sk.arr (4 : Nat) = Sk.arr (4 : Nat) ∧ (4 : Nat) ≠ (0 : Nat) ∧ (4 : Nat) = (4 : Nat) ∧ false = false) ∧
                                    (true = true ∧ Sk.arr (4 : Nat) = Sk.arr (4 : Nat) ∧ (4 : Nat) ≠ (0 : Nat) ∧ (4 : Nat) = (4 : Nat) ∧ false = false) ∧
                                     ((True ∧
                                        (some (Blk.fix (D.arr IntKind.u64 (4 : Nat) l)) = some (Blk.fix (D.arr IntKind.u64 (4 : Nat) l)) ∧
                                          some (Blk.fix (D.arr IntKind.u64 (4 : Nat) m)) = some (Blk.fix (D.arr IntKind.u64 (4 : Nat) m)) ∧
                                           some (Blk.fix (D.arr IntKind.u64 (4 : Nat) [(0 : Int), (0 : Int), (0 : Int), (0 : Int)])) = some (Blk.fix (D.arr IntKind.u64 (4 : Nat) [(0 : Int), (0 : Int), (0 : Int), (0 : Int)])) ∧
                                            some (Blk.fix (D.arr IntKind.u64 (4 : Nat) [(0 : Int), (0 : Int), (0 : Int), (0 : Int)])) = some (Blk.fix (D.arr IntKind.u64 (4 : Nat) [(0 : Int), (0 : Int), (0 : Int), (0 : Int)])) ∧
                                             some (Blk.fix (D.arr IntKind.u64 (4 : Nat) (nB (18446744073709551616 : Nat) (4 : Nat) (dvr (vB (18446744073709551616 : Nat) (l ++ [(0 : Int), (0 : Int), (0 : Int), (0 : Int)])) (vB (18446744073709551616 : Nat) m))))) =
                                               some (Blk.fix (D.arr IntKind.u64 (4 : Nat) (nB (18446744073709551616 : Nat) (4 : Nat) (dvr (vB (18446744073709551616 : Nat) (l ++ [(0 : Int), (0 : Int), (0 : Int), (0 : Int)])) (vB (18446744073709551616 : Nat) m))))) ∧
                                              some (Blk.fix (D.arr IntKind.u64 (4 : Nat) m)) = some (Blk.fix (D.arr IntKind.u64 (4 : Nat) (nB (18446744073709551616 : Nat) (4 : Nat) (vB (18446744073709551616 : Nat) m)))) ∧
                                               some (Blk.fix (D.arr IntKind.u64 (4 : Nat) (nB (18446744073709551616 : Nat) (4 : Nat) (dvr (vB (18446744073709551616 : Nat) (l ++ [(0 : Int), (0 : Int), (0 : Int), (0 : Int)])) (vB (18446744073709551616 : Nat) m))))) =
                                                 some (Blk.fix (D.arr IntKind.u64 (4 : Nat) (nB (18446744073709551616 : Nat) (4 : Nat) (vB (18446744073709551616 : Nat) (nB (18446744073709551616 : Nat) (4 : Nat) (dvr (vB (18446744073709551616 : Nat) (l ++ [(0 : Int), (0 : Int), (0 : Int), (0 : Int)])) (vB (18446744073709551616 : Nat) m))))))) ∧
                                                some (Blk.fix (D.arr IntKind.u64 (4 : Nat) [(0 : Int), (0 : Int), (0 : Int), (0 : Int)])) = some (Blk.fix (D.arr IntKind.u64 (4 : Nat) (nB (18446744073709551616 : Nat) (4 : Nat) (vB (18446744073709551616 : Nat) [(0 : Int), (0 : Int), (0 : Int), (0 : Int)])))) ∧
                                                 some (Blk.fix (D.arr IntKind.u64 (4 : Nat) [(1 : Int), (0 : Int), (0 : Int), (0 : Int)])) = some (Blk.fix (D.arr IntKind.u64 (4 : Nat) (nB (18446744073709551616 : Nat) (4 : Nat) (vB (18446744073709551616 : Nat) [(1 : Int), (0 : Int), (0 : Int), (0 : Int)])))) ∧ True) ∧
                                         true = true) ∧
                                       InvI (vB (18446744073709551616 : Nat) l) (vB (18446744073709551616 : Nat) m) (vB (18446744073709551616 : Nat) m) (vB (18446744073709551616 : Nat) (nB (18446744073709551616 : Nat) (4 : Nat) (dvr (vB (18446744073709551616 : Nat) (l ++ [(0 : Int), (0 : Int), (0 : Int), (0 : Int)])) (vB (18446744073709551616 : Nat) m))))
                                        (vB (18446744073709551616 : Nat) [(0 : Int), (0 : Int), (0 : Int), (0 : Int)]) (vB (18446744073709551616 : Nat) [(1 : Int), (0 : Int), (0 : Int), (0 : Int)])) ∧
                                      ∀ (x : Nat × Nat × Nat × Nat),
                                       InvI (vB (18446744073709551616 : Nat) l) (vB (18446744073709551616 : Nat) m) x.fst x.snd.fst x.snd.snd.fst x.snd.snd.snd →
                                        true = true ∧
                                         (true = true ∧ (4 : Nat) ≠ (0 : Nat) ∧ (4 : Nat) = (4 : Nat) ∧ true = true) ∧
                                          (true = true ∧ (4 : Nat) ≠ (0 : Nat) ∧ (4 : Nat) = (4 : Nat) ∧ true = true) ∧
                                           (IntKind.u64 = IntKind.u64 ∧ IntKind.u64 = IntKind.u64 ∧ (4 : Nat) = (4 : Nat) ∧ (4 : Nat) = (4 : Nat) ∧ (1 : Nat) = (1 : Nat)) ∧
                                            match !eqB (nB (18446744073709551616 : Nat) (4 : Nat) x.snd.fst) [(0 : Int), (0 : Int), (0 : Int), (0 : Int)] with
                                            | true =>
                                             (true = true ∧ (4 : Nat) ≠ (0 : Nat) ∧ (4 : Nat) = (4 : Nat) ∧ true = true) ∧
                                              (true = true ∧ (4 : Nat) ≠ (0 : Nat) ∧ (4 : Nat) = (4 : Nat) ∧ true = true) ∧
                                               (∃ (l : List Int), ∃ (m : List Int), [D.arr IntKind.u64 (4 : Nat) (nB (18446744073709551616 : Nat) (4 : Nat) x.fst), D.arr IntKind.u64 (4 : Nat) [(0 : Int), (0 : Int), (0 : Int), (0 : Int)]] = [D.arr IntKind.u64 (4 : Nat) l, D.arr IntKind.u64 (4 : Nat) m] ∧ l.length = (4 : Nat) ∧ m.length = (4 : Nat)) ∧
                                                (true = true ∧ (4 : Nat) ≠ (0 : Nat) ∧ (4 : Nat) = (4 : Nat) ∧ true = true) ∧
                                                 (∃ (a : List Int),
                                                   ∃ (m : List Int),
                                                    [D.arr IntKind.u64 (8 : Nat) (nB (18446744073709551616 : Nat) (4 : Nat) x.fst ++ [(0 : Int), (0 : Int), (0 : Int), (0 : Int)]), D.arr IntKind.u64 (4 : Nat) (nB (18446744073709551616 : Nat) (4 : Nat) x.snd.fst)] = [D.arr IntKind.u64 (8 : Nat) a, D.arr IntKind.u64 (4 : Nat) m] ∧
                                                     (okw a ∧ a.length = (8 : Nat)) ∧ okw m ∧ m.length = (4 : Nat)) ∧
                                                  True ∧
                                                   ((0 : Nat) < (3 : Nat) ∧ false = false) ∧
                                                    ((1 : Nat) < (3 : Nat) ∧ false = false) ∧
                                                     ((2 : Nat) < (3 : Nat) ∧ false = false) ∧
                                                      (True ∧ (8 : Nat) ≠ (0 : Nat)) ∧
                                                       (True ∧ (4 : Nat) ≠ (0 : Nat)) ∧
                                                        (Sk.arr (8 : Nat) = Sk.arr (8 : Nat) ∧ (8 : Nat) ≠ (0 : Nat) ∧ (8 : Nat) = (8 : Nat) ∧ false = false) ∧
                                                         (true = true ∧ Sk.arr (4 : Nat) = Sk.arr (4 : Nat) ∧ (4 : Nat) ≠ (0 : Nat) ∧ (4 : Nat) = (4 : Nat) ∧ false = false) ∧
                                                          True ∧
                                                           ((8 : Nat) ≠ (0 : Nat) ∧ (8 : Nat) = (8 : Nat) ∧ true = true) ∧
                                                            (∃ (l : List Int),
                                                              [D.arr IntKind.u64 (8 : Nat)
                                                                  (nB (18446744073709551616 : Nat) (8 : Nat)
                                                                   (dvq (vB (18446744073709551616 : Nat) (nB (18446744073709551616 : Nat) (4 : Nat) x.fst ++ [(0 : Int), (0 : Int), (0 : Int), (0 : Int)])) (vB (18446744073709551616 : Nat) (nB (18446744073709551616 : Nat) (4 : Nat) x.snd.fst))))] =
                                                                [D.arr IntKind.u64 (8 : Nat) l] ∧
                                                               l.length = (8 : Nat)) ∧
                                                             (true = true ∧ (4 : Nat) ≠ (0 : Nat) ∧ (4 : Nat) = (4 : Nat) ∧ true = true) ∧
                                                              (∃ (l : List Int),
                                                                ∃ (m : List Int),
                                                                 [D.arr IntKind.u64 (4 : Nat)
                                                                     (List.take (4 : Nat)
                                                                      (nB (18446744073709551616 : Nat) (8 : Nat)
                                                                       (dvq (vB (18446744073709551616 : Nat) (nB (18446744073709551616 : Nat) (4 : Nat) x.fst ++ [(0 : Int), (0 : Int), (0 : Int), (0 : Int)])) (vB (18446744073709551616 : Nat) (nB (18446744073709551616 : Nat) (4 : Nat) x.snd.fst))))),
                                                                    D.arr IntKind.u64 (4 : Nat) (nB (18446744073709551616 : Nat) (4 : Nat) x.snd.snd.snd)] =
                                                                   [D.arr IntKind.u64 (4 : Nat) l, D.arr IntKind.u64 (4 : Nat) m] ∧
                                                                  isN l ∧ isN m) ∧
                                                               ((4 : Nat) ≠ (0 : Nat) ∧ (4 : Nat) = (4 : Nat) ∧ true = true) ∧
                                                                (∃ (a : List Int),
                                                                  ∃ (m_1 : List Int),
                                                                   [D.arr IntKind.u64 (8 : Nat)
                                                                       (nB (18446744073709551616 : Nat) (8 : Nat)
                                                                        (vB (18446744073709551616 : Nat)
                                                                          (List.take (4 : Nat)
                                                                           (nB (18446744073709551616 : Nat) (8 : Nat)
                                                                            (dvq (vB (18446744073709551616 : Nat) (nB (18446744073709551616 : Nat) (4 : Nat) x.fst ++ [(0 : Int), (0 : Int), (0 : Int), (0 : Int)])) (vB (18446744073709551616 : Nat) (nB (18446744073709551616 : Nat) (4 : Nat) x.snd.fst))))) *
                                                                         vB (18446744073709551616 : Nat) (nB (18446744073709551616 : Nat) (4 : Nat) x.snd.snd.snd))),
                                                                      D.arr IntKind.u64 (4 : Nat) m] =
                                                                     [D.arr IntKind.u64 (8 : Nat) a, D.arr IntKind.u64 (4 : Nat) m_1] ∧
                                                                    (okw a ∧ a.length = (8 : Nat)) ∧ okw m_1 ∧ m_1.length = (4 : Nat)) ∧
                                                                 True ∧
                                                                  ((0 : Nat) < (2 : Nat) ∧ false = false) ∧
                                                                   ((1 : Nat) < (2 : Nat) ∧ false = false) ∧
                                                                    (True ∧ (4 : Nat) ≠ (0 : Nat)) ∧
                                                                     (Sk.arr (4 : Nat) = Sk.arr (4 : Nat) ∧ (4 : Nat) ≠ (0 : Nat) ∧ (4 : Nat) = (4 : Nat) ∧ false = false) ∧
                                                                      True ∧
                                                                       (true = true ∧ (4 : Nat) ≠ (0 : Nat) ∧ (4 : Nat) = (4 : Nat) ∧ true = true) ∧
                                                                        ((4 : Nat) ≠ (0 : Nat) ∧ (4 : Nat) = (4 : Nat) ∧ true = true) ∧
                                                                         (∃ (l : List Int),
                                                                           ∃ (m_1 : List Int),
                                                                            [D.arr IntKind.u64 (4 : Nat) (nB (18446744073709551616 : Nat) (4 : Nat) x.snd.snd.fst),
                                                                               D.arr IntKind.u64 (4 : Nat)
                                                                                (nB (18446744073709551616 : Nat) (4 : Nat)
                                                                                 (dvr
                                                                                  (vB (18446744073709551616 : Nat)
                                                                                   (nB (18446744073709551616 : Nat) (8 : Nat)
                                                                                    (vB (18446744073709551616 : Nat)
                                                                                      (List.take (4 : Nat)
                                                                                       (nB (18446744073709551616 : Nat) (8 : Nat)
                                                                                        (dvq (vB (18446744073709551616 : Nat) (nB (18446744073709551616 : Nat) (4 : Nat) x.fst ++ [(0 : Int), (0 : Int), (0 : Int), (0 : Int)]))
                                                                                         (vB (18446744073709551616 : Nat) (nB (18446744073709551616 : Nat) (4 : Nat) x.snd.fst))))) *
                                                                                     vB (18446744073709551616 : Nat) (nB (18446744073709551616 : Nat) (4 : Nat) x.snd.snd.snd))))
                                                                                  (vB (18446744073709551616 : Nat) m)))] =
                                                                              [D.arr IntKind.u64 (4 : Nat) l, D.arr IntKind.u64 (4 : Nat) m_1] ∧
                                                                             (okw l ∧ l.length = (4 : Nat)) ∧ okw m_1 ∧ m_1.length = (4 : Nat)) ∧
                                                                          True ∧
                                                                           ((0 : Nat) < (2 : Nat) ∧ false = false) ∧
                                                                            ((1 : Nat) < (2 : Nat) ∧ false = false) ∧
                                                                             (True ∧ (4 : Nat) ≠ (0 : Nat)) ∧
                                                                              (true = true ∧ Sk.arr (4 : Nat) = Sk.arr (4 : Nat) ∧ (4 : Nat) ≠ (0 : Nat) ∧ (4 : Nat) = (4 : Nat) ∧ false = false) ∧
                                                                               True ∧
                                                                                True ∧
                                                                                 True ∧
                                                                                  match
                                                                                   (↑(bor (vB (18446744073709551616 : Nat) (nB (18446744073709551616 : Nat) (4 : Nat) x.snd.snd.fst))
                                                                                       (vB (18446744073709551616 : Nat)
                                                                                        (nB (18446744073709551616 : Nat) (4 : Nat)
                                                                                         (dvr
                                                                                          (vB (18446744073709551616 : Nat)
                                                                                           (nB (18446744073709551616 : Nat) (8 : Nat)
                                                                                            (vB (18446744073709551616 : Nat)
                                                                                              (List.take (4 : Nat)
                                                                                               (nB (18446744073709551616 : Nat) (8 : Nat)
                                                                                                (dvq (vB (18446744073709551616 : Nat) (nB (18446744073709551616 : Nat) (4 : Nat) x.fst ++ [(0 : Int), (0 : Int), (0 : Int), (0 : Int)]))
                                                                                                 (vB (18446744073709551616 : Nat) (nB (18446744073709551616 : Nat) (4 : Nat) x.snd.fst))))) *
                                                                                             vB (18446744073709551616 : Nat) (nB (18446744073709551616 : Nat) (4 : Nat) x.snd.snd.snd))))
                                                                                          (vB (18446744073709551616 : Nat) m))))) :
                                                                                     Int) ==
                                                                                    (1 : Int) with
                                                                                  | true =>
                                                                                   (true = true ∧ (4 : Nat) ≠ (0 : Nat) ∧ (4 : Nat) = (4 : Nat) ∧ true = true) ∧
                                                                                    ((4 : Nat) ≠ (0 : Nat) ∧ (4 : Nat) = (4 : Nat) ∧ true = true) ∧
                                                                                     (∃ (l : List Int),
                                                                                       ∃ (m_1 : List Int),
                                                                                        [D.arr IntKind.u64 (4 : Nat)
                                                                                            (nB (18446744073709551616 : Nat) (4 : Nat)
                                                                                             (dif (vB (18446744073709551616 : Nat) (nB (18446744073709551616 : Nat) (4 : Nat) x.snd.snd.fst))
                                                                                              (vB (18446744073709551616 : Nat)
                                                                                               (nB (18446744073709551616 : Nat) (4 : Nat)
                                                                                                (dvr
                                                                                                 (vB (18446744073709551616 : Nat)
                                                                                                  (nB (18446744073709551616 : Nat) (8 : Nat)
                                                                                                   (vB (18446744073709551616 : Nat)
                                                                                                     (List.take (4 : Nat)
                                                                                                      (nB (18446744073709551616 : Nat) (8 : Nat)
                                                                                                       (dvq (vB (18446744073709551616 : Nat) (nB (18446744073709551616 : Nat) (4 : Nat) x.fst ++ [(0 : Int), (0 : Int), (0 : Int), (0 : Int)]))
                                                                                                        (vB (18446744073709551616 : Nat) (nB (18446744073709551616 : Nat) (4 : Nat) x.snd.fst))))) *
                                                                                                    vB (18446744073709551616 : Nat) (nB (18446744073709551616 : Nat) (4 : Nat) x.snd.snd.snd))))
                                                                                                 (vB (18446744073709551616 : Nat) m)))))),
                                                                                           D.arr IntKind.u64 (4 : Nat) m] =
                                                                                          [D.arr IntKind.u64 (4 : Nat) l, D.arr IntKind.u64 (4 : Nat) m_1] ∧
                                                                                         isN l ∧ isN m_1) ∧
                                                                                      True ∧
                                                                                       ((0 : Nat) < (2 : Nat) ∧ false = false) ∧
                                                                                        ((1 : Nat) < (2 : Nat) ∧ false = false) ∧
                                                                                         (true = true ∧ Sk.arr (4 : Nat) = Sk.arr (4 : Nat) ∧ (4 : Nat) ≠ (0 : Nat) ∧ (4 : Nat) = (4 : Nat) ∧ false = false) ∧
                                                                                          (true = true ∧ (4 : Nat) ≠ (0 : Nat) ∧ (4 : Nat) = (4 : Nat) ∧ true = true) ∧
                                                                                           (true = true ∧ (4 : Nat) ≠ (0 : Nat) ∧ (4 : Nat) = (4 : Nat) ∧ true = true) ∧
                                                                                            (true = true ∧ (4 : Nat) ≠ (0 : Nat) ∧ (4 : Nat) = (4 : Nat) ∧ true = true) ∧
                                                                                             (true = true ∧ (4 : Nat) ≠ (0 : Nat) ∧ (4 : Nat) = (4 : Nat) ∧ true = true) ∧
                                                                                              (true = true ∧ Sk.arr (4 : Nat) = Sk.arr (4 : Nat) ∧ (4 : Nat) ≠ (0 : Nat) ∧ (4 : Nat) = (4 : Nat) ∧ false = false) ∧
                                                                                               (true = true ∧ Sk.arr (4 : Nat) = Sk.arr (4 : Nat) ∧ (4 : Nat) ≠ (0 : Nat) ∧ (4 : Nat) = (4 : Nat) ∧ false = false) ∧
                                                                                                (true = true ∧ Sk.arr (4 : Nat) = Sk.arr (4 : Nat) ∧ (4 : Nat) ≠ (0 : Nat) ∧ (4 : Nat) = (4 : Nat) ∧ false = false) ∧
                                                                                                 (true = true ∧ Sk.arr (4 : Nat) = Sk.arr (4 : Nat) ∧ (4 : Nat) ≠ (0 : Nat) ∧ (4 : Nat) = (4 : Nat) ∧ false = false) ∧
                                                                                                  (True ∧
                                                                                                    (some (Blk.fix (D.arr IntKind.u64 (4 : Nat) l)) = some (Blk.fix (D.arr IntKind.u64 (4 : Nat) l)) ∧
                                                                                                      some (Blk.fix (D.arr IntKind.u64 (4 : Nat) m)) = some (Blk.fix (D.arr IntKind.u64 (4 : Nat) m)) ∧
                                                                                                       some (Blk.fix (D.arr IntKind.u64 (4 : Nat) [(0 : Int), (0 : Int), (0 : Int), (0 : Int)])) = some (Blk.fix (D.arr IntKind.u64 (4 : Nat) [(0 : Int), (0 : Int), (0 : Int), (0 : Int)])) ∧
                                                                                                        some (Blk.fix (D.arr IntKind.u64 (4 : Nat) [(0 : Int), (0 : Int), (0 : Int), (0 : Int)])) = some (Blk.fix (D.arr IntKind.u64 (4 : Nat) [(0 : Int), (0 : Int), (0 : Int), (0 : Int)])) ∧
                                                                                                         some
                                                                                                            (Blk.fix
                                                                                                             (D.arr IntKind.u64 (4 : Nat)
                                                                                                              (nB (18446744073709551616 : Nat) (4 : Nat) (dvr (vB (18446744073709551616 : Nat) (l ++ [(0 : Int), (0 : Int), (0 : Int), (0 : Int)])) (vB (18446744073709551616 : Nat) m))))) =
                                                                                                           some
                                                                                                            (Blk.fix
                                                                                                             (D.arr IntKind.u64 (4 : Nat)
                                                                                                              (nB (18446744073709551616 : Nat) (4 : Nat) (dvr (vB (18446744073709551616 : Nat) (l ++ [(0 : Int), (0 : Int), (0 : Int), (0 : Int)])) (vB (18446744073709551616 : Nat) m))))) ∧
                                                                                                          some (Blk.fix (D.arr IntKind.u64 (4 : Nat) (nB (18446744073709551616 : Nat) (4 : Nat) x.snd.fst))) =
                                                                                                            some (Blk.fix (D.arr IntKind.u64 (4 : Nat) (nB (18446744073709551616 : Nat) (4 : Nat) (vB (18446744073709551616 : Nat) (nB (18446744073709551616 : Nat) (4 : Nat) x.snd.fst))))) ∧
                                                                                                           some
                                                                                                              (Blk.fix
                                                                                                               (D.arr IntKind.u64 (4 : Nat)
                                                                                                                (nB (18446744073709551616 : Nat) (4 : Nat)
                                                                                                                 (dvr (vB (18446744073709551616 : Nat) (nB (18446744073709551616 : Nat) (4 : Nat) x.fst ++ [(0 : Int), (0 : Int), (0 : Int), (0 : Int)]))
                                                                                                                  (vB (18446744073709551616 : Nat) (nB (18446744073709551616 : Nat) (4 : Nat) x.snd.fst)))))) =
                                                                                                             some
                                                                                                              (Blk.fix
                                                                                                               (D.arr IntKind.u64 (4 : Nat)
                                                                                                                (nB (18446744073709551616 : Nat) (4 : Nat)
                                                                                                                 (vB (18446744073709551616 : Nat)
                                                                                                                  (nB (18446744073709551616 : Nat) (4 : Nat)
                                                                                                                   (dvr (vB (18446744073709551616 : Nat) (nB (18446744073709551616 : Nat) (4 : Nat) x.fst ++ [(0 : Int), (0 : Int), (0 : Int), (0 : Int)]))
                                                                                                                    (vB (18446744073709551616 : Nat) (nB (18446744073709551616 : Nat) (4 : Nat) x.snd.fst)))))))) ∧
                                                                                                            some (Blk.fix (D.arr IntKind.u64 (4 : Nat) (nB (18446744073709551616 : Nat) (4 : Nat) x.snd.snd.snd))) =
                                                                                                              some (Blk.fix (D.arr IntKind.u64 (4 : Nat) (nB (18446744073709551616 : Nat) (4 : Nat) (vB (18446744073709551616 : Nat) (nB (18446744073709551616 : Nat) (4 : Nat) x.snd.snd.snd))))) ∧
                                                                                                             some
                                                                                                                (Blk.fix
                                                                                                                 (D.arr IntKind.u64 (4 : Nat)
                                                                                                                  (nB (18446744073709551616 : Nat) (4 : Nat)
                                                                                                                   (smN
                                                                                                                    (vB (18446744073709551616 : Nat)
                                                                                                                     (nB (18446744073709551616 : Nat) (4 : Nat)
                                                                                                                      (dif (vB (18446744073709551616 : Nat) (nB (18446744073709551616 : Nat) (4 : Nat) x.snd.snd.fst))
                                                                                                                       (vB (18446744073709551616 : Nat)
                                                                                                                        (nB (18446744073709551616 : Nat) (4 : Nat)
                                                                                                                         (dvr
                                                                                                                          (vB (18446744073709551616 : Nat)
                                                                                                                           (nB (18446744073709551616 : Nat) (8 : Nat)
                                                                                                                            (vB (18446744073709551616 : Nat)
                                                                                                                              (List.take (4 : Nat)
                                                                                                                               (nB (18446744073709551616 : Nat) (8 : Nat)
                                                                                                                                (dvq (vB (18446744073709551616 : Nat) (nB (18446744073709551616 : Nat) (4 : Nat) x.fst ++ [(0 : Int), (0 : Int), (0 : Int), (0 : Int)]))
                                                                                                                                 (vB (18446744073709551616 : Nat) (nB (18446744073709551616 : Nat) (4 : Nat) x.snd.fst))))) *
                                                                                                                             vB (18446744073709551616 : Nat) (nB (18446744073709551616 : Nat) (4 : Nat) x.snd.snd.snd))))
                                                                                                                          (vB (18446744073709551616 : Nat) m)))))))
                                                                                                                    (vB (18446744073709551616 : Nat) m))))) =
                                                                                                               some
                                                                                                                (Blk.fix
                                                                                                                 (D.arr IntKind.u64 (4 : Nat)
                                                                                                                  (nB (18446744073709551616 : Nat) (4 : Nat)
                                                                                                                   (vB (18446744073709551616 : Nat)
                                                                                                                    (nB (18446744073709551616 : Nat) (4 : Nat)
                                                                                                                     (smN
                                                                                                                      (vB (18446744073709551616 : Nat)
                                                                                                                       (nB (18446744073709551616 : Nat) (4 : Nat)
                                                                                                                        (dif (vB (18446744073709551616 : Nat) (nB (18446744073709551616 : Nat) (4 : Nat) x.snd.snd.fst))
                                                                                                                         (vB (18446744073709551616 : Nat)
                                                                                                                          (nB (18446744073709551616 : Nat) (4 : Nat)
                                                                                                                           (dvr
                                                                                                                            (vB (18446744073709551616 : Nat)
                                                                                                                             (nB (18446744073709551616 : Nat) (8 : Nat)
                                                                                                                              (vB (18446744073709551616 : Nat)
                                                                                                                                (List.take (4 : Nat)
                                                                                                                                 (nB (18446744073709551616 : Nat) (8 : Nat)
                                                                                                                                  (dvq (vB (18446744073709551616 : Nat) (nB (18446744073709551616 : Nat) (4 : Nat) x.fst ++ [(0 : Int), (0 : Int), (0 : Int), (0 : Int)]))
                                                                                                                                   (vB (18446744073709551616 : Nat) (nB (18446744073709551616 : Nat) (4 : Nat) x.snd.fst))))) *
                                                                                                                               vB (18446744073709551616 : Nat) (nB (18446744073709551616 : Nat) (4 : Nat) x.snd.snd.snd))))
                                                                                                                            (vB (18446744073709551616 : Nat) m)))))))
                                                                                                                      (vB (18446744073709551616 : Nat) m))))))) ∧
                                                                                                              True) ∧
                                                                                                     true = true) ∧
                                                                                                   InvI (vB (18446744073709551616 : Nat) l) (vB (18446744073709551616 : Nat) m) (vB (18446744073709551616 : Nat) (nB (18446744073709551616 : Nat) (4 : Nat) x.snd.fst))
                                                                                                     (vB (18446744073709551616 : Nat)
                                                                                                      (nB (18446744073709551616 : Nat) (4 : Nat)
                                                                                                       (dvr (vB (18446744073709551616 : Nat) (nB (18446744073709551616 : Nat) (4 : Nat) x.fst ++ [(0 : Int), (0 : Int), (0 : Int), (0 : Int)]))
                                                                                                        (vB (18446744073709551616 : Nat) (nB (18446744073709551616 : Nat) (4 : Nat) x.snd.fst)))))
                                                                                                     (vB (18446744073709551616 : Nat) (nB (18446744073709551616 : Nat) (4 : Nat) x.snd.snd.snd))
                                                                                                     (vB (18446744073709551616 : Nat)
                                                                                                      (nB (18446744073709551616 : Nat) (4 : Nat)
                                                                                                       (smN
                                                                                                        (vB (18446744073709551616 : Nat)
                                                                                                         (nB (18446744073709551616 : Nat) (4 : Nat)
                                                                                                          (dif (vB (18446744073709551616 : Nat) (nB (18446744073709551616 : Nat) (4 : Nat) x.snd.snd.fst))
                                                                                                           (vB (18446744073709551616 : Nat)
                                                                                                            (nB (18446744073709551616 : Nat) (4 : Nat)
                                                                                                             (dvr
                                                                                                              (vB (18446744073709551616 : Nat)
                                                                                                               (nB (18446744073709551616 : Nat) (8 : Nat)
                                                                                                                (vB (18446744073709551616 : Nat)
                                                                                                                  (List.take (4 : Nat)
                                                                                                                   (nB (18446744073709551616 : Nat) (8 : Nat)
                                                                                                                    (dvq (vB (18446744073709551616 : Nat) (nB (18446744073709551616 : Nat) (4 : Nat) x.fst ++ [(0 : Int), (0 : Int), (0 : Int), (0 : Int)]))
                                                                                                                     (vB (18446744073709551616 : Nat) (nB (18446744073709551616 : Nat) (4 : Nat) x.snd.fst))))) *
                                                                                                                 vB (18446744073709551616 : Nat) (nB (18446744073709551616 : Nat) (4 : Nat) x.snd.snd.snd))))
                                                                                                              (vB (18446744073709551616 : Nat) m)))))))
                                                                                                        (vB (18446744073709551616 : Nat) m)))) ∧
                                                                                                    vB (18446744073709551616 : Nat)
                                                                                                      (nB (18446744073709551616 : Nat) (4 : Nat)
                                                                                                       (dvr (vB (18446744073709551616 : Nat) (nB (18446744073709551616 : Nat) (4 : Nat) x.fst ++ [(0 : Int), (0 : Int), (0 : Int), (0 : Int)]))
                                                                                                        (vB (18446744073709551616 : Nat) (nB (18446744073709551616 : Nat) (4 : Nat) x.snd.fst)))) <
                                                                                                     x.snd.fst
                                                                                  | false =>
                                                                                   (true = true ∧ (4 : Nat) ≠ (0 : Nat) ∧ (4 : Nat) = (4 : Nat) ∧ true = true) ∧
                                                                                    (true = true ∧ (4 : Nat) ≠ (0 : Nat) ∧ (4 : Nat) = (4 : Nat) ∧ true = true) ∧
                                                                                     (true = true ∧ (4 : Nat) ≠ (0 : Nat) ∧ (4 : Nat) = (4 : Nat) ∧ true = true) ∧
                                                                                      (true = true ∧ (4 : Nat) ≠ (0 : Nat) ∧ (4 : Nat) = (4 : Nat) ∧ true = true) ∧
                                                                                       (true = true ∧ Sk.arr (4 : Nat) = Sk.arr (4 : Nat) ∧ (4 : Nat) ≠ (0 : Nat) ∧ (4 : Nat) = (4 : Nat) ∧ false = false) ∧
                                                                                        (true = true ∧ Sk.arr (4 : Nat) = Sk.arr (4 : Nat) ∧ (4 : Nat) ≠ (0 : Nat) ∧ (4 : Nat) = (4 : Nat) ∧ false = false) ∧
                                                                                         (true = true ∧ Sk.arr (4 : Nat) = Sk.arr (4 : Nat) ∧ (4 : Nat) ≠ (0 : Nat) ∧ (4 : Nat) = (4 : Nat) ∧ false = false) ∧
                                                                                          (true = true ∧ Sk.arr (4 : Nat) = Sk.arr (4 : Nat) ∧ (4 : Nat) ≠ (0 : Nat) ∧ (4 : Nat) = (4 : Nat) ∧ false = false) ∧
                                                                                           (True ∧
                                                                                             (some (Blk.fix (D.arr IntKind.u64 (4 : Nat) l)) = some (Blk.fix (D.arr IntKind.u64 (4 : Nat) l)) ∧
                                                                                               some (Blk.fix (D.arr IntKind.u64 (4 : Nat) m)) = some (Blk.fix (D.arr IntKind.u64 (4 : Nat) m)) ∧
                                                                                                some (Blk.fix (D.arr IntKind.u64 (4 : Nat) [(0 : Int), (0 : Int), (0 : Int), (0 : Int)])) = some (Blk.fix (D.arr IntKind.u64 (4 : Nat) [(0 : Int), (0 : Int), (0 : Int), (0 : Int)])) ∧
                                                                                                 some (Blk.fix (D.arr IntKind.u64 (4 : Nat) [(0 : Int), (0 : Int), (0 : Int), (0 : Int)])) = some (Blk.fix (D.arr IntKind.u64 (4 : Nat) [(0 : Int), (0 : Int), (0 : Int), (0 : Int)])) ∧
                                                                                                  some
                                                                                                     (Blk.fix
                                                                                                      (D.arr IntKind.u64 (4 : Nat)
                                                                                                       (nB (18446744073709551616 : Nat) (4 : Nat) (dvr (vB (18446744073709551616 : Nat) (l ++ [(0 : Int), (0 : Int), (0 : Int), (0 : Int)])) (vB (18446744073709551616 : Nat) m))))) =
                                                                                                    some
                                                                                                     (Blk.fix
                                                                                                      (D.arr IntKind.u64 (4 : Nat)
                                                                                                       (nB (18446744073709551616 : Nat) (4 : Nat) (dvr (vB (18446744073709551616 : Nat) (l ++ [(0 : Int), (0 : Int), (0 : Int), (0 : Int)])) (vB (18446744073709551616 : Nat) m))))) ∧
                                                                                                   some (Blk.fix (D.arr IntKind.u64 (4 : Nat) (nB (18446744073709551616 : Nat) (4 : Nat) x.snd.fst))) =
                                                                                                     some (Blk.fix (D.arr IntKind.u64 (4 : Nat) (nB (18446744073709551616 : Nat) (4 : Nat) (vB (18446744073709551616 : Nat) (nB (18446744073709551616 : Nat) (4 : Nat) x.snd.fst))))) ∧
                                                                                                    some
                                                                                                       (Blk.fix
                                                                                                        (D.arr IntKind.u64 (4 : Nat)
                                                                                                         (nB (18446744073709551616 : Nat) (4 : Nat)
                                                                                                          (dvr (vB (18446744073709551616 : Nat) (nB (18446744073709551616 : Nat) (4 : Nat) x.fst ++ [(0 : Int), (0 : Int), (0 : Int), (0 : Int)]))
                                                                                                           (vB (18446744073709551616 : Nat) (nB (18446744073709551616 : Nat) (4 : Nat) x.snd.fst)))))) =
                                                                                                      some
                                                                                                       (Blk.fix
                                                                                                        (D.arr IntKind.u64 (4 : Nat)
                                                                                                         (nB (18446744073709551616 : Nat) (4 : Nat)
                                                                                                          (vB (18446744073709551616 : Nat)
                                                                                                           (nB (18446744073709551616 : Nat) (4 : Nat)
                                                                                                            (dvr (vB (18446744073709551616 : Nat) (nB (18446744073709551616 : Nat) (4 : Nat) x.fst ++ [(0 : Int), (0 : Int), (0 : Int), (0 : Int)]))
                                                                                                             (vB (18446744073709551616 : Nat) (nB (18446744073709551616 : Nat) (4 : Nat) x.snd.fst)))))))) ∧
                                                                                                     some (Blk.fix (D.arr IntKind.u64 (4 : Nat) (nB (18446744073709551616 : Nat) (4 : Nat) x.snd.snd.snd))) =
                                                                                                       some (Blk.fix (D.arr IntKind.u64 (4 : Nat) (nB (18446744073709551616 : Nat) (4 : Nat) (vB (18446744073709551616 : Nat) (nB (18446744073709551616 : Nat) (4 : Nat) x.snd.snd.snd))))) ∧
                                                                                                      some
                                                                                                         (Blk.fix
                                                                                                          (D.arr IntKind.u64 (4 : Nat)
                                                                                                           (nB (18446744073709551616 : Nat) (4 : Nat)
                                                                                                            (dif (vB (18446744073709551616 : Nat) (nB (18446744073709551616 : Nat) (4 : Nat) x.snd.snd.fst))
                                                                                                             (vB (18446744073709551616 : Nat)
                                                                                                              (nB (18446744073709551616 : Nat) (4 : Nat)
                                                                                                               (dvr
                                                                                                                (vB (18446744073709551616 : Nat)
                                                                                                                 (nB (18446744073709551616 : Nat) (8 : Nat)
                                                                                                                  (vB (18446744073709551616 : Nat)
                                                                                                                    (List.take (4 : Nat)
                                                                                                                     (nB (18446744073709551616 : Nat) (8 : Nat)
                                                                                                                      (dvq (vB (18446744073709551616 : Nat) (nB (18446744073709551616 : Nat) (4 : Nat) x.fst ++ [(0 : Int), (0 : Int), (0 : Int), (0 : Int)]))
                                                                                                                       (vB (18446744073709551616 : Nat) (nB (18446744073709551616 : Nat) (4 : Nat) x.snd.fst))))) *
                                                                                                                   vB (18446744073709551616 : Nat) (nB (18446744073709551616 : Nat) (4 : Nat) x.snd.snd.snd))))
                                                                                                                (vB (18446744073709551616 : Nat) m)))))))) =
                                                                                                        some
                                                                                                         (Blk.fix
                                                                                                          (D.arr IntKind.u64 (4 : Nat)
                                                                                                           (nB (18446744073709551616 : Nat) (4 : Nat)
                                                                                                            (vB (18446744073709551616 : Nat)
                                                                                                             (nB (18446744073709551616 : Nat) (4 : Nat)
                                                                                                              (dif (vB (18446744073709551616 : Nat) (nB (18446744073709551616 : Nat) (4 : Nat) x.snd.snd.fst))
                                                                                                               (vB (18446744073709551616 : Nat)
                                                                                                                (nB (18446744073709551616 : Nat) (4 : Nat)
                                                                                                                 (dvr
                                                                                                                  (vB (18446744073709551616 : Nat)
                                                                                                                   (nB (18446744073709551616 : Nat) (8 : Nat)
                                                                                                                    (vB (18446744073709551616 : Nat)
                                                                                                                      (List.take (4 : Nat)
                                                                                                                       (nB (18446744073709551616 : Nat) (8 : Nat)
                                                                                                                        (dvq (vB (18446744073709551616 : Nat) (nB (18446744073709551616 : Nat) (4 : Nat) x.fst ++ [(0 : Int), (0 : Int), (0 : Int), (0 : Int)]))
                                                                                                                         (vB (18446744073709551616 : Nat) (nB (18446744073709551616 : Nat) (4 : Nat) x.snd.fst))))) *
                                                                                                                     vB (18446744073709551616 : Nat) (nB (18446744073709551616 : Nat) (4 : Nat) x.snd.snd.snd))))
                                                                                                                  (vB (18446744073709551616 : Nat) m)))))))))) ∧
                                                                                                       True) ∧
                                                                                              true = true) ∧
                                                                                            InvI (vB (18446744073709551616 : Nat) l) (vB (18446744073709551616 : Nat) m) (vB (18446744073709551616 : Nat) (nB (18446744073709551616 : Nat) (4 : Nat) x.snd.fst))
                                                                                              (vB (18446744073709551616 : Nat)
                                                                                               (nB (18446744073709551616 : Nat) (4 : Nat)
                                                                                                (dvr (vB (18446744073709551616 : Nat) (nB (18446744073709551616 : Nat) (4 : Nat) x.fst ++ [(0 : Int), (0 : Int), (0 : Int), (0 : Int)]))
                                                                                                 (vB (18446744073709551616 : Nat) (nB (18446744073709551616 : Nat) (4 : Nat) x.snd.fst)))))
                                                                                              (vB (18446744073709551616 : Nat) (nB (18446744073709551616 : Nat) (4 : Nat) x.snd.snd.snd))
                                                                                              (vB (18446744073709551616 : Nat)
                                                                                               (nB (18446744073709551616 : Nat) (4 : Nat)
                                                                                                (dif (vB (18446744073709551616 : Nat) (nB (18446744073709551616 : Nat) (4 : Nat) x.snd.snd.fst))
                                                                                                 (vB (18446744073709551616 : Nat)
                                                                                                  (nB (18446744073709551616 : Nat) (4 : Nat)
                                                                                                   (dvr
                                                                                                    (vB (18446744073709551616 : Nat)
                                                                                                     (nB (18446744073709551616 : Nat) (8 : Nat)
                                                                                                      (vB (18446744073709551616 : Nat)
                                                                                                        (List.take (4 : Nat)
                                                                                                         (nB (18446744073709551616 : Nat) (8 : Nat)
                                                                                                          (dvq (vB (18446744073709551616 : Nat) (nB (18446744073709551616 : Nat) (4 : Nat) x.fst ++ [(0 : Int), (0 : Int), (0 : Int), (0 : Int)]))
                                                                                                           (vB (18446744073709551616 : Nat) (nB (18446744073709551616 : Nat) (4 : Nat) x.snd.fst))))) *
                                                                                                       vB (18446744073709551616 : Nat) (nB (18446744073709551616 : Nat) (4 : Nat) x.snd.snd.snd))))
                                                                                                    (vB (18446744073709551616 : Nat) m))))))) ∧
                                                                                             vB (18446744073709551616 : Nat)
                                                                                               (nB (18446744073709551616 : Nat) (4 : Nat)
                                                                                                (dvr (vB (18446744073709551616 : Nat) (nB (18446744073709551616 : Nat) (4 : Nat) x.fst ++ [(0 : Int), (0 : Int), (0 : Int), (0 : Int)]))
                                                                                                 (vB (18446744073709551616 : Nat) (nB (18446744073709551616 : Nat) (4 : Nat) x.snd.fst)))) <
                                                                                              x.snd.fst
                                            | false =>
                                             (true = true ∧ (4 : Nat) ≠ (0 : Nat) ∧ (4 : Nat) = (4 : Nat) ∧ true = true) ∧
                                              ((1 : Nat) = (1 : Nat) ∧ false = false ∧ ((0 : Nat) < (4 : Nat) ∧ ([] : List Nat) = [] ∧ true = true) ∧ True) ∧
                                               (IntKind.u64 = IntKind.u64 ∧ IntKind.u64 = IntKind.u64 ∧ (4 : Nat) = (4 : Nat) ∧ (4 : Nat) = (4 : Nat) ∧ (1 : Nat) = (1 : Nat)) ∧
                                                match !eqB (nB (18446744073709551616 : Nat) (4 : Nat) x.fst) [(1 : Int), (0 : Int), (0 : Int), (0 : Int)] with
                                                | true =>
                                                 (true = true ∧ (4 : Nat) ≠ (0 : Nat) ∧ (4 : Nat) = (4 : Nat) ∧ true = true) ∧
                                                  (Sk.arr (4 : Nat) = Sk.arr (4 : Nat) ∧ (4 : Nat) ≠ (0 : Nat) ∧ (4 : Nat) = (4 : Nat) ∧ false = false) ∧
                                                   True ∧ (((4 : Nat) ≠ (0 : Nat) ∧ (4 : Nat) = (4 : Nat) ∧ true = true) ∧ false = false ∧ True) ∧ D.tup [D.arr IntKind.u64 (4 : Nat) [(0 : Int), (0 : Int), (0 : Int), (0 : Int)], D.val (Value.int IntKind.i64 (6 : Int))] = F
                                                | false =>
                                                 (true = true ∧ (4 : Nat) ≠ (0 : Nat) ∧ (4 : Nat) = (4 : Nat) ∧ true = true) ∧
                                                  (Sk.arr (4 : Nat) = Sk.arr (4 : Nat) ∧ (4 : Nat) ≠ (0 : Nat) ∧ (4 : Nat) = (4 : Nat) ∧ false = false) ∧
                                                   True ∧ (((4 : Nat) ≠ (0 : Nat) ∧ (4 : Nat) = (4 : Nat) ∧ true = true) ∧ false = false ∧ True) ∧ D.tup [D.arr IntKind.u64 (4 : Nat) (nB (18446744073709551616 : Nat) (4 : Nat) x.snd.snd.fst), D.val (Value.int IntKind.i64 (0 : Int))] = F) := by kernel_rfl

end Go.Proofs.Ytfbfblhlnhnonaa
/- QuotInverts: Euclid's steps (no program in sight). -/
namespace Go.Proofs.Ytfbfblhlnhnonaa
open Go Go.Vg

def sNew (M q s0 s1 : Nat) : Nat := if q * s1 % M ≤ s0 then s0 - q * s1 % M else s0 + M - q * s1 % M
theorem sNew_lt {M q s0 s1 : Nat} (hM : 1 < M) (h : s0 < M) : sNew M q s0 s1 < M := by
  have := Nat.mod_lt (q * s1) (show 0 < M by omega)
  unfold sNew
  split <;> omega
theorem sNew_add {M q s0 s1 : Nat} (hM : 1 < M) (h : s0 < M) : ∃ e : Nat, sNew M q s0 s1 + q * s1 % M = s0 + e * M := by
  have := Nat.mod_lt (q * s1) (show 0 < M by omega)
  unfold sNew
  split
  · exact ⟨0, by omega⟩
  · exact ⟨1, by omega⟩
theorem inv_step {A M r0 r1 s0 s1 : Nat} (h : InvI A M r0 r1 s0 s1) (hr : r1 ≠ 0) : InvI A M r1 (r0 % r1) s1 (sNew M (r0 / r1) s0 s1) := by
  obtain ⟨hb, ht, ⟨h1, h2⟩, ⟨h3, h4⟩, hg, ⟨k0, e0⟩, ⟨k1, e1⟩⟩ := h
  refine ⟨hb, ht, ⟨Nat.mod_lt _ (by omega), by omega⟩, ⟨h4, sNew_lt hb h3⟩, ?_, ⟨k1, e1⟩, ?_⟩
  · rw [Nat.gcd_comm, ← Nat.gcd_rec, Nat.gcd_comm, hg]
  · obtain ⟨e, he⟩ := sNew_add (q := r0 / r1) (s1 := s1) hb h3
    generalize sNew M (r0 / r1) s0 s1 = t at he ⊢
    have hdm := Nat.div_add_mod (r0 / r1 * s1) M
    have hr0 := Nat.div_add_mod r0 r1
    generalize r0 % r1 = r at hr0 ⊢
    generalize r0 / r1 = q at *
    generalize q * s1 / M = j at hdm
    generalize q * s1 % M = o at *
    refine ⟨k0 - (q : Int) * k1 + (A : Int) * (j : Int) + (A : Int) * (e : Int), ?_⟩
    have c1 : (A : Int) * (t : Int) + (A : Int) * (o : Int) = (A : Int) * (s0 : Int) + (A : Int) * ((e : Int) * (M : Int)) := by
      rw [← Int.mul_add, ← Int.mul_add]
      congr 1
      have := congrArg (fun z : Nat => (z : Int)) he
      simpa using this
    have c2 : (A : Int) * ((M : Int) * (j : Int)) + (A : Int) * (o : Int) = (q : Int) * ((A : Int) * (s1 : Int)) := by
      rw [← Int.mul_add, Int.mul_left_comm (q : Int)]
      congr 1
      have := congrArg (fun z : Nat => (z : Int)) hdm
      simpa using this
    have c3 : (r1 : Int) * (q : Int) + (r : Int) = (r0 : Int) := by
      have := congrArg (fun z : Nat => (z : Int)) hr0
      simpa using this
    rw [e1, Int.mul_add] at c2
    rw [e0] at c1
    rw [Int.add_mul, Int.add_mul, Int.sub_mul, Int.mul_assoc (q : Int), Int.mul_assoc (A : Int), Int.mul_assoc (A : Int), Int.mul_comm (j : Int)]
    rw [Int.mul_comm (r1 : Int)] at c3
    omega
theorem inv_start {A M : Nat} (h : 1 < M) (ht : M < 2 ^ 256) : InvI A M M (A % M) 0 1 := by
  refine ⟨h, ht, ⟨Nat.mod_lt _ (by omega), Nat.le_refl _⟩, ⟨by omega, h⟩, ?_, ⟨-1, ?_⟩, ⟨(A / M : Nat), ?_⟩⟩
  · rw [Nat.gcd_comm M, ← Nat.gcd_rec, Nat.gcd_comm]
  · simp
    omega
  · have := congrArg (fun z : Nat => (z : Int)) (Nat.div_add_mod A M)
    simp at this
    have e : ((A / M : Nat) : Int) * (M : Int) = (M : Int) * ((A / M : Nat) : Int) := Int.mul_comm _ _
    rw [e]
    simp
    omega
theorem inv_end {A M r0 s0 s1 : Nat} (h : InvI A M r0 0 s0 s1) : r0 = Nat.gcd A M ∧ (r0 = 1 → A * s0 % M = 1) := by
  obtain ⟨hb, ht, ⟨h1, h2⟩, ⟨h3, h4⟩, hg, ⟨k0, e0⟩, _⟩ := h
  rw [Nat.gcd_zero_right] at hg
  refine ⟨hg, fun e => ?_⟩
  subst e
  have h5 : ((A * s0 : Nat) : Int) % (M : Int) = 1 := by
    rw [Int.natCast_mul, e0, Int.add_mul_emod_self_right]
    exact Int.emod_eq_of_lt (by omega) (by omega)
  have h6 : ((A * s0 % M : Nat) : Int) = 1 := by rw [Int.natCast_emod]; exact h5
  omega
theorem inv_ex {A M : Nat} (n : Nat) : ∀ r0 r1 s0 s1, r1 ≤ n → InvI A M r0 r1 s0 s1 → Nat.gcd A M = 1 → ∃ x, x < M ∧ A * x % M = 1 := by
  induction n with
  | zero =>
    intro r0 r1 s0 s1 hn h hg
    obtain rfl : r1 = 0 := by omega
    obtain ⟨e, f⟩ := inv_end h
    exact ⟨s0, h.s.1, f (by rw [e, hg])⟩
  | succ n ih =>
    intro r0 r1 s0 s1 hn h hg
    by_cases h0 : r1 = 0
    · subst h0
      obtain ⟨e, f⟩ := inv_end h
      exact ⟨s0, h.s.1, f (by rw [e, hg])⟩
    · exact ih _ _ _ _ (by have := Nat.mod_lt r0 (show 0 < r1 by omega); omega) (inv_step h h0) hg
theorem invN_spec {A M : Nat} (h : ∃ x, x < M ∧ A * x % M = 1) : invN A M < M ∧ A * invN A M % M = 1 := by
  unfold invN
  rw [dif_pos h]
  exact Classical.choose_spec h
theorem inv_unique {A M x y : Nat} (hx : x < M) (hy : y < M) (h1 : A * x % M = 1) (h2 : A * y % M = 1) : x = y := by
  have hM : 1 < M := by
    rcases Nat.lt_or_ge 1 M with h | h
    · exact h
    · have : M = 1 := by omega
      subst this
      omega
  have e1 : x * (A * y) % M = x := by rw [Nat.mul_mod, h2, Nat.mul_one, Nat.mod_mod, Nat.mod_eq_of_lt hx]
  have e2 : y * (A * x) % M = y := by rw [Nat.mul_mod, h1, Nat.mul_one, Nat.mod_mod, Nat.mod_eq_of_lt hy]
  have e3 : x * (A * y) = y * (A * x) := by rw [Nat.mul_left_comm, Nat.mul_comm x y, Nat.mul_left_comm y]
  rw [← e1, e3, e2]
theorem invN_eq {A M s : Nat} (h : s < M) (h1 : A * s % M = 1) : s = invN A M := by
  obtain ⟨a, b⟩ := invN_spec ⟨s, h, h1⟩
  exact inv_unique h a h1 b
theorem inv_iv {A M r0 s0 s1 : Nat} (h : InvI A M r0 0 s0 s1) : (r0 = 1 → s0 = ivX A M ∧ ivE A M = 0) ∧ (r0 ≠ 1 → ivX A M = 0 ∧ ivE A M = 6) := by
  obtain ⟨e, f⟩ := inv_end h
  have hb := h.big
  unfold ivX ivE
  rw [if_neg (show ¬ M ≤ 1 by omega), if_neg (show ¬ M = 0 by omega), if_neg (show ¬ M = 1 by omega)]
  rw [e]
  rw [e] at f
  refine ⟨fun e1 => ?_, fun e1 => ?_⟩
  · rw [if_pos e1, if_pos e1]
    exact ⟨invN_eq h.s.1 (f e1), rfl⟩
  · rw [if_neg e1, if_neg e1]
    exact ⟨rfl, rfl⟩
theorem iv_one {A M : Nat} (hM : 0 < M) (ht : M < 2 ^ 256) (hg : Nat.gcd A M = 1) : ivX A M < M ∧ A * ivX A M % M = 1 % M ∧ ivE A M = 0 := by
  unfold ivX ivE
  by_cases h1 : M = 1
  · subst h1
    refine ⟨?_, Nat.mod_one _, ?_⟩
    · rw [if_pos (show (1 : Nat) ≤ 1 by omega)]; omega
    · rw [if_neg (show ¬ (1 : Nat) = 0 by omega), if_pos rfl]
  · rw [if_neg (show ¬ M ≤ 1 by omega), if_neg (show ¬ M = 0 by omega), if_neg h1, if_pos hg, if_pos hg]
    obtain ⟨a, b⟩ := invN_spec (inv_ex (A := A) (M := M) (A % M) _ _ _ _ (Nat.le_refl _) (inv_start (by omega) ht) hg)
    exact ⟨a, by rw [b, Nat.mod_eq_of_lt (by omega)], rfl⟩
end Go.Proofs.Ytfbfblhlnhnonaa
/- QuotInverts: Inverse meets. -/
namespace Go.Proofs.Ytfbfblhlnhnonaa
open Go Go.Vg

theorem n4v {v : Nat} (h : v < 2 ^ 256) : vB 18446744073709551616 (nB 18446744073709551616 4 v) = v := by
  rw [wv_nB, Nat.mod_eq_of_lt h]
theorem nn4 (v : Nat) : nB 18446744073709551616 4 (vB 18446744073709551616 (nB 18446744073709551616 4 v)) = nB 18446744073709551616 4 v := by
  rw [vB_nB, nB_mod]
theorem addz (l : List Int) : vB 18446744073709551616 (l ++ [0, 0, 0, 0]) = vB 18446744073709551616 l := by
  rw [vB_append, show vB 18446744073709551616 [0, 0, 0, 0] = 0 from rfl, Nat.mul_zero, Nat.add_zero]
theorem n8t {q : Nat} (h : q < 2 ^ 256) : vB 18446744073709551616 (List.take 4 (nB 18446744073709551616 8 q)) = q := by
  rw [vB_take (nB_ok (by decide) 8 q), vB_nB, Nat.mod_eq_of_lt (show q < 18446744073709551616 ^ 8 from Nat.lt_trans h (by decide)), Nat.mod_eq_of_lt (show q < 18446744073709551616 ^ 4 from h)]
theorem n8v {p : Nat} (h : p < 2 ^ 256 * 2 ^ 256) : vB 18446744073709551616 (nB 18446744073709551616 8 p) = p := by
  rw [vB_nB, Nat.mod_eq_of_lt (by rw [show 18446744073709551616 ^ 8 = 2 ^ 256 * 2 ^ 256 from by decide]; exact h)]
theorem wv_one {m : List Int} (hm : isN m) : eqB m [1, 0, 0, 0] = decide (vB 18446744073709551616 m = 1) := by
  by_cases h : m = [1, 0, 0, 0]
  · subst h
    rw [eqB_iff.2 rfl]
    rfl
  · rw [eqB_not.2 h]
    symm
    apply decide_eq_false
    intro h1
    have := num_nB hm
    unfold wv at this
    rw [h1] at this
    exact h this.symm
theorem isN_n4 (v : Nat) : isN (nB 18446744073709551616 4 v) := ⟨nB_okw 4 v, nB_length _ _ _⟩
theorem okw_app {a b : List Int} (ha : okw a) (hb : okw b) : okw (a ++ b) := by
  intro x hx
  rcases List.mem_append.1 hx with h | h
  · exact ha x h
  · exact hb x h
theorem okw_zero : okw [0, 0, 0, 0] := by
  intro x hx
  simp at hx
  omega
theorem eq0_n4 {v : Nat} (h : v < 2 ^ 256) : eqB (nB 18446744073709551616 4 v) [0, 0, 0, 0] = decide (v = 0) := by
  rw [wv_zero (isN_n4 v).1 (isN_n4 v).2, show wv (nB 18446744073709551616 4 v) = v from n4v h]
theorem eq1_n4 {v : Nat} (h : v < 2 ^ 256) : eqB (nB 18446744073709551616 4 v) [1, 0, 0, 0] = decide (v = 1) := by
  rw [wv_one (isN_n4 v), n4v h]

set_option maxRecDepth 100000 in
theorem m32 : Meets Try.prog 32 sp32 := by
  refine meets_of_owed (C := c32) ⟨tab_ok, lkS_ok ⟨m18, m19, m22, m50, m51, m52, m53, trivial⟩⟩ (by kernel_rfl) (by kernel_rfl : Try.prog.funcs[32]? = some Try.f32) (by kernel_rfl) (by kernel_rfl) (by kernel_rfl) _ ?_
  rintro _ ⟨l, m, rfl, hl, hm⟩
  refine ⟨fun _ => rfl, inv32 l m, ?_⟩
  show owed c32 (inv32 l m) Try.f32 [num4 l, num4 m] (.tup [n4 (ivX (wv l) (wv m)), i64n (ivE (wv l) (wv m))])
  rw [vc32]
  have hA := wv_lt hl.1 hl.2
  have hM := wv_lt hm.1 hm.2
  have mm := num_nB hm
  unfold wv at hA hM mm ⊢
  rw [wv_one hm]
  simp (decide := true) only [addz, mm, nn4, eq_self, true_and, and_true, ne_eq, not_false_eq_true]
  have z4 : nB 18446744073709551616 4 0 = [0, 0, 0, 0] := rfl
  have hlz : okw (l ++ [0, 0, 0, 0]) ∧ (l ++ [0, 0, 0, 0]).length = 8 := ⟨okw_app hl.1 okw_zero, by rw [List.length_append, hl.2]; rfl⟩
  refine ⟨⟨l, _, rfl, hl.2, rfl⟩, ⟨_, m, rfl, hlz, hm⟩, ?_⟩
  by_cases h0 : vB 18446744073709551616 m = 0
  · rw [show dve (vB 18446744073709551616 m) = 1 from if_pos h0, show ivX (vB 18446744073709551616 l) (vB 18446744073709551616 m) = 0 from if_pos (by omega), show ivE (vB 18446744073709551616 l) (vB 18446744073709551616 m) = 1 from if_pos h0]
    rfl
  · rw [show dve (vB 18446744073709551616 m) = 0 from if_neg h0]
    show match decide (vB 18446744073709551616 m = 1) with | true => _ | false => _
    by_cases h1 : vB 18446744073709551616 m = 1
    · rw [decide_eq_true h1, show ivX (vB 18446744073709551616 l) (vB 18446744073709551616 m) = 0 from if_pos (by omega)]
      have e2 : ivE (vB 18446744073709551616 l) (vB 18446744073709551616 m) = 0 := by
        unfold ivE
        rw [if_neg h0, if_pos h1]
      rw [e2]
      rfl
    · rw [decide_eq_false h1]
      show _ ∧ _
      have hM1 : 1 < vB 18446744073709551616 m := by omega
      have hAM : vB 18446744073709551616 l % vB 18446744073709551616 m < 2 ^ 256 := Nat.lt_trans (Nat.mod_lt _ (by omega)) hM
      rw [show dvr (vB 18446744073709551616 l) (vB 18446744073709551616 m) = vB 18446744073709551616 l % vB 18446744073709551616 m from if_neg h0, n4v hAM]
      refine ⟨⟨?_, inv_start hM1 hM⟩, ?_⟩
      · and_intros <;> first | rfl | trivial
      rintro ⟨r0, r1, s0, s1⟩ hI
      simp only at hI ⊢
      have hb := hI.r
      have hs := hI.s
      have b0 : r0 < 2 ^ 256 := by omega
      have b1 : r1 < 2 ^ 256 := by omega
      have b2 : s0 < 2 ^ 256 := by omega
      have b3 : s1 < 2 ^ 256 := by omega
      rw [eq0_n4 b1]
      split
      · rename_i h2
        have h2 : r1 ≠ 0 := by simpa using h2
        have bq : r0 / r1 < 2 ^ 256 := Nat.lt_of_le_of_lt (Nat.div_le_self _ _) b0
        have bp : r0 / r1 * s1 < 2 ^ 256 * 2 ^ 256 := Nat.mul_lt_mul'' bq b3
        have bo : r0 / r1 * s1 % vB 18446744073709551616 m < vB 18446744073709551616 m := Nat.mod_lt _ (by omega)
        have br : r0 % r1 < 2 ^ 256 := Nat.lt_trans (Nat.mod_lt _ (by omega)) b1
        have dq : dvq r0 r1 = r0 / r1 := rfl
        have dr : dvr r0 r1 = r0 % r1 := if_neg h2
        have dM : dvr (r0 / r1 * s1) (vB 18446744073709551616 m) = r0 / r1 * s1 % vB 18446744073709551616 m := if_neg h0
        have bo2 : r0 / r1 * s1 % vB 18446744073709551616 m < 2 ^ 256 := by omega
        simp only [n4v b0, n4v b1, n4v b2, n4v b3, dq, dr, n8t bq, n8v bp, dM, n4v bo2, n4v br]
        have hS := inv_step hI h2
        unfold sNew at hS
        generalize hO : r0 / r1 * s1 % vB 18446744073709551616 m = o at *
        have q1 : okw (nB 18446744073709551616 4 r0 ++ [0, 0, 0, 0]) ∧ (nB 18446744073709551616 4 r0 ++ [0, 0, 0, 0]).length = 8 := ⟨okw_app (isN_n4 _).1 okw_zero, by rw [List.length_append, nB_length]; rfl⟩
        have q2 : isN (List.take 4 (nB 18446744073709551616 8 (r0 / r1))) := ⟨fun x hx => nB_okw 8 _ x (List.mem_of_mem_take hx), by rw [List.length_take, nB_length]; rfl⟩
        refine ⟨⟨_, _, rfl, (isN_n4 _).2, rfl⟩, ⟨_, _, rfl, q1, isN_n4 _⟩, ⟨_, rfl, nB_length _ _ _⟩, ⟨_, _, rfl, q2, isN_n4 _⟩, ⟨_, m, rfl, ⟨nB_okw 8 _, nB_length _ _ _⟩, hm⟩, ⟨_, _, rfl, isN_n4 _, isN_n4 _⟩, ?_⟩
        have hrr : r0 % r1 < r1 := Nat.mod_lt _ (by omega)
        by_cases ho : o ≤ s0
        · rw [if_pos ho] at hS
          rw [show bor s0 o = 0 from if_neg (by omega), show dif s0 o = s0 - o by unfold dif; omega, n4v (v := s0 - o) (by omega)]
          exact ⟨hS, hrr⟩
        · rw [if_neg ho] at hS
          have ed : dif s0 o = s0 + 2 ^ 256 - o := by unfold dif; omega
          rw [show bor s0 o = 1 from if_pos (by omega), ed, n4v (v := s0 + 2 ^ 256 - o) (by omega),
            show smN (s0 + 2 ^ 256 - o) (vB 18446744073709551616 m) = s0 + vB 18446744073709551616 m - o by unfold smN; omega, n4v (v := s0 + vB 18446744073709551616 m - o) (by omega)]
          exact ⟨⟨_, m, rfl, isN_n4 _, hm⟩, hS, hrr⟩
      · rename_i h2
        have h2 : r1 = 0 := by simpa using h2
        subst h2
        obtain ⟨f1, f2⟩ := inv_iv hI
        rw [eq1_n4 b0]
        by_cases h3 : r0 = 1
        · obtain ⟨g1, g2⟩ := f1 h3
          rw [decide_eq_true h3, ← g1, g2]
          rfl
        · obtain ⟨g1, g2⟩ := f2 h3
          rw [decide_eq_false h3, g1, g2]
          rfl

end Go.Proofs.Ytfbfblhlnhnonaa
/- The law QuotInverts. -/
namespace Go.Proofs.Ytfbfblhlnhnonaa
open Go Go.Vg

noncomputable def c5 : Ctx := ⟨tab, lkS [(14, sp14), (16, sp16), (24, sp24), (32, sp32), (33, sp33), (34, sp34)], [], []⟩
--KEEP Nat.gcd Go.Vg.eqB Go.Vg.vB Go.Vg.nB Go.Vg.okd Go.Vg.okw Go.Vg.dg Go.Vg.dig Go.Vg.trimL okb lenOk lenS len1 sbd sbb dif bor cmpN shf i64ok subL dvq dvr dve sbD adl adc mulL mulH stL stH smN smC addL addK TimI TimJ isN invN ivX ivE InvI
set_option maxRecDepth 100000 in
theorem vc5  (l m : List Int) (F : D)  :
    (owed c5 (fun _ => none) Try.f5 [num4 l, num4 m] F) = (
 (True ∧ false = false) ∧
   (True ∧ false = false) ∧
    True ∧
     ((4 : Nat) ≠ (0 : Nat) ∧ (4 : Nat) = (4 : Nat) ∧ true = true) ∧
      ((4 : Nat) ≠ (0 : Nat) ∧ (4 : Nat) = (4 : Nat) ∧ true = true) ∧
       (∃ (l_1 : List Int), ∃ (m_1 : List Int), [D.arr IntKind.u64 (4 : Nat) l, D.arr IntKind.u64 (4 : Nat) m] = [D.arr IntKind.u64 (4 : Nat) l_1, D.arr IntKind.u64 (4 : Nat) m_1] ∧ isN l_1 ∧ isN m_1) ∧
        True ∧
         ((0 : Nat) < (2 : Nat) ∧ false = false) ∧
          ((1 : Nat) < (2 : Nat) ∧ false = false) ∧
           (True ∧ (4 : Nat) ≠ (0 : Nat)) ∧
            (Sk.arr (4 : Nat) = Sk.arr (4 : Nat) ∧ (4 : Nat) ≠ (0 : Nat) ∧ (4 : Nat) = (4 : Nat) ∧ false = false) ∧
             True ∧
              ((4 : Nat) ≠ (0 : Nat) ∧ (4 : Nat) = (4 : Nat) ∧ true = true) ∧
               (∃ (l : List Int), [D.arr IntKind.u64 (4 : Nat) m] = [D.arr IntKind.u64 (4 : Nat) l] ∧ okw l ∧ l.length = (4 : Nat)) ∧
                True ∧
                 True ∧
                  True ∧
                   True ∧
                    True ∧
                     match (↑(dg (vB (18446744073709551616 : Nat) m)).length : Int) == (0 : Int) with
                     | true =>
                      ((4 : Nat) ≠ (0 : Nat) ∧ (4 : Nat) = (4 : Nat) ∧ true = true) ∧
                       ((4 : Nat) ≠ (0 : Nat) ∧ (4 : Nat) = (4 : Nat) ∧ true = true) ∧
                        (IntKind.u64 = IntKind.u64 ∧ IntKind.u64 = IntKind.u64 ∧ (4 : Nat) = (4 : Nat) ∧ (4 : Nat) = (4 : Nat) ∧ (1 : Nat) = (1 : Nat)) ∧
                         True ∧
                          match eqB (nB (18446744073709551616 : Nat) (4 : Nat) (ivX (vB (18446744073709551616 : Nat) l) (vB (18446744073709551616 : Nat) m))) m with
                          | true => True ∧ True ∧ True ∧ True ∧ (false = false ∧ True) ∧ D.val (Value.bool ((↑(ivE (vB (18446744073709551616 : Nat) l) (vB (18446744073709551616 : Nat) m)) : Int) == (1 : Int))) = F
                          | false => True ∧ True ∧ (false = false ∧ True) ∧ D.val (Value.bool false) = F
                     | false =>
                      ((4 : Nat) ≠ (0 : Nat) ∧ (4 : Nat) = (4 : Nat) ∧ true = true) ∧
                       (∃ (l_1 : List Int), [D.arr IntKind.u64 (4 : Nat) l] = [D.arr IntKind.u64 (4 : Nat) l_1] ∧ okw l_1 ∧ l_1.length = (4 : Nat)) ∧
                        True ∧
                         (∃ (x : Nat), ∃ (y : Nat), [D.ints IntKind.i64 (dg (vB (18446744073709551616 : Nat) l)), D.ints IntKind.i64 (dg (vB (18446744073709551616 : Nat) m))] = [D.ints IntKind.i64 (dg x), D.ints IntKind.i64 (dg y)] ∧ len1 (dg x) ∧ len1 (dg y)) ∧
                          ((1 : Nat) = (1 : Nat) ∧ (1 : Nat) ≤ (4096 : Nat)) ∧
                           (∃ (l_1 : List Int), ∃ (m_1 : List Int), [D.ints IntKind.i64 (dg ((vB (65536 : Nat) (dg (vB (18446744073709551616 : Nat) l))).gcd (vB (65536 : Nat) (dg (vB (18446744073709551616 : Nat) m))))), D.ints IntKind.i64 [(1 : Int)]] = [D.ints IntKind.i64 l_1, D.ints IntKind.i64 m_1] ∧ (okd l_1 ∧ lenS l_1) ∧ okd m_1 ∧ lenS m_1) ∧
                            True ∧
                             True ∧
                              match cmpN (vB (65536 : Nat) (dg ((vB (65536 : Nat) (dg (vB (18446744073709551616 : Nat) l))).gcd (vB (65536 : Nat) (dg (vB (18446744073709551616 : Nat) m)))))) (vB (65536 : Nat) [(1 : Int)]) != (0 : Int) with
                              | true =>
                               ((4 : Nat) ≠ (0 : Nat) ∧ (4 : Nat) = (4 : Nat) ∧ true = true) ∧
                                ((1 : Nat) = (1 : Nat) ∧ True) ∧
                                 (IntKind.u64 = IntKind.u64 ∧ IntKind.u64 = IntKind.u64 ∧ (4 : Nat) = (4 : Nat) ∧ (4 : Nat) = (4 : Nat) ∧ (1 : Nat) = (1 : Nat)) ∧
                                  True ∧
                                   match eqB (nB (18446744073709551616 : Nat) (4 : Nat) (ivX (vB (18446744073709551616 : Nat) l) (vB (18446744073709551616 : Nat) m))) [(0 : Int), (0 : Int), (0 : Int), (0 : Int)] with
                                   | true => True ∧ True ∧ True ∧ True ∧ (false = false ∧ True) ∧ D.val (Value.bool ((↑(ivE (vB (18446744073709551616 : Nat) l) (vB (18446744073709551616 : Nat) m)) : Int) == (6 : Int))) = F
                                   | false => True ∧ True ∧ (false = false ∧ True) ∧ D.val (Value.bool false) = F
                              | false =>
                               ((4 : Nat) ≠ (0 : Nat) ∧ (4 : Nat) = (4 : Nat) ∧ true = true) ∧
                                (∃ (l_1 : List Int), [D.arr IntKind.u64 (4 : Nat) (nB (18446744073709551616 : Nat) (4 : Nat) (ivX (vB (18446744073709551616 : Nat) l) (vB (18446744073709551616 : Nat) m)))] = [D.arr IntKind.u64 (4 : Nat) l_1] ∧ okw l_1 ∧ l_1.length = (4 : Nat)) ∧
                                 True ∧
                                  True ∧
                                   True ∧
                                    True ∧
                                     match (↑(ivE (vB (18446744073709551616 : Nat) l) (vB (18446744073709551616 : Nat) m)) : Int) == (0 : Int) with
                                     | true =>
                                      True ∧
                                       True ∧
                                        (∃ (l_1 : List Int),
                                          ∃ (m_1 : List Int),
                                           [D.ints IntKind.i64 (dg (vB (18446744073709551616 : Nat) (nB (18446744073709551616 : Nat) (4 : Nat) (ivX (vB (18446744073709551616 : Nat) l) (vB (18446744073709551616 : Nat) m))))), D.ints IntKind.i64 (dg (vB (18446744073709551616 : Nat) m))] = [D.ints IntKind.i64 l_1, D.ints IntKind.i64 m_1] ∧
                                            (okd l_1 ∧ lenS l_1) ∧ okd m_1 ∧ lenS m_1) ∧
                                         True ∧
                                          True ∧
                                           True ∧
                                            match decide (cmpN (vB (65536 : Nat) (dg (vB (18446744073709551616 : Nat) (nB (18446744073709551616 : Nat) (4 : Nat) (ivX (vB (18446744073709551616 : Nat) l) (vB (18446744073709551616 : Nat) m)))))) (vB (65536 : Nat) (dg (vB (18446744073709551616 : Nat) m))) < (0 : Int)) with
                                            | true =>
                                             ((4 : Nat) ≠ (0 : Nat) ∧ (4 : Nat) = (4 : Nat) ∧ true = true) ∧
                                              (∃ (l_1 : List Int), [D.arr IntKind.u64 (4 : Nat) l] = [D.arr IntKind.u64 (4 : Nat) l_1] ∧ okw l_1 ∧ l_1.length = (4 : Nat)) ∧
                                               True ∧
                                                (∃ (l_1 : List Int),
                                                  ∃ (m_1 : List Int),
                                                   [D.ints IntKind.i64 (dg (vB (18446744073709551616 : Nat) l)), D.ints IntKind.i64 (dg (vB (18446744073709551616 : Nat) (nB (18446744073709551616 : Nat) (4 : Nat) (ivX (vB (18446744073709551616 : Nat) l) (vB (18446744073709551616 : Nat) m)))))] = [D.ints IntKind.i64 l_1, D.ints IntKind.i64 m_1] ∧
                                                    (okd l_1 ∧ lenS l_1) ∧ okd m_1 ∧ lenS m_1) ∧
                                                 True ∧
                                                  (∃ (l_1 : List Int),
                                                    ∃ (m_1 : List Int),
                                                     [D.ints IntKind.i64 (dg (vB (65536 : Nat) (dg (vB (18446744073709551616 : Nat) l)) * vB (65536 : Nat) (dg (vB (18446744073709551616 : Nat) (nB (18446744073709551616 : Nat) (4 : Nat) (ivX (vB (18446744073709551616 : Nat) l) (vB (18446744073709551616 : Nat) m))))))),
                                                        D.ints IntKind.i64 (dg (vB (18446744073709551616 : Nat) m))] =
                                                       [D.ints IntKind.i64 l_1, D.ints IntKind.i64 m_1] ∧
                                                      (okd l_1 ∧ len1 l_1) ∧ (okd m_1 ∧ len1 m_1) ∧ vB (65536 : Nat) m_1 ≠ (0 : Nat)) ∧
                                                   ((1 : Nat) = (1 : Nat) ∧ (1 : Nat) ≤ (4096 : Nat)) ∧
                                                    True ∧
                                                     (∃ (l : List Int), ∃ (m_1 : List Int), [D.ints IntKind.i64 [(1 : Int)], D.ints IntKind.i64 (dg (vB (18446744073709551616 : Nat) m))] = [D.ints IntKind.i64 l, D.ints IntKind.i64 m_1] ∧ (okd l ∧ len1 l) ∧ (okd m_1 ∧ len1 m_1) ∧ vB (65536 : Nat) m_1 ≠ (0 : Nat)) ∧
                                                      (∃ (l_1 : List Int),
                                                        ∃ (m_1 : List Int),
                                                         [D.ints IntKind.i64
                                                             (dg
                                                              (vB (65536 : Nat) (dg (vB (65536 : Nat) (dg (vB (18446744073709551616 : Nat) l)) * vB (65536 : Nat) (dg (vB (18446744073709551616 : Nat) (nB (18446744073709551616 : Nat) (4 : Nat) (ivX (vB (18446744073709551616 : Nat) l) (vB (18446744073709551616 : Nat) m))))))) %
                                                               vB (65536 : Nat) (dg (vB (18446744073709551616 : Nat) m)))),
                                                            D.ints IntKind.i64 (dg (vB (65536 : Nat) [(1 : Int)] % vB (65536 : Nat) (dg (vB (18446744073709551616 : Nat) m))))] =
                                                           [D.ints IntKind.i64 l_1, D.ints IntKind.i64 m_1] ∧
                                                          (okd l_1 ∧ lenS l_1) ∧ okd m_1 ∧ lenS m_1) ∧
                                                       True ∧
                                                        True ∧
                                                         True ∧
                                                          (false = false ∧ True) ∧
                                                           D.val
                                                             (Value.bool
                                                              (cmpN
                                                                (vB (65536 : Nat)
                                                                 (dg
                                                                  (vB (65536 : Nat) (dg (vB (65536 : Nat) (dg (vB (18446744073709551616 : Nat) l)) * vB (65536 : Nat) (dg (vB (18446744073709551616 : Nat) (nB (18446744073709551616 : Nat) (4 : Nat) (ivX (vB (18446744073709551616 : Nat) l) (vB (18446744073709551616 : Nat) m))))))) %
                                                                   vB (65536 : Nat) (dg (vB (18446744073709551616 : Nat) m)))))
                                                                (vB (65536 : Nat) (dg (vB (65536 : Nat) [(1 : Int)] % vB (65536 : Nat) (dg (vB (18446744073709551616 : Nat) m))))) ==
                                                               (0 : Int))) =
                                                            F
                                            | false => True ∧ True ∧ (false = false ∧ True) ∧ D.val (Value.bool false) = F
                                     | false => True ∧ True ∧ True ∧ True ∧ (false = false ∧ True) ∧ D.val (Value.bool false) = F) := by kernel_rfl

theorem len_b {n k : Nat} (h : n < 65536 ^ k) (hk : k ≤ 1000) : len1 (dg n) ∧ lenOk (dg n) ∧ lenS (dg n) := by
  have := dg_len k n h
  exact ⟨by unfold len1; omega, by unfold lenOk; omega, by unfold lenS; omega⟩
theorem okAll2 {t : Tab} {n : Nat} {a b : TypeId} : ∀ {ds : List D}, OkAll t n [a, b] ds → ∃ d e, ds = [d, e] ∧ OkT t n a d ∧ OkT t n b e
  | [], h => by cases h
  | [_], h => by cases h.2
  | [d, e], h => ⟨d, e, rfl, h.1, h.2.1⟩
  | _ :: _ :: _ :: _, h => by cases h.2.2
theorem one_ok : okd [1] ∧ lenS [1] ∧ len1 [1] := ⟨fun x hx => by rw [List.mem_singleton.1 hx]; omega, by unfold lenS; decide, by unfold len1; decide⟩
theorem len_zero {n : Nat} : (((dg n).length : Nat) : Int) == 0 ↔ n = 0 := by
  constructor
  · intro h
    have h : (dg n).length = 0 := by have := eq_of_beq h; omega
    exact dg_nil (List.length_eq_zero_iff.1 h)
  · rintro rfl
    rfl

set_option maxRecDepth 100000 in
theorem m5 : Meets Try.prog 5 (lawSpec tab Try.f5.params.toList) := by
  refine meets_of_owed (C := c5) ⟨tab_ok, lkS_ok ⟨m14, m16, m24, m32, m33, m34, trivial⟩⟩ (by kernel_rfl) (by kernel_rfl : Try.prog.funcs[5]? = some Try.f5) (by kernel_rfl) (by kernel_rfl) (by kernel_rfl) _ ?_
  intro ds hds
  obtain ⟨l, m, rfl, hl, hm⟩ : ∃ l m, ds = [num4 l, num4 m] ∧ isN l ∧ isN m := by
    have hds : OkAll tab 8 [24, 24] ds := hds
    obtain ⟨d, e, rfl, h1, h2⟩ := okAll2 hds
    obtain ⟨l, rfl, h3, h4⟩ := num_of h1
    obtain ⟨m, rfl, h5, h6⟩ := num_of h2
    exact ⟨l, m, rfl, ⟨h3, h4⟩, h5, h6⟩
  refine ⟨fun _ => rfl, fun _ => none, ?_⟩
  show owed c5 (fun _ => none) Try.f5 [num4 l, num4 m] (.val (.bool true))
  rw [vc5]
  have hA := wv_lt hl.1 hl.2
  have hM := wv_lt hm.1 hm.2
  have mm := num_nB hm
  unfold wv at hA hM mm
  have o1 : vB 65536 [1] = 1 := rfl
  simp (decide := true) only [vl_dg, o1, eq_self, true_and, and_true, ne_eq, not_false_eq_true]
  generalize hVA : vB 18446744073709551616 l = A at *
  generalize hVM : vB 18446744073709551616 m = M at *
  refine ⟨⟨l, m, rfl, hl, hm⟩, ⟨m, rfl, hm⟩, ?_⟩
  have lA := len_b (n := A) (k := 16) (by rw [show 65536 ^ 16 = 2 ^ 256 from by decide]; exact hA) (by decide)
  have lM := len_b (n := M) (k := 16) (by rw [show 65536 ^ 16 = 2 ^ 256 from by decide]; exact hM) (by decide)
  split
  · rename_i h0
    have h0 : M = 0 := len_zero.1 h0
    have e1 : ivX A M = 0 := if_pos (by omega)
    have e2 : ivE A M = 1 := if_pos h0
    have e3 : nB 18446744073709551616 4 0 = m := by rw [← h0]; exact mm
    rw [e1, e2, e3, eqB_iff.2 rfl]
    rfl
  · rename_i h0
    have h0 : M ≠ 0 := by
      intro h1
      rw [len_zero.2 h1] at h0
      cases h0
    have hgle : Nat.gcd A M ≤ M := Nat.gcd_le_right _ (by omega)
    have hg0 : 0 < Nat.gcd A M := Nat.gcd_pos_of_pos_right _ (by omega)
    have lG := len_b (n := Nat.gcd A M) (k := 16) (by rw [show 65536 ^ 16 = 2 ^ 256 from by decide]; omega) (by decide)
    refine ⟨⟨l, rfl, hl⟩, ⟨A, M, rfl, lA.1, lM.1⟩, ⟨_, _, rfl, ⟨dg_ok _, lG.2.2⟩, one_ok.1, one_ok.2.1⟩, ?_⟩
    by_cases hg : Nat.gcd A M = 1
    · obtain ⟨i1, i2, i3⟩ := iv_one (A := A) (M := M) (by omega) hM hg
      rw [hg, show (cmpN 1 1 != 0) = false from rfl, i3, show (((0 : Nat) : Int) == 0) = true from rfl, n4v (v := ivX A M) (by omega)]
      have e4 : decide (cmpN (ivX A M) M < 0) = true := by
        unfold cmpN
        rw [if_pos i1]
        rfl
      rw [e4]
      have lX := len_b (n := ivX A M) (k := 16) (by rw [show 65536 ^ 16 = 2 ^ 256 from by decide]; omega) (by decide)
      have lP := len_b (n := A * ivX A M) (k := 32) (by rw [show 65536 ^ 32 = 2 ^ 256 * 2 ^ 256 from by decide]; exact Nat.mul_lt_mul'' hA (by omega)) (by decide)
      have lR := len_b (n := A * ivX A M % M) (k := 16) (by rw [show 65536 ^ 16 = 2 ^ 256 from by decide]; exact Nat.lt_trans (Nat.mod_lt _ (by omega)) hM) (by decide)
      have l1 := len_b (n := 1 % M) (k := 16) (by rw [show 65536 ^ 16 = 2 ^ 256 from by decide]; exact Nat.lt_trans (Nat.mod_lt _ (by omega)) hM) (by decide)
      have e5 : (cmpN (A * ivX A M % M) (1 % M) == 0) = true := by
        rw [i2]
        unfold cmpN
        rw [if_neg (by omega), if_neg (by omega)]
        rfl
      rw [e5]
      refine ⟨⟨_, rfl, isN_n4 _⟩, ⟨_, _, rfl, ⟨dg_ok _, lX.2.2⟩, dg_ok _, lM.2.2⟩, ⟨l, rfl, hl⟩, ⟨_, _, rfl, ⟨dg_ok _, lA.2.2⟩, dg_ok _, lX.2.2⟩, ⟨_, _, rfl, ⟨dg_ok _, lP.1⟩, ⟨dg_ok _, lM.1⟩, by rw [vl_dg]; exact h0⟩,
        ⟨_, _, rfl, ⟨one_ok.1, one_ok.2.2⟩, ⟨dg_ok _, lM.1⟩, by rw [vl_dg]; exact h0⟩, ⟨_, _, rfl, ⟨dg_ok _, lR.2.2⟩, dg_ok _, l1.2.2⟩, rfl⟩
    · have h1 : M ≠ 1 := by
        rintro rfl
        exact hg (Nat.gcd_one_right A)
      have e1 : ivX A M = 0 := by
        unfold ivX
        rw [if_neg (show ¬ M ≤ 1 by omega), if_neg hg]
      have e2 : ivE A M = 6 := by
        unfold ivE
        rw [if_neg h0, if_neg h1, if_neg hg]
      have e3 : (cmpN (Nat.gcd A M) 1 != 0) = true := by
        unfold cmpN
        rw [if_neg (by omega), if_pos (by omega)]
        rfl
      rw [e3, e1, e2]
      have e4 : eqB (nB 18446744073709551616 4 0) [0, 0, 0, 0] = true := eqB_iff.2 rfl
      rw [e4]
      rfl

end Go.Proofs.Ytfbfblhlnhnonaa
/- The numbers of package limb: Bit, Len and Pick; the document's OfBits: what they owe. -/
namespace Go.Proofs.Ytfbfblhlnhnonaa
open Go Go.Vg

def bl2 (n : Nat) : Nat := if n = 0 then 0 else Nat.log2 n + 1
def bitN (v : Nat) (i : Int) : Nat := if 0 ≤ i ∧ i ≤ 255 then v / 2 ^ i.toNat % 2 else 0
def pkL (c : Nat) (l m : List Int) : List Int := if c % 2 = 1 then m else l
def isBits (l : List Int) : Prop := (∀ x ∈ l, 0 ≤ x ∧ x < 2) ∧ l.length ≤ 256
def sp27 : Go.Vg.Spec := ⟨fun ds => ∃ l i, ds = [num4 l, i64 i] ∧ isN l ∧ i64ok i, fun ds => u64n (bitN (wv (arrOf (ds.headD default))) (numOf (ds.getD 1 default))), true, [24, 3]⟩
def sp28 : Go.Vg.Spec := ⟨fun ds => ∃ l, ds = [num4 l] ∧ isN l, fun ds => i64n (bl2 (wv (arrOf (ds.headD default)))), true, [24]⟩
def sp49 : Go.Vg.Spec := ⟨fun ds => ∃ x, ds = [u64n x] ∧ x < B64, fun ds => i64n (bl2 (nn (ds.headD default))), true, [22]⟩
def sp30 : Go.Vg.Spec := ⟨fun ds => ∃ l, ds = [dgs l] ∧ isBits l, fun ds => dgs (dg (vB 2 (intsOf (ds.headD default)))), false, [38]⟩
def sp31 : Go.Vg.Spec := ⟨fun ds => ∃ c l m, ds = [u64n c, num4 l, num4 m] ∧ c < B64 ∧ isN l ∧ isN m, fun ds => num4 (pkL (nn (ds.headD default)) (arrOf (ds.getD 1 default)) (arrOf (ds.getD 2 default))), true, [22, 24, 24]⟩
def c28 : Ctx := ⟨tab, lkS [(49, sp49)], [], []⟩
def c30 : Ctx := ⟨tab, lkS [(15, sp15)], [], []⟩
def inv28 (l : List Int) : Nat → Option Inv
  | 2 => some ⟨Int, fun i => [(3, .d (i64 i))], fun _ => [], fun s => slotN s 3, fun _ i => (-1 ≤ i ∧ i ≤ 3) ∧ wv (l.drop (i + 1).toNat) = 0, fun i => (i + 1).toNat⟩
  | _ => none
def inv30 (l : List Int) : Nat → Option Inv
  | 3 => some ⟨Int, fun i => [(4, .d (i64 i)), (3, .d (dgs (dg (vB 2 (l.drop (i + 1).toNat)))))], fun _ => [], fun s => slotN s 4, fun _ i => -1 ≤ i ∧ i < l.length, fun i => (i + 1).toNat⟩
  | _ => none
def pkI (c : Nat) (l m : List Int) (i : Nat) : List Int := if c % 2 = 1 then m.take i ++ l.drop i else l
def inv31 (c : Nat) (l m : List Int) : Nat → Option Inv
  | 3 => some ⟨Nat, fun i => [(12, .d (i64 i))], fun i => [(4, .fix (num4 (pkI c l m i)))], fun s => (slotN s 12).toNat, fun _ i => i ≤ 4, fun i => 4 - i⟩
  | _ => none
--KEEP Nat.gcd Go.Vg.eqB Go.Vg.vB Go.Vg.nB Go.Vg.okd Go.Vg.okw Go.Vg.dg Go.Vg.dig Go.Vg.trimL okb lenOk lenS len1 sbd sbb dif bor cmpN shf i64ok subL dvq dvr dve sbD adl adc mulL mulH stL stH smN smC addL addK TimI TimJ isN invN ivX ivE InvI bl2 bitN pkL pkI isBits
set_option maxRecDepth 100000 in
theorem vc27  (l : List Int) (i : Int) (F : D)  :
    (owed c40 (fun _ => none) Try.f27 [num4 l, i64 i] F) = (
 (True ∧ false = false) ∧
   True ∧
    True ∧
     True ∧
      True ∧
       match decide (i < (0 : Int)) with
       | true => True ∧ True ∧ (false = false ∧ True) ∧ D.val (Value.int IntKind.u64 (0 : Int)) = F
       | false =>
        True ∧
         True ∧
          True ∧
           match decide (i > (255 : Int)) with
           | true => True ∧ (false = false ∧ True) ∧ D.val (Value.int IntKind.u64 (0 : Int)) = F
           | false =>
            True ∧
             (64 : Int) ≠ (0 : Int) ∧
              ((0 : Int) ≤ IntKind.i64.wrap (i.tdiv (64 : Int)) ∧ IntKind.i64.wrap (i.tdiv (64 : Int)) < (↑(4 : Nat) : Int) ∧ (4 : Nat) = (4 : Nat) ∧ (1 : Nat) = (1 : Nat)) ∧
               ((1 : Nat) ≠ (0 : Nat) ∧ (1 : Nat) = (1 : Nat) ∧ false = false) ∧
                True ∧ (64 : Int) ≠ (0 : Int) ∧ True ∧ (0 : Int) ≤ IntKind.u64.wrap (i.tmod (64 : Int)) ∧ True ∧ True ∧ (false = false ∧ True) ∧ D.val (Value.int IntKind.u64 (iand IntKind.u64 (ishr IntKind.u64 (l.getD (IntKind.i64.wrap (i.tdiv (64 : Int))).toNat (0 : Int)) (IntKind.u64.wrap (i.tmod (64 : Int)))) (1 : Int))) = F) := by kernel_rfl
set_option maxRecDepth 100000 in
theorem vc28  (l : List Int) (F : D)  :
    (owed c28 (inv28 l) Try.f28 [num4 l] F) = (
 (True ∧ false = false) ∧
   True ∧
    True ∧
     (((AV.d (D.val (Value.int IntKind.i64 (3 : Int))) = AV.d (D.val (Value.int IntKind.i64 (3 : Int))) ∧ True) ∧ (some (Blk.fix (D.arr IntKind.u64 (4 : Nat) l)) = some (Blk.fix (D.arr IntKind.u64 (4 : Nat) l)) ∧ True) ∧ true = true) ∧ ((-1 : Int) ≤ (3 : Int) ∧ (3 : Int) ≤ (3 : Int)) ∧ vB (18446744073709551616 : Nat) (List.drop ((3 : Int) + (1 : Int)).toNat l) = (0 : Nat)) ∧
      ∀ (x : Int),
       ((-1 : Int) ≤ x ∧ x ≤ (3 : Int)) ∧ vB (18446744073709551616 : Nat) (List.drop (x + (1 : Int)).toNat l) = (0 : Nat) →
        true = true ∧
         True ∧
          True ∧
           match decide (x ≥ (0 : Int)) with
           | true =>
            True ∧
             ((0 : Int) ≤ x ∧ x < (↑(4 : Nat) : Int) ∧ (4 : Nat) = (4 : Nat) ∧ (1 : Nat) = (1 : Nat)) ∧
              ((1 : Nat) ≠ (0 : Nat) ∧ (1 : Nat) = (1 : Nat) ∧ false = false) ∧
               True ∧
                match l.getD x.toNat (0 : Int) != (0 : Int) with
                | true =>
                 True ∧
                  True ∧
                   True ∧
                    ((0 : Int) ≤ x ∧ x < (↑(4 : Nat) : Int) ∧ (4 : Nat) = (4 : Nat) ∧ (1 : Nat) = (1 : Nat)) ∧
                     ((1 : Nat) ≠ (0 : Nat) ∧ (1 : Nat) = (1 : Nat) ∧ false = false) ∧
                      (∃ (x_1 : Nat), [D.val (Value.int IntKind.u64 (l.getD x.toNat (0 : Int)))] = [D.val (Value.int IntKind.u64 (↑x_1 : Int))] ∧ x_1 < (18446744073709551616 : Nat)) ∧ True ∧ True ∧ (false = false ∧ True) ∧ D.val (Value.int IntKind.i64 (IntKind.i64.wrap (IntKind.i64.wrap ((64 : Int) * x) + (↑(bl2 (l.getD x.toNat (0 : Int)).toNat) : Int)))) = F
                | false =>
                 True ∧
                  True ∧
                   True ∧
                    ((AV.d (D.val (Value.int IntKind.i64 (IntKind.i64.wrap (x - (1 : Int))))) = AV.d (D.val (Value.int IntKind.i64 (IntKind.i64.wrap (x - (1 : Int))))) ∧ True) ∧ (some (Blk.fix (D.arr IntKind.u64 (4 : Nat) l)) = some (Blk.fix (D.arr IntKind.u64 (4 : Nat) l)) ∧ True) ∧ true = true) ∧
                     (((-1 : Int) ≤ IntKind.i64.wrap (x - (1 : Int)) ∧ IntKind.i64.wrap (x - (1 : Int)) ≤ (3 : Int)) ∧ vB (18446744073709551616 : Nat) (List.drop (IntKind.i64.wrap (x - (1 : Int)) + (1 : Int)).toNat l) = (0 : Nat)) ∧ (IntKind.i64.wrap (x - (1 : Int)) + (1 : Int)).toNat < (x + (1 : Int)).toNat
           | false => True ∧ (false = false ∧ True) ∧ D.val (Value.int IntKind.i64 (0 : Int)) = F) := by kernel_rfl
set_option maxRecDepth 100000 in
theorem vc49  (x : Nat) (F : D)  :
    (owed c40 (fun _ => none) Try.f49 [u64n x] F) = (
 True ∧
   True ∧
    True ∧
     match decide ((↑x : Int) ≥ (4294967296 : Int)) with
     | true =>
      True ∧
       (0 : Int) ≤ (32 : Int) ∧
        True ∧
         True ∧
          True ∧
           True ∧
            match decide (ishr IntKind.u64 (↑x : Int) (32 : Int) ≥ (65536 : Int)) with
            | true =>
             True ∧
              (0 : Int) ≤ (16 : Int) ∧
               True ∧
                True ∧
                 True ∧
                  True ∧
                   True ∧
                    True ∧
                     match decide (ishr IntKind.u64 (ishr IntKind.u64 (↑x : Int) (32 : Int)) (16 : Int) ≥ (256 : Int)) with
                     | true =>
                      True ∧
                       (0 : Int) ≤ (8 : Int) ∧
                        True ∧
                         True ∧
                          True ∧
                           True ∧
                            True ∧
                             True ∧
                              True ∧
                               ((0 : Int) ≤ IntKind.u8.wrap (ishr IntKind.u64 (ishr IntKind.u64 (ishr IntKind.u64 (↑x : Int) (32 : Int)) (16 : Int)) (8 : Int)) ∧
                                 IntKind.u8.wrap (ishr IntKind.u64 (ishr IntKind.u64 (ishr IntKind.u64 (↑x : Int) (32 : Int)) (16 : Int)) (8 : Int)) <
                                  (↑(ints
                                      {
                                       data :=
                                        {
                                         toList :=
                                          [(0 : UInt8), (1 : UInt8), (2 : UInt8), (2 : UInt8), (3 : UInt8), (3 : UInt8), (3 : UInt8), (3 : UInt8), (4 : UInt8), (4 : UInt8), (4 : UInt8), (4 : UInt8), (4 : UInt8), (4 : UInt8), (4 : UInt8), (4 : UInt8), (5 : UInt8), (5 : UInt8), (5 : UInt8), (5 : UInt8), (5 : UInt8), (5 : UInt8), (5 : UInt8), (5 : UInt8),
                                           (5 : UInt8), (5 : UInt8), (5 : UInt8), (5 : UInt8), (5 : UInt8), (5 : UInt8), (5 : UInt8), (5 : UInt8), (6 : UInt8), (6 : UInt8), (6 : UInt8), (6 : UInt8), (6 : UInt8), (6 : UInt8), (6 : UInt8), (6 : UInt8), (6 : UInt8), (6 : UInt8), (6 : UInt8), (6 : UInt8), (6 : UInt8), (6 : UInt8), (6 : UInt8), (6 : UInt8),
                                           (6 : UInt8), (6 : UInt8), (6 : UInt8), (6 : UInt8), (6 : UInt8), (6 : UInt8), (6 : UInt8), (6 : UInt8), (6 : UInt8), (6 : UInt8), (6 : UInt8), (6 : UInt8), (6 : UInt8), (6 : UInt8), (6 : UInt8), (6 : UInt8), (7 : UInt8), (7 : UInt8), (7 : UInt8), (7 : UInt8), (7 : UInt8), (7 : UInt8), (7 : UInt8), (7 : UInt8),
                                           (7 : UInt8), (7 : UInt8), (7 : UInt8), (7 : UInt8), (7 : UInt8), (7 : UInt8), (7 : UInt8), (7 : UInt8), (7 : UInt8), (7 : UInt8), (7 : UInt8), (7 : UInt8), (7 : UInt8), (7 : UInt8), (7 : UInt8), (7 : UInt8), (7 : UInt8), (7 : UInt8), (7 : UInt8), (7 : UInt8), (7 : UInt8), (7 : UInt8), (7 : UInt8), (7 : UInt8),
                                           (7 : UInt8), (7 : UInt8), (7 : UInt8), (7 : UInt8), (7 : UInt8), (7 : UInt8), (7 : UInt8), (7 : UInt8), (7 : UInt8), (7 : UInt8), (7 : UInt8), (7 : UInt8), (7 : UInt8), (7 : UInt8), (7 : UInt8), (7 : UInt8), (7 : UInt8), (7 : UInt8), (7 : UInt8), (7 : UInt8), (7 : UInt8), (7 : UInt8), (7 : UInt8), (7 : UInt8),
                                           (7 : UInt8), (7 : UInt8), (7 : UInt8), (7 : UInt8), (7 : UInt8), (7 : UInt8), (7 : UInt8), (7 : UInt8), (8 : UInt8), (8 : UInt8), (8 : UInt8), (8 : UInt8), (8 : UInt8), (8 : UInt8), (8 : UInt8), (8 : UInt8), (8 : UInt8), (8 : UInt8), (8 : UInt8), (8 : UInt8), (8 : UInt8), (8 : UInt8), (8 : UInt8), (8 : UInt8),
                                           (8 : UInt8), (8 : UInt8), (8 : UInt8), (8 : UInt8), (8 : UInt8), (8 : UInt8), (8 : UInt8), (8 : UInt8), (8 : UInt8), (8 : UInt8), (8 : UInt8), (8 : UInt8), (8 : UInt8), (8 : UInt8), (8 : UInt8), (8 : UInt8), (8 : UInt8), (8 : UInt8), (8 : UInt8), (8 : UInt8), (8 : UInt8), (8 : UInt8), (8 : UInt8), (8 : UInt8),
                                           (8 : UInt8), (8 : UInt8), (8 : UInt8), (8 : UInt8), (8 : UInt8), (8 : UInt8), (8 : UInt8), (8 : UInt8), (8 : UInt8), (8 : UInt8), (8 : UInt8), (8 : UInt8), (8 : UInt8), (8 : UInt8), (8 : UInt8), (8 : UInt8), (8 : UInt8), (8 : UInt8), (8 : UInt8), (8 : UInt8), (8 : UInt8), (8 : UInt8), (8 : UInt8), (8 : UInt8),
                                           (8 : UInt8), (8 : UInt8), (8 : UInt8), (8 : UInt8), (8 : UInt8), (8 : UInt8), (8 : UInt8), (8 : UInt8), (8 : UInt8), (8 : UInt8), (8 : UInt8), (8 : UInt8), (8 : UInt8), (8 : UInt8), (8 : UInt8), (8 : UInt8), (8 : UInt8), (8 : UInt8), (8 : UInt8), (8 : UInt8), (8 : UInt8), (8 : UInt8), (8 : UInt8), (8 : UInt8),
                                           (8 : UInt8), (8 : UInt8), (8 : UInt8), (8 : UInt8), (8 : UInt8), (8 : UInt8), (8 : UInt8), (8 : UInt8), (8 : UInt8), (8 : UInt8), (8 : UInt8), (8 : UInt8), (8 : UInt8), (8 : UInt8), (8 : UInt8), (8 : UInt8), (8 : UInt8), (8 : UInt8), (8 : UInt8), (8 : UInt8), (8 : UInt8), (8 : UInt8), (8 : UInt8), (8 : UInt8),
                                           (8 : UInt8), (8 : UInt8), (8 : UInt8), (8 : UInt8), (8 : UInt8), (8 : UInt8), (8 : UInt8), (8 : UInt8), (8 : UInt8), (8 : UInt8), (8 : UInt8), (8 : UInt8), (8 : UInt8), (8 : UInt8), (8 : UInt8), (8 : UInt8)] } }).length :
                                   Int)) ∧
                                True ∧
                                 True ∧
                                  True ∧
                                   (false = false ∧ True) ∧
                                    D.val
                                      (Value.int IntKind.i64
                                       (IntKind.i64.wrap
                                        (IntKind.i64.wrap (IntKind.i64.wrap ((32 : Int) + (16 : Int)) + (8 : Int)) +
                                         IntKind.i64.wrap
                                          ((ints
                                             {
                                              data :=
                                               {
                                                toList :=
                                                 [(0 : UInt8), (1 : UInt8), (2 : UInt8), (2 : UInt8), (3 : UInt8), (3 : UInt8), (3 : UInt8), (3 : UInt8), (4 : UInt8), (4 : UInt8), (4 : UInt8), (4 : UInt8), (4 : UInt8), (4 : UInt8), (4 : UInt8), (4 : UInt8), (5 : UInt8), (5 : UInt8), (5 : UInt8), (5 : UInt8), (5 : UInt8), (5 : UInt8), (5 : UInt8),
                                                  (5 : UInt8), (5 : UInt8), (5 : UInt8), (5 : UInt8), (5 : UInt8), (5 : UInt8), (5 : UInt8), (5 : UInt8), (5 : UInt8), (6 : UInt8), (6 : UInt8), (6 : UInt8), (6 : UInt8), (6 : UInt8), (6 : UInt8), (6 : UInt8), (6 : UInt8), (6 : UInt8), (6 : UInt8), (6 : UInt8), (6 : UInt8), (6 : UInt8), (6 : UInt8),
                                                  (6 : UInt8), (6 : UInt8), (6 : UInt8), (6 : UInt8), (6 : UInt8), (6 : UInt8), (6 : UInt8), (6 : UInt8), (6 : UInt8), (6 : UInt8), (6 : UInt8), (6 : UInt8), (6 : UInt8), (6 : UInt8), (6 : UInt8), (6 : UInt8), (6 : UInt8), (6 : UInt8), (7 : UInt8), (7 : UInt8), (7 : UInt8), (7 : UInt8), (7 : UInt8),
                                                  (7 : UInt8), (7 : UInt8), (7 : UInt8), (7 : UInt8), (7 : UInt8), (7 : UInt8), (7 : UInt8), (7 : UInt8), (7 : UInt8), (7 : UInt8), (7 : UInt8), (7 : UInt8), (7 : UInt8), (7 : UInt8), (7 : UInt8), (7 : UInt8), (7 : UInt8), (7 : UInt8), (7 : UInt8), (7 : UInt8), (7 : UInt8), (7 : UInt8), (7 : UInt8),
                                                  (7 : UInt8), (7 : UInt8), (7 : UInt8), (7 : UInt8), (7 : UInt8), (7 : UInt8), (7 : UInt8), (7 : UInt8), (7 : UInt8), (7 : UInt8), (7 : UInt8), (7 : UInt8), (7 : UInt8), (7 : UInt8), (7 : UInt8), (7 : UInt8), (7 : UInt8), (7 : UInt8), (7 : UInt8), (7 : UInt8), (7 : UInt8), (7 : UInt8), (7 : UInt8),
                                                  (7 : UInt8), (7 : UInt8), (7 : UInt8), (7 : UInt8), (7 : UInt8), (7 : UInt8), (7 : UInt8), (7 : UInt8), (7 : UInt8), (7 : UInt8), (7 : UInt8), (7 : UInt8), (7 : UInt8), (8 : UInt8), (8 : UInt8), (8 : UInt8), (8 : UInt8), (8 : UInt8), (8 : UInt8), (8 : UInt8), (8 : UInt8), (8 : UInt8), (8 : UInt8),
                                                  (8 : UInt8), (8 : UInt8), (8 : UInt8), (8 : UInt8), (8 : UInt8), (8 : UInt8), (8 : UInt8), (8 : UInt8), (8 : UInt8), (8 : UInt8), (8 : UInt8), (8 : UInt8), (8 : UInt8), (8 : UInt8), (8 : UInt8), (8 : UInt8), (8 : UInt8), (8 : UInt8), (8 : UInt8), (8 : UInt8), (8 : UInt8), (8 : UInt8), (8 : UInt8),
                                                  (8 : UInt8), (8 : UInt8), (8 : UInt8), (8 : UInt8), (8 : UInt8), (8 : UInt8), (8 : UInt8), (8 : UInt8), (8 : UInt8), (8 : UInt8), (8 : UInt8), (8 : UInt8), (8 : UInt8), (8 : UInt8), (8 : UInt8), (8 : UInt8), (8 : UInt8), (8 : UInt8), (8 : UInt8), (8 : UInt8), (8 : UInt8), (8 : UInt8), (8 : UInt8),
                                                  (8 : UInt8), (8 : UInt8), (8 : UInt8), (8 : UInt8), (8 : UInt8), (8 : UInt8), (8 : UInt8), (8 : UInt8), (8 : UInt8), (8 : UInt8), (8 : UInt8), (8 : UInt8), (8 : UInt8), (8 : UInt8), (8 : UInt8), (8 : UInt8), (8 : UInt8), (8 : UInt8), (8 : UInt8), (8 : UInt8), (8 : UInt8), (8 : UInt8), (8 : UInt8),
                                                  (8 : UInt8), (8 : UInt8), (8 : UInt8), (8 : UInt8), (8 : UInt8), (8 : UInt8), (8 : UInt8), (8 : UInt8), (8 : UInt8), (8 : UInt8), (8 : UInt8), (8 : UInt8), (8 : UInt8), (8 : UInt8), (8 : UInt8), (8 : UInt8), (8 : UInt8), (8 : UInt8), (8 : UInt8), (8 : UInt8), (8 : UInt8), (8 : UInt8), (8 : UInt8),
                                                  (8 : UInt8), (8 : UInt8), (8 : UInt8), (8 : UInt8), (8 : UInt8), (8 : UInt8), (8 : UInt8), (8 : UInt8), (8 : UInt8), (8 : UInt8), (8 : UInt8), (8 : UInt8), (8 : UInt8), (8 : UInt8), (8 : UInt8), (8 : UInt8), (8 : UInt8), (8 : UInt8), (8 : UInt8), (8 : UInt8), (8 : UInt8), (8 : UInt8), (8 : UInt8),
                                                  (8 : UInt8), (8 : UInt8), (8 : UInt8)] } }).getD
                                           (IntKind.u8.wrap (ishr IntKind.u64 (ishr IntKind.u64 (ishr IntKind.u64 (↑x : Int) (32 : Int)) (16 : Int)) (8 : Int))).toNat (0 : Int))))) =
                                     F
                     | false =>
                      True ∧
                       True ∧
                        True ∧
                         ((0 : Int) ≤ IntKind.u8.wrap (ishr IntKind.u64 (ishr IntKind.u64 (↑x : Int) (32 : Int)) (16 : Int)) ∧
                           IntKind.u8.wrap (ishr IntKind.u64 (ishr IntKind.u64 (↑x : Int) (32 : Int)) (16 : Int)) <
                            (↑(ints
                                {
                                 data :=
                                  {
                                   toList :=
                                    [(0 : UInt8), (1 : UInt8), (2 : UInt8), (2 : UInt8), (3 : UInt8), (3 : UInt8), (3 : UInt8), (3 : UInt8), (4 : UInt8), (4 : UInt8), (4 : UInt8), (4 : UInt8), (4 : UInt8), (4 : UInt8), (4 : UInt8), (4 : UInt8), (5 : UInt8), (5 : UInt8), (5 : UInt8), (5 : UInt8), (5 : UInt8), (5 : UInt8), (5 : UInt8), (5 : UInt8), (5 : UInt8),
                                     (5 : UInt8), (5 : UInt8), (5 : UInt8), (5 : UInt8), (5 : UInt8), (5 : UInt8), (5 : UInt8), (6 : UInt8), (6 : UInt8), (6 : UInt8), (6 : UInt8), (6 : UInt8), (6 : UInt8), (6 : UInt8), (6 : UInt8), (6 : UInt8), (6 : UInt8), (6 : UInt8), (6 : UInt8), (6 : UInt8), (6 : UInt8), (6 : UInt8), (6 : UInt8), (6 : UInt8), (6 : UInt8),
                                     (6 : UInt8), (6 : UInt8), (6 : UInt8), (6 : UInt8), (6 : UInt8), (6 : UInt8), (6 : UInt8), (6 : UInt8), (6 : UInt8), (6 : UInt8), (6 : UInt8), (6 : UInt8), (6 : UInt8), (6 : UInt8), (7 : UInt8), (7 : UInt8), (7 : UInt8), (7 : UInt8), (7 : UInt8), (7 : UInt8), (7 : UInt8), (7 : UInt8), (7 : UInt8), (7 : UInt8), (7 : UInt8),
                                     (7 : UInt8), (7 : UInt8), (7 : UInt8), (7 : UInt8), (7 : UInt8), (7 : UInt8), (7 : UInt8), (7 : UInt8), (7 : UInt8), (7 : UInt8), (7 : UInt8), (7 : UInt8), (7 : UInt8), (7 : UInt8), (7 : UInt8), (7 : UInt8), (7 : UInt8), (7 : UInt8), (7 : UInt8), (7 : UInt8), (7 : UInt8), (7 : UInt8), (7 : UInt8), (7 : UInt8), (7 : UInt8),
                                     (7 : UInt8), (7 : UInt8), (7 : UInt8), (7 : UInt8), (7 : UInt8), (7 : UInt8), (7 : UInt8), (7 : UInt8), (7 : UInt8), (7 : UInt8), (7 : UInt8), (7 : UInt8), (7 : UInt8), (7 : UInt8), (7 : UInt8), (7 : UInt8), (7 : UInt8), (7 : UInt8), (7 : UInt8), (7 : UInt8), (7 : UInt8), (7 : UInt8), (7 : UInt8), (7 : UInt8), (7 : UInt8),
                                     (7 : UInt8), (7 : UInt8), (7 : UInt8), (8 : UInt8), (8 : UInt8), (8 : UInt8), (8 : UInt8), (8 : UInt8), (8 : UInt8), (8 : UInt8), (8 : UInt8), (8 : UInt8), (8 : UInt8), (8 : UInt8), (8 : UInt8), (8 : UInt8), (8 : UInt8), (8 : UInt8), (8 : UInt8), (8 : UInt8), (8 : UInt8), (8 : UInt8), (8 : UInt8), (8 : UInt8), (8 : UInt8),
                                     (8 : UInt8), (8 : UInt8), (8 : UInt8), (8 : UInt8), (8 : UInt8), (8 : UInt8), (8 : UInt8), (8 : UInt8), (8 : UInt8), (8 : UInt8), (8 : UInt8), (8 : UInt8), (8 : UInt8), (8 : UInt8), (8 : UInt8), (8 : UInt8), (8 : UInt8), (8 : UInt8), (8 : UInt8), (8 : UInt8), (8 : UInt8), (8 : UInt8), (8 : UInt8), (8 : UInt8), (8 : UInt8),
                                     (8 : UInt8), (8 : UInt8), (8 : UInt8), (8 : UInt8), (8 : UInt8), (8 : UInt8), (8 : UInt8), (8 : UInt8), (8 : UInt8), (8 : UInt8), (8 : UInt8), (8 : UInt8), (8 : UInt8), (8 : UInt8), (8 : UInt8), (8 : UInt8), (8 : UInt8), (8 : UInt8), (8 : UInt8), (8 : UInt8), (8 : UInt8), (8 : UInt8), (8 : UInt8), (8 : UInt8), (8 : UInt8),
                                     (8 : UInt8), (8 : UInt8), (8 : UInt8), (8 : UInt8), (8 : UInt8), (8 : UInt8), (8 : UInt8), (8 : UInt8), (8 : UInt8), (8 : UInt8), (8 : UInt8), (8 : UInt8), (8 : UInt8), (8 : UInt8), (8 : UInt8), (8 : UInt8), (8 : UInt8), (8 : UInt8), (8 : UInt8), (8 : UInt8), (8 : UInt8), (8 : UInt8), (8 : UInt8), (8 : UInt8), (8 : UInt8),
                                     (8 : UInt8), (8 : UInt8), (8 : UInt8), (8 : UInt8), (8 : UInt8), (8 : UInt8), (8 : UInt8), (8 : UInt8), (8 : UInt8), (8 : UInt8), (8 : UInt8), (8 : UInt8), (8 : UInt8), (8 : UInt8), (8 : UInt8), (8 : UInt8), (8 : UInt8), (8 : UInt8), (8 : UInt8), (8 : UInt8), (8 : UInt8), (8 : UInt8), (8 : UInt8), (8 : UInt8), (8 : UInt8),
                                     (8 : UInt8), (8 : UInt8), (8 : UInt8), (8 : UInt8), (8 : UInt8), (8 : UInt8)] } }).length :
                             Int)) ∧
                          True ∧
                           True ∧
                            True ∧
                             (false = false ∧ True) ∧
                              D.val
                                (Value.int IntKind.i64
                                 (IntKind.i64.wrap
                                  (IntKind.i64.wrap ((32 : Int) + (16 : Int)) +
                                   IntKind.i64.wrap
                                    ((ints
                                       {
                                        data :=
                                         {
                                          toList :=
                                           [(0 : UInt8), (1 : UInt8), (2 : UInt8), (2 : UInt8), (3 : UInt8), (3 : UInt8), (3 : UInt8), (3 : UInt8), (4 : UInt8), (4 : UInt8), (4 : UInt8), (4 : UInt8), (4 : UInt8), (4 : UInt8), (4 : UInt8), (4 : UInt8), (5 : UInt8), (5 : UInt8), (5 : UInt8), (5 : UInt8), (5 : UInt8), (5 : UInt8), (5 : UInt8), (5 : UInt8),
                                            (5 : UInt8), (5 : UInt8), (5 : UInt8), (5 : UInt8), (5 : UInt8), (5 : UInt8), (5 : UInt8), (5 : UInt8), (6 : UInt8), (6 : UInt8), (6 : UInt8), (6 : UInt8), (6 : UInt8), (6 : UInt8), (6 : UInt8), (6 : UInt8), (6 : UInt8), (6 : UInt8), (6 : UInt8), (6 : UInt8), (6 : UInt8), (6 : UInt8), (6 : UInt8), (6 : UInt8),
                                            (6 : UInt8), (6 : UInt8), (6 : UInt8), (6 : UInt8), (6 : UInt8), (6 : UInt8), (6 : UInt8), (6 : UInt8), (6 : UInt8), (6 : UInt8), (6 : UInt8), (6 : UInt8), (6 : UInt8), (6 : UInt8), (6 : UInt8), (6 : UInt8), (7 : UInt8), (7 : UInt8), (7 : UInt8), (7 : UInt8), (7 : UInt8), (7 : UInt8), (7 : UInt8), (7 : UInt8),
                                            (7 : UInt8), (7 : UInt8), (7 : UInt8), (7 : UInt8), (7 : UInt8), (7 : UInt8), (7 : UInt8), (7 : UInt8), (7 : UInt8), (7 : UInt8), (7 : UInt8), (7 : UInt8), (7 : UInt8), (7 : UInt8), (7 : UInt8), (7 : UInt8), (7 : UInt8), (7 : UInt8), (7 : UInt8), (7 : UInt8), (7 : UInt8), (7 : UInt8), (7 : UInt8), (7 : UInt8),
                                            (7 : UInt8), (7 : UInt8), (7 : UInt8), (7 : UInt8), (7 : UInt8), (7 : UInt8), (7 : UInt8), (7 : UInt8), (7 : UInt8), (7 : UInt8), (7 : UInt8), (7 : UInt8), (7 : UInt8), (7 : UInt8), (7 : UInt8), (7 : UInt8), (7 : UInt8), (7 : UInt8), (7 : UInt8), (7 : UInt8), (7 : UInt8), (7 : UInt8), (7 : UInt8), (7 : UInt8),
                                            (7 : UInt8), (7 : UInt8), (7 : UInt8), (7 : UInt8), (7 : UInt8), (7 : UInt8), (7 : UInt8), (7 : UInt8), (8 : UInt8), (8 : UInt8), (8 : UInt8), (8 : UInt8), (8 : UInt8), (8 : UInt8), (8 : UInt8), (8 : UInt8), (8 : UInt8), (8 : UInt8), (8 : UInt8), (8 : UInt8), (8 : UInt8), (8 : UInt8), (8 : UInt8), (8 : UInt8),
                                            (8 : UInt8), (8 : UInt8), (8 : UInt8), (8 : UInt8), (8 : UInt8), (8 : UInt8), (8 : UInt8), (8 : UInt8), (8 : UInt8), (8 : UInt8), (8 : UInt8), (8 : UInt8), (8 : UInt8), (8 : UInt8), (8 : UInt8), (8 : UInt8), (8 : UInt8), (8 : UInt8), (8 : UInt8), (8 : UInt8), (8 : UInt8), (8 : UInt8), (8 : UInt8), (8 : UInt8),
                                            (8 : UInt8), (8 : UInt8), (8 : UInt8), (8 : UInt8), (8 : UInt8), (8 : UInt8), (8 : UInt8), (8 : UInt8), (8 : UInt8), (8 : UInt8), (8 : UInt8), (8 : UInt8), (8 : UInt8), (8 : UInt8), (8 : UInt8), (8 : UInt8), (8 : UInt8), (8 : UInt8), (8 : UInt8), (8 : UInt8), (8 : UInt8), (8 : UInt8), (8 : UInt8), (8 : UInt8),
                                            (8 : UInt8), (8 : UInt8), (8 : UInt8), (8 : UInt8), (8 : UInt8), (8 : UInt8), (8 : UInt8), (8 : UInt8), (8 : UInt8), (8 : UInt8), (8 : UInt8), (8 : UInt8), (8 : UInt8), (8 : UInt8), (8 : UInt8), (8 : UInt8), (8 : UInt8), (8 : UInt8), (8 : UInt8), (8 : UInt8), (8 : UInt8), (8 : UInt8), (8 : UInt8), (8 : UInt8),
                                            (8 : UInt8), (8 : UInt8), (8 : UInt8), (8 : UInt8), (8 : UInt8), (8 : UInt8), (8 : UInt8), (8 : UInt8), (8 : UInt8), (8 : UInt8), (8 : UInt8), (8 : UInt8), (8 : UInt8), (8 : UInt8), (8 : UInt8), (8 : UInt8), (8 : UInt8), (8 : UInt8), (8 : UInt8), (8 : UInt8), (8 : UInt8), (8 : UInt8), (8 : UInt8), (8 : UInt8),
                                            (8 : UInt8), (8 : UInt8), (8 : UInt8), (8 : UInt8), (8 : UInt8), (8 : UInt8), (8 : UInt8), (8 : UInt8), (8 : UInt8), (8 : UInt8), (8 : UInt8), (8 : UInt8), (8 : UInt8), (8 : UInt8), (8 : UInt8), (8 : UInt8)] } }).getD
                                     (IntKind.u8.wrap (ishr IntKind.u64 (ishr IntKind.u64 (↑x : Int) (32 : Int)) (16 : Int))).toNat (0 : Int))))) =
                               F
            | false =>
             True ∧
              True ∧
               match decide (ishr IntKind.u64 (↑x : Int) (32 : Int) ≥ (256 : Int)) with
               | true =>
                True ∧
                 (0 : Int) ≤ (8 : Int) ∧
                  True ∧
                   True ∧
                    True ∧
                     True ∧
                      True ∧
                       True ∧
                        True ∧
                         ((0 : Int) ≤ IntKind.u8.wrap (ishr IntKind.u64 (ishr IntKind.u64 (↑x : Int) (32 : Int)) (8 : Int)) ∧
                           IntKind.u8.wrap (ishr IntKind.u64 (ishr IntKind.u64 (↑x : Int) (32 : Int)) (8 : Int)) <
                            (↑(ints
                                {
                                 data :=
                                  {
                                   toList :=
                                    [(0 : UInt8), (1 : UInt8), (2 : UInt8), (2 : UInt8), (3 : UInt8), (3 : UInt8), (3 : UInt8), (3 : UInt8), (4 : UInt8), (4 : UInt8), (4 : UInt8), (4 : UInt8), (4 : UInt8), (4 : UInt8), (4 : UInt8), (4 : UInt8), (5 : UInt8), (5 : UInt8), (5 : UInt8), (5 : UInt8), (5 : UInt8), (5 : UInt8), (5 : UInt8), (5 : UInt8), (5 : UInt8),
                                     (5 : UInt8), (5 : UInt8), (5 : UInt8), (5 : UInt8), (5 : UInt8), (5 : UInt8), (5 : UInt8), (6 : UInt8), (6 : UInt8), (6 : UInt8), (6 : UInt8), (6 : UInt8), (6 : UInt8), (6 : UInt8), (6 : UInt8), (6 : UInt8), (6 : UInt8), (6 : UInt8), (6 : UInt8), (6 : UInt8), (6 : UInt8), (6 : UInt8), (6 : UInt8), (6 : UInt8), (6 : UInt8),
                                     (6 : UInt8), (6 : UInt8), (6 : UInt8), (6 : UInt8), (6 : UInt8), (6 : UInt8), (6 : UInt8), (6 : UInt8), (6 : UInt8), (6 : UInt8), (6 : UInt8), (6 : UInt8), (6 : UInt8), (6 : UInt8), (7 : UInt8), (7 : UInt8), (7 : UInt8), (7 : UInt8), (7 : UInt8), (7 : UInt8), (7 : UInt8), (7 : UInt8), (7 : UInt8), (7 : UInt8), (7 : UInt8),
                                     (7 : UInt8), (7 : UInt8), (7 : UInt8), (7 : UInt8), (7 : UInt8), (7 : UInt8), (7 : UInt8), (7 : UInt8), (7 : UInt8), (7 : UInt8), (7 : UInt8), (7 : UInt8), (7 : UInt8), (7 : UInt8), (7 : UInt8), (7 : UInt8), (7 : UInt8), (7 : UInt8), (7 : UInt8), (7 : UInt8), (7 : UInt8), (7 : UInt8), (7 : UInt8), (7 : UInt8), (7 : UInt8),
                                     (7 : UInt8), (7 : UInt8), (7 : UInt8), (7 : UInt8), (7 : UInt8), (7 : UInt8), (7 : UInt8), (7 : UInt8), (7 : UInt8), (7 : UInt8), (7 : UInt8), (7 : UInt8), (7 : UInt8), (7 : UInt8), (7 : UInt8), (7 : UInt8), (7 : UInt8), (7 : UInt8), (7 : UInt8), (7 : UInt8), (7 : UInt8), (7 : UInt8), (7 : UInt8), (7 : UInt8), (7 : UInt8),
                                     (7 : UInt8), (7 : UInt8), (7 : UInt8), (8 : UInt8), (8 : UInt8), (8 : UInt8), (8 : UInt8), (8 : UInt8), (8 : UInt8), (8 : UInt8), (8 : UInt8), (8 : UInt8), (8 : UInt8), (8 : UInt8), (8 : UInt8), (8 : UInt8), (8 : UInt8), (8 : UInt8), (8 : UInt8), (8 : UInt8), (8 : UInt8), (8 : UInt8), (8 : UInt8), (8 : UInt8), (8 : UInt8),
                                     (8 : UInt8), (8 : UInt8), (8 : UInt8), (8 : UInt8), (8 : UInt8), (8 : UInt8), (8 : UInt8), (8 : UInt8), (8 : UInt8), (8 : UInt8), (8 : UInt8), (8 : UInt8), (8 : UInt8), (8 : UInt8), (8 : UInt8), (8 : UInt8), (8 : UInt8), (8 : UInt8), (8 : UInt8), (8 : UInt8), (8 : UInt8), (8 : UInt8), (8 : UInt8), (8 : UInt8), (8 : UInt8),
                                     (8 : UInt8), (8 : UInt8), (8 : UInt8), (8 : UInt8), (8 : UInt8), (8 : UInt8), (8 : UInt8), (8 : UInt8), (8 : UInt8), (8 : UInt8), (8 : UInt8), (8 : UInt8), (8 : UInt8), (8 : UInt8), (8 : UInt8), (8 : UInt8), (8 : UInt8), (8 : UInt8), (8 : UInt8), (8 : UInt8), (8 : UInt8), (8 : UInt8), (8 : UInt8), (8 : UInt8), (8 : UInt8),
                                     (8 : UInt8), (8 : UInt8), (8 : UInt8), (8 : UInt8), (8 : UInt8), (8 : UInt8), (8 : UInt8), (8 : UInt8), (8 : UInt8), (8 : UInt8), (8 : UInt8), (8 : UInt8), (8 : UInt8), (8 : UInt8), (8 : UInt8), (8 : UInt8), (8 : UInt8), (8 : UInt8), (8 : UInt8), (8 : UInt8), (8 : UInt8), (8 : UInt8), (8 : UInt8), (8 : UInt8), (8 : UInt8),
                                     (8 : UInt8), (8 : UInt8), (8 : UInt8), (8 : UInt8), (8 : UInt8), (8 : UInt8), (8 : UInt8), (8 : UInt8), (8 : UInt8), (8 : UInt8), (8 : UInt8), (8 : UInt8), (8 : UInt8), (8 : UInt8), (8 : UInt8), (8 : UInt8), (8 : UInt8), (8 : UInt8), (8 : UInt8), (8 : UInt8), (8 : UInt8), (8 : UInt8), (8 : UInt8), (8 : UInt8), (8 : UInt8),
                                     (8 : UInt8), (8 : UInt8), (8 : UInt8), (8 : UInt8), (8 : UInt8), (8 : UInt8)] } }).length :
                             Int)) ∧
                          True ∧
                           True ∧
                            True ∧
                             (false = false ∧ True) ∧
                              D.val
                                (Value.int IntKind.i64
                                 (IntKind.i64.wrap
                                  (IntKind.i64.wrap ((32 : Int) + (8 : Int)) +
                                   IntKind.i64.wrap
                                    ((ints
                                       {
                                        data :=
                                         {
                                          toList :=
                                           [(0 : UInt8), (1 : UInt8), (2 : UInt8), (2 : UInt8), (3 : UInt8), (3 : UInt8), (3 : UInt8), (3 : UInt8), (4 : UInt8), (4 : UInt8), (4 : UInt8), (4 : UInt8), (4 : UInt8), (4 : UInt8), (4 : UInt8), (4 : UInt8), (5 : UInt8), (5 : UInt8), (5 : UInt8), (5 : UInt8), (5 : UInt8), (5 : UInt8), (5 : UInt8), (5 : UInt8),
                                            (5 : UInt8), (5 : UInt8), (5 : UInt8), (5 : UInt8), (5 : UInt8), (5 : UInt8), (5 : UInt8), (5 : UInt8), (6 : UInt8), (6 : UInt8), (6 : UInt8), (6 : UInt8), (6 : UInt8), (6 : UInt8), (6 : UInt8), (6 : UInt8), (6 : UInt8), (6 : UInt8), (6 : UInt8), (6 : UInt8), (6 : UInt8), (6 : UInt8), (6 : UInt8), (6 : UInt8),
                                            (6 : UInt8), (6 : UInt8), (6 : UInt8), (6 : UInt8), (6 : UInt8), (6 : UInt8), (6 : UInt8), (6 : UInt8), (6 : UInt8), (6 : UInt8), (6 : UInt8), (6 : UInt8), (6 : UInt8), (6 : UInt8), (6 : UInt8), (6 : UInt8), (7 : UInt8), (7 : UInt8), (7 : UInt8), (7 : UInt8), (7 : UInt8), (7 : UInt8), (7 : UInt8), (7 : UInt8),
                                            (7 : UInt8), (7 : UInt8), (7 : UInt8), (7 : UInt8), (7 : UInt8), (7 : UInt8), (7 : UInt8), (7 : UInt8), (7 : UInt8), (7 : UInt8), (7 : UInt8), (7 : UInt8), (7 : UInt8), (7 : UInt8), (7 : UInt8), (7 : UInt8), (7 : UInt8), (7 : UInt8), (7 : UInt8), (7 : UInt8), (7 : UInt8), (7 : UInt8), (7 : UInt8), (7 : UInt8),
                                            (7 : UInt8), (7 : UInt8), (7 : UInt8), (7 : UInt8), (7 : UInt8), (7 : UInt8), (7 : UInt8), (7 : UInt8), (7 : UInt8), (7 : UInt8), (7 : UInt8), (7 : UInt8), (7 : UInt8), (7 : UInt8), (7 : UInt8), (7 : UInt8), (7 : UInt8), (7 : UInt8), (7 : UInt8), (7 : UInt8), (7 : UInt8), (7 : UInt8), (7 : UInt8), (7 : UInt8),
                                            (7 : UInt8), (7 : UInt8), (7 : UInt8), (7 : UInt8), (7 : UInt8), (7 : UInt8), (7 : UInt8), (7 : UInt8), (8 : UInt8), (8 : UInt8), (8 : UInt8), (8 : UInt8), (8 : UInt8), (8 : UInt8), (8 : UInt8), (8 : UInt8), (8 : UInt8), (8 : UInt8), (8 : UInt8), (8 : UInt8), (8 : UInt8), (8 : UInt8), (8 : UInt8), (8 : UInt8),
                                            (8 : UInt8), (8 : UInt8), (8 : UInt8), (8 : UInt8), (8 : UInt8), (8 : UInt8), (8 : UInt8), (8 : UInt8), (8 : UInt8), (8 : UInt8), (8 : UInt8), (8 : UInt8), (8 : UInt8), (8 : UInt8), (8 : UInt8), (8 : UInt8), (8 : UInt8), (8 : UInt8), (8 : UInt8), (8 : UInt8), (8 : UInt8), (8 : UInt8), (8 : UInt8), (8 : UInt8),
                                            (8 : UInt8), (8 : UInt8), (8 : UInt8), (8 : UInt8), (8 : UInt8), (8 : UInt8), (8 : UInt8), (8 : UInt8), (8 : UInt8), (8 : UInt8), (8 : UInt8), (8 : UInt8), (8 : UInt8), (8 : UInt8), (8 : UInt8), (8 : UInt8), (8 : UInt8), (8 : UInt8), (8 : UInt8), (8 : UInt8), (8 : UInt8), (8 : UInt8), (8 : UInt8), (8 : UInt8),
                                            (8 : UInt8), (8 : UInt8), (8 : UInt8), (8 : UInt8), (8 : UInt8), (8 : UInt8), (8 : UInt8), (8 : UInt8), (8 : UInt8), (8 : UInt8), (8 : UInt8), (8 : UInt8), (8 : UInt8), (8 : UInt8), (8 : UInt8), (8 : UInt8), (8 : UInt8), (8 : UInt8), (8 : UInt8), (8 : UInt8), (8 : UInt8), (8 : UInt8), (8 : UInt8), (8 : UInt8),
                                            (8 : UInt8), (8 : UInt8), (8 : UInt8), (8 : UInt8), (8 : UInt8), (8 : UInt8), (8 : UInt8), (8 : UInt8), (8 : UInt8), (8 : UInt8), (8 : UInt8), (8 : UInt8), (8 : UInt8), (8 : UInt8), (8 : UInt8), (8 : UInt8), (8 : UInt8), (8 : UInt8), (8 : UInt8), (8 : UInt8), (8 : UInt8), (8 : UInt8), (8 : UInt8), (8 : UInt8),
                                            (8 : UInt8), (8 : UInt8), (8 : UInt8), (8 : UInt8), (8 : UInt8), (8 : UInt8), (8 : UInt8), (8 : UInt8), (8 : UInt8), (8 : UInt8), (8 : UInt8), (8 : UInt8), (8 : UInt8), (8 : UInt8), (8 : UInt8), (8 : UInt8)] } }).getD
                                     (IntKind.u8.wrap (ishr IntKind.u64 (ishr IntKind.u64 (↑x : Int) (32 : Int)) (8 : Int))).toNat (0 : Int))))) =
                               F
               | false =>
                True ∧
                 True ∧
                  True ∧
                   ((0 : Int) ≤ IntKind.u8.wrap (ishr IntKind.u64 (↑x : Int) (32 : Int)) ∧
                     IntKind.u8.wrap (ishr IntKind.u64 (↑x : Int) (32 : Int)) <
                      (↑(ints
                          {
                           data :=
                            {
                             toList :=
                              [(0 : UInt8), (1 : UInt8), (2 : UInt8), (2 : UInt8), (3 : UInt8), (3 : UInt8), (3 : UInt8), (3 : UInt8), (4 : UInt8), (4 : UInt8), (4 : UInt8), (4 : UInt8), (4 : UInt8), (4 : UInt8), (4 : UInt8), (4 : UInt8), (5 : UInt8), (5 : UInt8), (5 : UInt8), (5 : UInt8), (5 : UInt8), (5 : UInt8), (5 : UInt8), (5 : UInt8), (5 : UInt8), (5 : UInt8),
                               (5 : UInt8), (5 : UInt8), (5 : UInt8), (5 : UInt8), (5 : UInt8), (5 : UInt8), (6 : UInt8), (6 : UInt8), (6 : UInt8), (6 : UInt8), (6 : UInt8), (6 : UInt8), (6 : UInt8), (6 : UInt8), (6 : UInt8), (6 : UInt8), (6 : UInt8), (6 : UInt8), (6 : UInt8), (6 : UInt8), (6 : UInt8), (6 : UInt8), (6 : UInt8), (6 : UInt8), (6 : UInt8), (6 : UInt8),
                               (6 : UInt8), (6 : UInt8), (6 : UInt8), (6 : UInt8), (6 : UInt8), (6 : UInt8), (6 : UInt8), (6 : UInt8), (6 : UInt8), (6 : UInt8), (6 : UInt8), (6 : UInt8), (7 : UInt8), (7 : UInt8), (7 : UInt8), (7 : UInt8), (7 : UInt8), (7 : UInt8), (7 : UInt8), (7 : UInt8), (7 : UInt8), (7 : UInt8), (7 : UInt8), (7 : UInt8), (7 : UInt8), (7 : UInt8),
                               (7 : UInt8), (7 : UInt8), (7 : UInt8), (7 : UInt8), (7 : UInt8), (7 : UInt8), (7 : UInt8), (7 : UInt8), (7 : UInt8), (7 : UInt8), (7 : UInt8), (7 : UInt8), (7 : UInt8), (7 : UInt8), (7 : UInt8), (7 : UInt8), (7 : UInt8), (7 : UInt8), (7 : UInt8), (7 : UInt8), (7 : UInt8), (7 : UInt8), (7 : UInt8), (7 : UInt8), (7 : UInt8), (7 : UInt8),
                               (7 : UInt8), (7 : UInt8), (7 : UInt8), (7 : UInt8), (7 : UInt8), (7 : UInt8), (7 : UInt8), (7 : UInt8), (7 : UInt8), (7 : UInt8), (7 : UInt8), (7 : UInt8), (7 : UInt8), (7 : UInt8), (7 : UInt8), (7 : UInt8), (7 : UInt8), (7 : UInt8), (7 : UInt8), (7 : UInt8), (7 : UInt8), (7 : UInt8), (7 : UInt8), (7 : UInt8), (8 : UInt8), (8 : UInt8),
                               (8 : UInt8), (8 : UInt8), (8 : UInt8), (8 : UInt8), (8 : UInt8), (8 : UInt8), (8 : UInt8), (8 : UInt8), (8 : UInt8), (8 : UInt8), (8 : UInt8), (8 : UInt8), (8 : UInt8), (8 : UInt8), (8 : UInt8), (8 : UInt8), (8 : UInt8), (8 : UInt8), (8 : UInt8), (8 : UInt8), (8 : UInt8), (8 : UInt8), (8 : UInt8), (8 : UInt8), (8 : UInt8), (8 : UInt8),
                               (8 : UInt8), (8 : UInt8), (8 : UInt8), (8 : UInt8), (8 : UInt8), (8 : UInt8), (8 : UInt8), (8 : UInt8), (8 : UInt8), (8 : UInt8), (8 : UInt8), (8 : UInt8), (8 : UInt8), (8 : UInt8), (8 : UInt8), (8 : UInt8), (8 : UInt8), (8 : UInt8), (8 : UInt8), (8 : UInt8), (8 : UInt8), (8 : UInt8), (8 : UInt8), (8 : UInt8), (8 : UInt8), (8 : UInt8),
                               (8 : UInt8), (8 : UInt8), (8 : UInt8), (8 : UInt8), (8 : UInt8), (8 : UInt8), (8 : UInt8), (8 : UInt8), (8 : UInt8), (8 : UInt8), (8 : UInt8), (8 : UInt8), (8 : UInt8), (8 : UInt8), (8 : UInt8), (8 : UInt8), (8 : UInt8), (8 : UInt8), (8 : UInt8), (8 : UInt8), (8 : UInt8), (8 : UInt8), (8 : UInt8), (8 : UInt8), (8 : UInt8), (8 : UInt8),
                               (8 : UInt8), (8 : UInt8), (8 : UInt8), (8 : UInt8), (8 : UInt8), (8 : UInt8), (8 : UInt8), (8 : UInt8), (8 : UInt8), (8 : UInt8), (8 : UInt8), (8 : UInt8), (8 : UInt8), (8 : UInt8), (8 : UInt8), (8 : UInt8), (8 : UInt8), (8 : UInt8), (8 : UInt8), (8 : UInt8), (8 : UInt8), (8 : UInt8), (8 : UInt8), (8 : UInt8), (8 : UInt8), (8 : UInt8),
                               (8 : UInt8), (8 : UInt8), (8 : UInt8), (8 : UInt8), (8 : UInt8), (8 : UInt8), (8 : UInt8), (8 : UInt8), (8 : UInt8), (8 : UInt8), (8 : UInt8), (8 : UInt8), (8 : UInt8), (8 : UInt8), (8 : UInt8), (8 : UInt8), (8 : UInt8), (8 : UInt8), (8 : UInt8), (8 : UInt8), (8 : UInt8), (8 : UInt8)] } }).length :
                       Int)) ∧
                    True ∧
                     True ∧
                      True ∧
                       (false = false ∧ True) ∧
                        D.val
                          (Value.int IntKind.i64
                           (IntKind.i64.wrap
                            ((32 : Int) +
                             IntKind.i64.wrap
                              ((ints
                                 {
                                  data :=
                                   {
                                    toList :=
                                     [(0 : UInt8), (1 : UInt8), (2 : UInt8), (2 : UInt8), (3 : UInt8), (3 : UInt8), (3 : UInt8), (3 : UInt8), (4 : UInt8), (4 : UInt8), (4 : UInt8), (4 : UInt8), (4 : UInt8), (4 : UInt8), (4 : UInt8), (4 : UInt8), (5 : UInt8), (5 : UInt8), (5 : UInt8), (5 : UInt8), (5 : UInt8), (5 : UInt8), (5 : UInt8), (5 : UInt8), (5 : UInt8),
                                      (5 : UInt8), (5 : UInt8), (5 : UInt8), (5 : UInt8), (5 : UInt8), (5 : UInt8), (5 : UInt8), (6 : UInt8), (6 : UInt8), (6 : UInt8), (6 : UInt8), (6 : UInt8), (6 : UInt8), (6 : UInt8), (6 : UInt8), (6 : UInt8), (6 : UInt8), (6 : UInt8), (6 : UInt8), (6 : UInt8), (6 : UInt8), (6 : UInt8), (6 : UInt8), (6 : UInt8), (6 : UInt8),
                                      (6 : UInt8), (6 : UInt8), (6 : UInt8), (6 : UInt8), (6 : UInt8), (6 : UInt8), (6 : UInt8), (6 : UInt8), (6 : UInt8), (6 : UInt8), (6 : UInt8), (6 : UInt8), (6 : UInt8), (6 : UInt8), (7 : UInt8), (7 : UInt8), (7 : UInt8), (7 : UInt8), (7 : UInt8), (7 : UInt8), (7 : UInt8), (7 : UInt8), (7 : UInt8), (7 : UInt8), (7 : UInt8),
                                      (7 : UInt8), (7 : UInt8), (7 : UInt8), (7 : UInt8), (7 : UInt8), (7 : UInt8), (7 : UInt8), (7 : UInt8), (7 : UInt8), (7 : UInt8), (7 : UInt8), (7 : UInt8), (7 : UInt8), (7 : UInt8), (7 : UInt8), (7 : UInt8), (7 : UInt8), (7 : UInt8), (7 : UInt8), (7 : UInt8), (7 : UInt8), (7 : UInt8), (7 : UInt8), (7 : UInt8), (7 : UInt8),
                                      (7 : UInt8), (7 : UInt8), (7 : UInt8), (7 : UInt8), (7 : UInt8), (7 : UInt8), (7 : UInt8), (7 : UInt8), (7 : UInt8), (7 : UInt8), (7 : UInt8), (7 : UInt8), (7 : UInt8), (7 : UInt8), (7 : UInt8), (7 : UInt8), (7 : UInt8), (7 : UInt8), (7 : UInt8), (7 : UInt8), (7 : UInt8), (7 : UInt8), (7 : UInt8), (7 : UInt8), (7 : UInt8),
                                      (7 : UInt8), (7 : UInt8), (7 : UInt8), (8 : UInt8), (8 : UInt8), (8 : UInt8), (8 : UInt8), (8 : UInt8), (8 : UInt8), (8 : UInt8), (8 : UInt8), (8 : UInt8), (8 : UInt8), (8 : UInt8), (8 : UInt8), (8 : UInt8), (8 : UInt8), (8 : UInt8), (8 : UInt8), (8 : UInt8), (8 : UInt8), (8 : UInt8), (8 : UInt8), (8 : UInt8), (8 : UInt8),
                                      (8 : UInt8), (8 : UInt8), (8 : UInt8), (8 : UInt8), (8 : UInt8), (8 : UInt8), (8 : UInt8), (8 : UInt8), (8 : UInt8), (8 : UInt8), (8 : UInt8), (8 : UInt8), (8 : UInt8), (8 : UInt8), (8 : UInt8), (8 : UInt8), (8 : UInt8), (8 : UInt8), (8 : UInt8), (8 : UInt8), (8 : UInt8), (8 : UInt8), (8 : UInt8), (8 : UInt8), (8 : UInt8),
                                      (8 : UInt8), (8 : UInt8), (8 : UInt8), (8 : UInt8), (8 : UInt8), (8 : UInt8), (8 : UInt8), (8 : UInt8), (8 : UInt8), (8 : UInt8), (8 : UInt8), (8 : UInt8), (8 : UInt8), (8 : UInt8), (8 : UInt8), (8 : UInt8), (8 : UInt8), (8 : UInt8), (8 : UInt8), (8 : UInt8), (8 : UInt8), (8 : UInt8), (8 : UInt8), (8 : UInt8), (8 : UInt8),
                                      (8 : UInt8), (8 : UInt8), (8 : UInt8), (8 : UInt8), (8 : UInt8), (8 : UInt8), (8 : UInt8), (8 : UInt8), (8 : UInt8), (8 : UInt8), (8 : UInt8), (8 : UInt8), (8 : UInt8), (8 : UInt8), (8 : UInt8), (8 : UInt8), (8 : UInt8), (8 : UInt8), (8 : UInt8), (8 : UInt8), (8 : UInt8), (8 : UInt8), (8 : UInt8), (8 : UInt8), (8 : UInt8),
                                      (8 : UInt8), (8 : UInt8), (8 : UInt8), (8 : UInt8), (8 : UInt8), (8 : UInt8), (8 : UInt8), (8 : UInt8), (8 : UInt8), (8 : UInt8), (8 : UInt8), (8 : UInt8), (8 : UInt8), (8 : UInt8), (8 : UInt8), (8 : UInt8), (8 : UInt8), (8 : UInt8), (8 : UInt8), (8 : UInt8), (8 : UInt8), (8 : UInt8), (8 : UInt8), (8 : UInt8), (8 : UInt8),
                                      (8 : UInt8), (8 : UInt8), (8 : UInt8), (8 : UInt8), (8 : UInt8), (8 : UInt8)] } }).getD
                               (IntKind.u8.wrap (ishr IntKind.u64 (↑x : Int) (32 : Int))).toNat (0 : Int))))) =
                         F
     | false =>
      True ∧
       True ∧
        match decide ((↑x : Int) ≥ (65536 : Int)) with
        | true =>
         True ∧
          (0 : Int) ≤ (16 : Int) ∧
           True ∧
            True ∧
             True ∧
              True ∧
               True ∧
                True ∧
                 match decide (ishr IntKind.u64 (↑x : Int) (16 : Int) ≥ (256 : Int)) with
                 | true =>
                  True ∧
                   (0 : Int) ≤ (8 : Int) ∧
                    True ∧
                     True ∧
                      True ∧
                       True ∧
                        True ∧
                         True ∧
                          True ∧
                           ((0 : Int) ≤ IntKind.u8.wrap (ishr IntKind.u64 (ishr IntKind.u64 (↑x : Int) (16 : Int)) (8 : Int)) ∧
                             IntKind.u8.wrap (ishr IntKind.u64 (ishr IntKind.u64 (↑x : Int) (16 : Int)) (8 : Int)) <
                              (↑(ints
                                  {
                                   data :=
                                    {
                                     toList :=
                                      [(0 : UInt8), (1 : UInt8), (2 : UInt8), (2 : UInt8), (3 : UInt8), (3 : UInt8), (3 : UInt8), (3 : UInt8), (4 : UInt8), (4 : UInt8), (4 : UInt8), (4 : UInt8), (4 : UInt8), (4 : UInt8), (4 : UInt8), (4 : UInt8), (5 : UInt8), (5 : UInt8), (5 : UInt8), (5 : UInt8), (5 : UInt8), (5 : UInt8), (5 : UInt8), (5 : UInt8), (5 : UInt8),
                                       (5 : UInt8), (5 : UInt8), (5 : UInt8), (5 : UInt8), (5 : UInt8), (5 : UInt8), (5 : UInt8), (6 : UInt8), (6 : UInt8), (6 : UInt8), (6 : UInt8), (6 : UInt8), (6 : UInt8), (6 : UInt8), (6 : UInt8), (6 : UInt8), (6 : UInt8), (6 : UInt8), (6 : UInt8), (6 : UInt8), (6 : UInt8), (6 : UInt8), (6 : UInt8), (6 : UInt8), (6 : UInt8),
                                       (6 : UInt8), (6 : UInt8), (6 : UInt8), (6 : UInt8), (6 : UInt8), (6 : UInt8), (6 : UInt8), (6 : UInt8), (6 : UInt8), (6 : UInt8), (6 : UInt8), (6 : UInt8), (6 : UInt8), (6 : UInt8), (7 : UInt8), (7 : UInt8), (7 : UInt8), (7 : UInt8), (7 : UInt8), (7 : UInt8), (7 : UInt8), (7 : UInt8), (7 : UInt8), (7 : UInt8), (7 : UInt8),
                                       (7 : UInt8), (7 : UInt8), (7 : UInt8), (7 : UInt8), (7 : UInt8), (7 : UInt8), (7 : UInt8), (7 : UInt8), (7 : UInt8), (7 : UInt8), (7 : UInt8), (7 : UInt8), (7 : UInt8), (7 : UInt8), (7 : UInt8), (7 : UInt8), (7 : UInt8), (7 : UInt8), (7 : UInt8), (7 : UInt8), (7 : UInt8), (7 : UInt8), (7 : UInt8), (7 : UInt8), (7 : UInt8),
                                       (7 : UInt8), (7 : UInt8), (7 : UInt8), (7 : UInt8), (7 : UInt8), (7 : UInt8), (7 : UInt8), (7 : UInt8), (7 : UInt8), (7 : UInt8), (7 : UInt8), (7 : UInt8), (7 : UInt8), (7 : UInt8), (7 : UInt8), (7 : UInt8), (7 : UInt8), (7 : UInt8), (7 : UInt8), (7 : UInt8), (7 : UInt8), (7 : UInt8), (7 : UInt8), (7 : UInt8), (7 : UInt8),
                                       (7 : UInt8), (7 : UInt8), (7 : UInt8), (8 : UInt8), (8 : UInt8), (8 : UInt8), (8 : UInt8), (8 : UInt8), (8 : UInt8), (8 : UInt8), (8 : UInt8), (8 : UInt8), (8 : UInt8), (8 : UInt8), (8 : UInt8), (8 : UInt8), (8 : UInt8), (8 : UInt8), (8 : UInt8), (8 : UInt8), (8 : UInt8), (8 : UInt8), (8 : UInt8), (8 : UInt8), (8 : UInt8),
                                       (8 : UInt8), (8 : UInt8), (8 : UInt8), (8 : UInt8), (8 : UInt8), (8 : UInt8), (8 : UInt8), (8 : UInt8), (8 : UInt8), (8 : UInt8), (8 : UInt8), (8 : UInt8), (8 : UInt8), (8 : UInt8), (8 : UInt8), (8 : UInt8), (8 : UInt8), (8 : UInt8), (8 : UInt8), (8 : UInt8), (8 : UInt8), (8 : UInt8), (8 : UInt8), (8 : UInt8), (8 : UInt8),
                                       (8 : UInt8), (8 : UInt8), (8 : UInt8), (8 : UInt8), (8 : UInt8), (8 : UInt8), (8 : UInt8), (8 : UInt8), (8 : UInt8), (8 : UInt8), (8 : UInt8), (8 : UInt8), (8 : UInt8), (8 : UInt8), (8 : UInt8), (8 : UInt8), (8 : UInt8), (8 : UInt8), (8 : UInt8), (8 : UInt8), (8 : UInt8), (8 : UInt8), (8 : UInt8), (8 : UInt8), (8 : UInt8),
                                       (8 : UInt8), (8 : UInt8), (8 : UInt8), (8 : UInt8), (8 : UInt8), (8 : UInt8), (8 : UInt8), (8 : UInt8), (8 : UInt8), (8 : UInt8), (8 : UInt8), (8 : UInt8), (8 : UInt8), (8 : UInt8), (8 : UInt8), (8 : UInt8), (8 : UInt8), (8 : UInt8), (8 : UInt8), (8 : UInt8), (8 : UInt8), (8 : UInt8), (8 : UInt8), (8 : UInt8), (8 : UInt8),
                                       (8 : UInt8), (8 : UInt8), (8 : UInt8), (8 : UInt8), (8 : UInt8), (8 : UInt8), (8 : UInt8), (8 : UInt8), (8 : UInt8), (8 : UInt8), (8 : UInt8), (8 : UInt8), (8 : UInt8), (8 : UInt8), (8 : UInt8), (8 : UInt8), (8 : UInt8), (8 : UInt8), (8 : UInt8), (8 : UInt8), (8 : UInt8), (8 : UInt8), (8 : UInt8), (8 : UInt8), (8 : UInt8),
                                       (8 : UInt8), (8 : UInt8), (8 : UInt8), (8 : UInt8), (8 : UInt8), (8 : UInt8)] } }).length :
                               Int)) ∧
                            True ∧
                             True ∧
                              True ∧
                               (false = false ∧ True) ∧
                                D.val
                                  (Value.int IntKind.i64
                                   (IntKind.i64.wrap
                                    (IntKind.i64.wrap (IntKind.i64.wrap ((0 : Int) + (16 : Int)) + (8 : Int)) +
                                     IntKind.i64.wrap
                                      ((ints
                                         {
                                          data :=
                                           {
                                            toList :=
                                             [(0 : UInt8), (1 : UInt8), (2 : UInt8), (2 : UInt8), (3 : UInt8), (3 : UInt8), (3 : UInt8), (3 : UInt8), (4 : UInt8), (4 : UInt8), (4 : UInt8), (4 : UInt8), (4 : UInt8), (4 : UInt8), (4 : UInt8), (4 : UInt8), (5 : UInt8), (5 : UInt8), (5 : UInt8), (5 : UInt8), (5 : UInt8), (5 : UInt8), (5 : UInt8), (5 : UInt8),
                                              (5 : UInt8), (5 : UInt8), (5 : UInt8), (5 : UInt8), (5 : UInt8), (5 : UInt8), (5 : UInt8), (5 : UInt8), (6 : UInt8), (6 : UInt8), (6 : UInt8), (6 : UInt8), (6 : UInt8), (6 : UInt8), (6 : UInt8), (6 : UInt8), (6 : UInt8), (6 : UInt8), (6 : UInt8), (6 : UInt8), (6 : UInt8), (6 : UInt8), (6 : UInt8),
                                              (6 : UInt8), (6 : UInt8), (6 : UInt8), (6 : UInt8), (6 : UInt8), (6 : UInt8), (6 : UInt8), (6 : UInt8), (6 : UInt8), (6 : UInt8), (6 : UInt8), (6 : UInt8), (6 : UInt8), (6 : UInt8), (6 : UInt8), (6 : UInt8), (6 : UInt8), (7 : UInt8), (7 : UInt8), (7 : UInt8), (7 : UInt8), (7 : UInt8), (7 : UInt8),
                                              (7 : UInt8), (7 : UInt8), (7 : UInt8), (7 : UInt8), (7 : UInt8), (7 : UInt8), (7 : UInt8), (7 : UInt8), (7 : UInt8), (7 : UInt8), (7 : UInt8), (7 : UInt8), (7 : UInt8), (7 : UInt8), (7 : UInt8), (7 : UInt8), (7 : UInt8), (7 : UInt8), (7 : UInt8), (7 : UInt8), (7 : UInt8), (7 : UInt8), (7 : UInt8),
                                              (7 : UInt8), (7 : UInt8), (7 : UInt8), (7 : UInt8), (7 : UInt8), (7 : UInt8), (7 : UInt8), (7 : UInt8), (7 : UInt8), (7 : UInt8), (7 : UInt8), (7 : UInt8), (7 : UInt8), (7 : UInt8), (7 : UInt8), (7 : UInt8), (7 : UInt8), (7 : UInt8), (7 : UInt8), (7 : UInt8), (7 : UInt8), (7 : UInt8), (7 : UInt8),
                                              (7 : UInt8), (7 : UInt8), (7 : UInt8), (7 : UInt8), (7 : UInt8), (7 : UInt8), (7 : UInt8), (7 : UInt8), (7 : UInt8), (7 : UInt8), (7 : UInt8), (7 : UInt8), (8 : UInt8), (8 : UInt8), (8 : UInt8), (8 : UInt8), (8 : UInt8), (8 : UInt8), (8 : UInt8), (8 : UInt8), (8 : UInt8), (8 : UInt8), (8 : UInt8),
                                              (8 : UInt8), (8 : UInt8), (8 : UInt8), (8 : UInt8), (8 : UInt8), (8 : UInt8), (8 : UInt8), (8 : UInt8), (8 : UInt8), (8 : UInt8), (8 : UInt8), (8 : UInt8), (8 : UInt8), (8 : UInt8), (8 : UInt8), (8 : UInt8), (8 : UInt8), (8 : UInt8), (8 : UInt8), (8 : UInt8), (8 : UInt8), (8 : UInt8), (8 : UInt8),
                                              (8 : UInt8), (8 : UInt8), (8 : UInt8), (8 : UInt8), (8 : UInt8), (8 : UInt8), (8 : UInt8), (8 : UInt8), (8 : UInt8), (8 : UInt8), (8 : UInt8), (8 : UInt8), (8 : UInt8), (8 : UInt8), (8 : UInt8), (8 : UInt8), (8 : UInt8), (8 : UInt8), (8 : UInt8), (8 : UInt8), (8 : UInt8), (8 : UInt8), (8 : UInt8),
                                              (8 : UInt8), (8 : UInt8), (8 : UInt8), (8 : UInt8), (8 : UInt8), (8 : UInt8), (8 : UInt8), (8 : UInt8), (8 : UInt8), (8 : UInt8), (8 : UInt8), (8 : UInt8), (8 : UInt8), (8 : UInt8), (8 : UInt8), (8 : UInt8), (8 : UInt8), (8 : UInt8), (8 : UInt8), (8 : UInt8), (8 : UInt8), (8 : UInt8), (8 : UInt8),
                                              (8 : UInt8), (8 : UInt8), (8 : UInt8), (8 : UInt8), (8 : UInt8), (8 : UInt8), (8 : UInt8), (8 : UInt8), (8 : UInt8), (8 : UInt8), (8 : UInt8), (8 : UInt8), (8 : UInt8), (8 : UInt8), (8 : UInt8), (8 : UInt8), (8 : UInt8), (8 : UInt8), (8 : UInt8), (8 : UInt8), (8 : UInt8), (8 : UInt8), (8 : UInt8),
                                              (8 : UInt8), (8 : UInt8), (8 : UInt8), (8 : UInt8), (8 : UInt8), (8 : UInt8), (8 : UInt8), (8 : UInt8), (8 : UInt8), (8 : UInt8), (8 : UInt8), (8 : UInt8), (8 : UInt8), (8 : UInt8), (8 : UInt8), (8 : UInt8), (8 : UInt8), (8 : UInt8), (8 : UInt8), (8 : UInt8), (8 : UInt8), (8 : UInt8), (8 : UInt8),
                                              (8 : UInt8), (8 : UInt8)] } }).getD
                                       (IntKind.u8.wrap (ishr IntKind.u64 (ishr IntKind.u64 (↑x : Int) (16 : Int)) (8 : Int))).toNat (0 : Int))))) =
                                 F
                 | false =>
                  True ∧
                   True ∧
                    True ∧
                     ((0 : Int) ≤ IntKind.u8.wrap (ishr IntKind.u64 (↑x : Int) (16 : Int)) ∧
                       IntKind.u8.wrap (ishr IntKind.u64 (↑x : Int) (16 : Int)) <
                        (↑(ints
                            {
                             data :=
                              {
                               toList :=
                                [(0 : UInt8), (1 : UInt8), (2 : UInt8), (2 : UInt8), (3 : UInt8), (3 : UInt8), (3 : UInt8), (3 : UInt8), (4 : UInt8), (4 : UInt8), (4 : UInt8), (4 : UInt8), (4 : UInt8), (4 : UInt8), (4 : UInt8), (4 : UInt8), (5 : UInt8), (5 : UInt8), (5 : UInt8), (5 : UInt8), (5 : UInt8), (5 : UInt8), (5 : UInt8), (5 : UInt8), (5 : UInt8), (5 : UInt8),
                                 (5 : UInt8), (5 : UInt8), (5 : UInt8), (5 : UInt8), (5 : UInt8), (5 : UInt8), (6 : UInt8), (6 : UInt8), (6 : UInt8), (6 : UInt8), (6 : UInt8), (6 : UInt8), (6 : UInt8), (6 : UInt8), (6 : UInt8), (6 : UInt8), (6 : UInt8), (6 : UInt8), (6 : UInt8), (6 : UInt8), (6 : UInt8), (6 : UInt8), (6 : UInt8), (6 : UInt8), (6 : UInt8),
                                 (6 : UInt8), (6 : UInt8), (6 : UInt8), (6 : UInt8), (6 : UInt8), (6 : UInt8), (6 : UInt8), (6 : UInt8), (6 : UInt8), (6 : UInt8), (6 : UInt8), (6 : UInt8), (6 : UInt8), (7 : UInt8), (7 : UInt8), (7 : UInt8), (7 : UInt8), (7 : UInt8), (7 : UInt8), (7 : UInt8), (7 : UInt8), (7 : UInt8), (7 : UInt8), (7 : UInt8), (7 : UInt8),
                                 (7 : UInt8), (7 : UInt8), (7 : UInt8), (7 : UInt8), (7 : UInt8), (7 : UInt8), (7 : UInt8), (7 : UInt8), (7 : UInt8), (7 : UInt8), (7 : UInt8), (7 : UInt8), (7 : UInt8), (7 : UInt8), (7 : UInt8), (7 : UInt8), (7 : UInt8), (7 : UInt8), (7 : UInt8), (7 : UInt8), (7 : UInt8), (7 : UInt8), (7 : UInt8), (7 : UInt8), (7 : UInt8),
                                 (7 : UInt8), (7 : UInt8), (7 : UInt8), (7 : UInt8), (7 : UInt8), (7 : UInt8), (7 : UInt8), (7 : UInt8), (7 : UInt8), (7 : UInt8), (7 : UInt8), (7 : UInt8), (7 : UInt8), (7 : UInt8), (7 : UInt8), (7 : UInt8), (7 : UInt8), (7 : UInt8), (7 : UInt8), (7 : UInt8), (7 : UInt8), (7 : UInt8), (7 : UInt8), (7 : UInt8), (7 : UInt8),
                                 (7 : UInt8), (7 : UInt8), (8 : UInt8), (8 : UInt8), (8 : UInt8), (8 : UInt8), (8 : UInt8), (8 : UInt8), (8 : UInt8), (8 : UInt8), (8 : UInt8), (8 : UInt8), (8 : UInt8), (8 : UInt8), (8 : UInt8), (8 : UInt8), (8 : UInt8), (8 : UInt8), (8 : UInt8), (8 : UInt8), (8 : UInt8), (8 : UInt8), (8 : UInt8), (8 : UInt8), (8 : UInt8),
                                 (8 : UInt8), (8 : UInt8), (8 : UInt8), (8 : UInt8), (8 : UInt8), (8 : UInt8), (8 : UInt8), (8 : UInt8), (8 : UInt8), (8 : UInt8), (8 : UInt8), (8 : UInt8), (8 : UInt8), (8 : UInt8), (8 : UInt8), (8 : UInt8), (8 : UInt8), (8 : UInt8), (8 : UInt8), (8 : UInt8), (8 : UInt8), (8 : UInt8), (8 : UInt8), (8 : UInt8), (8 : UInt8),
                                 (8 : UInt8), (8 : UInt8), (8 : UInt8), (8 : UInt8), (8 : UInt8), (8 : UInt8), (8 : UInt8), (8 : UInt8), (8 : UInt8), (8 : UInt8), (8 : UInt8), (8 : UInt8), (8 : UInt8), (8 : UInt8), (8 : UInt8), (8 : UInt8), (8 : UInt8), (8 : UInt8), (8 : UInt8), (8 : UInt8), (8 : UInt8), (8 : UInt8), (8 : UInt8), (8 : UInt8), (8 : UInt8),
                                 (8 : UInt8), (8 : UInt8), (8 : UInt8), (8 : UInt8), (8 : UInt8), (8 : UInt8), (8 : UInt8), (8 : UInt8), (8 : UInt8), (8 : UInt8), (8 : UInt8), (8 : UInt8), (8 : UInt8), (8 : UInt8), (8 : UInt8), (8 : UInt8), (8 : UInt8), (8 : UInt8), (8 : UInt8), (8 : UInt8), (8 : UInt8), (8 : UInt8), (8 : UInt8), (8 : UInt8), (8 : UInt8),
                                 (8 : UInt8), (8 : UInt8), (8 : UInt8), (8 : UInt8), (8 : UInt8), (8 : UInt8), (8 : UInt8), (8 : UInt8), (8 : UInt8), (8 : UInt8), (8 : UInt8), (8 : UInt8), (8 : UInt8), (8 : UInt8), (8 : UInt8), (8 : UInt8), (8 : UInt8), (8 : UInt8), (8 : UInt8), (8 : UInt8), (8 : UInt8), (8 : UInt8), (8 : UInt8), (8 : UInt8), (8 : UInt8),
                                 (8 : UInt8), (8 : UInt8), (8 : UInt8), (8 : UInt8), (8 : UInt8)] } }).length :
                         Int)) ∧
                      True ∧
                       True ∧
                        True ∧
                         (false = false ∧ True) ∧
                          D.val
                            (Value.int IntKind.i64
                             (IntKind.i64.wrap
                              (IntKind.i64.wrap ((0 : Int) + (16 : Int)) +
                               IntKind.i64.wrap
                                ((ints
                                   {
                                    data :=
                                     {
                                      toList :=
                                       [(0 : UInt8), (1 : UInt8), (2 : UInt8), (2 : UInt8), (3 : UInt8), (3 : UInt8), (3 : UInt8), (3 : UInt8), (4 : UInt8), (4 : UInt8), (4 : UInt8), (4 : UInt8), (4 : UInt8), (4 : UInt8), (4 : UInt8), (4 : UInt8), (5 : UInt8), (5 : UInt8), (5 : UInt8), (5 : UInt8), (5 : UInt8), (5 : UInt8), (5 : UInt8), (5 : UInt8),
                                        (5 : UInt8), (5 : UInt8), (5 : UInt8), (5 : UInt8), (5 : UInt8), (5 : UInt8), (5 : UInt8), (5 : UInt8), (6 : UInt8), (6 : UInt8), (6 : UInt8), (6 : UInt8), (6 : UInt8), (6 : UInt8), (6 : UInt8), (6 : UInt8), (6 : UInt8), (6 : UInt8), (6 : UInt8), (6 : UInt8), (6 : UInt8), (6 : UInt8), (6 : UInt8), (6 : UInt8),
                                        (6 : UInt8), (6 : UInt8), (6 : UInt8), (6 : UInt8), (6 : UInt8), (6 : UInt8), (6 : UInt8), (6 : UInt8), (6 : UInt8), (6 : UInt8), (6 : UInt8), (6 : UInt8), (6 : UInt8), (6 : UInt8), (6 : UInt8), (6 : UInt8), (7 : UInt8), (7 : UInt8), (7 : UInt8), (7 : UInt8), (7 : UInt8), (7 : UInt8), (7 : UInt8), (7 : UInt8),
                                        (7 : UInt8), (7 : UInt8), (7 : UInt8), (7 : UInt8), (7 : UInt8), (7 : UInt8), (7 : UInt8), (7 : UInt8), (7 : UInt8), (7 : UInt8), (7 : UInt8), (7 : UInt8), (7 : UInt8), (7 : UInt8), (7 : UInt8), (7 : UInt8), (7 : UInt8), (7 : UInt8), (7 : UInt8), (7 : UInt8), (7 : UInt8), (7 : UInt8), (7 : UInt8), (7 : UInt8),
                                        (7 : UInt8), (7 : UInt8), (7 : UInt8), (7 : UInt8), (7 : UInt8), (7 : UInt8), (7 : UInt8), (7 : UInt8), (7 : UInt8), (7 : UInt8), (7 : UInt8), (7 : UInt8), (7 : UInt8), (7 : UInt8), (7 : UInt8), (7 : UInt8), (7 : UInt8), (7 : UInt8), (7 : UInt8), (7 : UInt8), (7 : UInt8), (7 : UInt8), (7 : UInt8), (7 : UInt8),
                                        (7 : UInt8), (7 : UInt8), (7 : UInt8), (7 : UInt8), (7 : UInt8), (7 : UInt8), (7 : UInt8), (7 : UInt8), (8 : UInt8), (8 : UInt8), (8 : UInt8), (8 : UInt8), (8 : UInt8), (8 : UInt8), (8 : UInt8), (8 : UInt8), (8 : UInt8), (8 : UInt8), (8 : UInt8), (8 : UInt8), (8 : UInt8), (8 : UInt8), (8 : UInt8), (8 : UInt8),
                                        (8 : UInt8), (8 : UInt8), (8 : UInt8), (8 : UInt8), (8 : UInt8), (8 : UInt8), (8 : UInt8), (8 : UInt8), (8 : UInt8), (8 : UInt8), (8 : UInt8), (8 : UInt8), (8 : UInt8), (8 : UInt8), (8 : UInt8), (8 : UInt8), (8 : UInt8), (8 : UInt8), (8 : UInt8), (8 : UInt8), (8 : UInt8), (8 : UInt8), (8 : UInt8), (8 : UInt8),
                                        (8 : UInt8), (8 : UInt8), (8 : UInt8), (8 : UInt8), (8 : UInt8), (8 : UInt8), (8 : UInt8), (8 : UInt8), (8 : UInt8), (8 : UInt8), (8 : UInt8), (8 : UInt8), (8 : UInt8), (8 : UInt8), (8 : UInt8), (8 : UInt8), (8 : UInt8), (8 : UInt8), (8 : UInt8), (8 : UInt8), (8 : UInt8), (8 : UInt8), (8 : UInt8), (8 : UInt8),
                                        (8 : UInt8), (8 : UInt8), (8 : UInt8), (8 : UInt8), (8 : UInt8), (8 : UInt8), (8 : UInt8), (8 : UInt8), (8 : UInt8), (8 : UInt8), (8 : UInt8), (8 : UInt8), (8 : UInt8), (8 : UInt8), (8 : UInt8), (8 : UInt8), (8 : UInt8), (8 : UInt8), (8 : UInt8), (8 : UInt8), (8 : UInt8), (8 : UInt8), (8 : UInt8), (8 : UInt8),
                                        (8 : UInt8), (8 : UInt8), (8 : UInt8), (8 : UInt8), (8 : UInt8), (8 : UInt8), (8 : UInt8), (8 : UInt8), (8 : UInt8), (8 : UInt8), (8 : UInt8), (8 : UInt8), (8 : UInt8), (8 : UInt8), (8 : UInt8), (8 : UInt8), (8 : UInt8), (8 : UInt8), (8 : UInt8), (8 : UInt8), (8 : UInt8), (8 : UInt8), (8 : UInt8), (8 : UInt8),
                                        (8 : UInt8), (8 : UInt8), (8 : UInt8), (8 : UInt8), (8 : UInt8), (8 : UInt8), (8 : UInt8), (8 : UInt8), (8 : UInt8), (8 : UInt8), (8 : UInt8), (8 : UInt8), (8 : UInt8), (8 : UInt8), (8 : UInt8), (8 : UInt8)] } }).getD
                                 (IntKind.u8.wrap (ishr IntKind.u64 (↑x : Int) (16 : Int))).toNat (0 : Int))))) =
                           F
        | false =>
         True ∧
          True ∧
           match decide ((↑x : Int) ≥ (256 : Int)) with
           | true =>
            True ∧
             (0 : Int) ≤ (8 : Int) ∧
              True ∧
               True ∧
                True ∧
                 True ∧
                  True ∧
                   True ∧
                    True ∧
                     ((0 : Int) ≤ IntKind.u8.wrap (ishr IntKind.u64 (↑x : Int) (8 : Int)) ∧
                       IntKind.u8.wrap (ishr IntKind.u64 (↑x : Int) (8 : Int)) <
                        (↑(ints
                            {
                             data :=
                              {
                               toList :=
                                [(0 : UInt8), (1 : UInt8), (2 : UInt8), (2 : UInt8), (3 : UInt8), (3 : UInt8), (3 : UInt8), (3 : UInt8), (4 : UInt8), (4 : UInt8), (4 : UInt8), (4 : UInt8), (4 : UInt8), (4 : UInt8), (4 : UInt8), (4 : UInt8), (5 : UInt8), (5 : UInt8), (5 : UInt8), (5 : UInt8), (5 : UInt8), (5 : UInt8), (5 : UInt8), (5 : UInt8), (5 : UInt8), (5 : UInt8),
                                 (5 : UInt8), (5 : UInt8), (5 : UInt8), (5 : UInt8), (5 : UInt8), (5 : UInt8), (6 : UInt8), (6 : UInt8), (6 : UInt8), (6 : UInt8), (6 : UInt8), (6 : UInt8), (6 : UInt8), (6 : UInt8), (6 : UInt8), (6 : UInt8), (6 : UInt8), (6 : UInt8), (6 : UInt8), (6 : UInt8), (6 : UInt8), (6 : UInt8), (6 : UInt8), (6 : UInt8), (6 : UInt8),
                                 (6 : UInt8), (6 : UInt8), (6 : UInt8), (6 : UInt8), (6 : UInt8), (6 : UInt8), (6 : UInt8), (6 : UInt8), (6 : UInt8), (6 : UInt8), (6 : UInt8), (6 : UInt8), (6 : UInt8), (7 : UInt8), (7 : UInt8), (7 : UInt8), (7 : UInt8), (7 : UInt8), (7 : UInt8), (7 : UInt8), (7 : UInt8), (7 : UInt8), (7 : UInt8), (7 : UInt8), (7 : UInt8),
                                 (7 : UInt8), (7 : UInt8), (7 : UInt8), (7 : UInt8), (7 : UInt8), (7 : UInt8), (7 : UInt8), (7 : UInt8), (7 : UInt8), (7 : UInt8), (7 : UInt8), (7 : UInt8), (7 : UInt8), (7 : UInt8), (7 : UInt8), (7 : UInt8), (7 : UInt8), (7 : UInt8), (7 : UInt8), (7 : UInt8), (7 : UInt8), (7 : UInt8), (7 : UInt8), (7 : UInt8), (7 : UInt8),
                                 (7 : UInt8), (7 : UInt8), (7 : UInt8), (7 : UInt8), (7 : UInt8), (7 : UInt8), (7 : UInt8), (7 : UInt8), (7 : UInt8), (7 : UInt8), (7 : UInt8), (7 : UInt8), (7 : UInt8), (7 : UInt8), (7 : UInt8), (7 : UInt8), (7 : UInt8), (7 : UInt8), (7 : UInt8), (7 : UInt8), (7 : UInt8), (7 : UInt8), (7 : UInt8), (7 : UInt8), (7 : UInt8),
                                 (7 : UInt8), (7 : UInt8), (8 : UInt8), (8 : UInt8), (8 : UInt8), (8 : UInt8), (8 : UInt8), (8 : UInt8), (8 : UInt8), (8 : UInt8), (8 : UInt8), (8 : UInt8), (8 : UInt8), (8 : UInt8), (8 : UInt8), (8 : UInt8), (8 : UInt8), (8 : UInt8), (8 : UInt8), (8 : UInt8), (8 : UInt8), (8 : UInt8), (8 : UInt8), (8 : UInt8), (8 : UInt8),
                                 (8 : UInt8), (8 : UInt8), (8 : UInt8), (8 : UInt8), (8 : UInt8), (8 : UInt8), (8 : UInt8), (8 : UInt8), (8 : UInt8), (8 : UInt8), (8 : UInt8), (8 : UInt8), (8 : UInt8), (8 : UInt8), (8 : UInt8), (8 : UInt8), (8 : UInt8), (8 : UInt8), (8 : UInt8), (8 : UInt8), (8 : UInt8), (8 : UInt8), (8 : UInt8), (8 : UInt8), (8 : UInt8),
                                 (8 : UInt8), (8 : UInt8), (8 : UInt8), (8 : UInt8), (8 : UInt8), (8 : UInt8), (8 : UInt8), (8 : UInt8), (8 : UInt8), (8 : UInt8), (8 : UInt8), (8 : UInt8), (8 : UInt8), (8 : UInt8), (8 : UInt8), (8 : UInt8), (8 : UInt8), (8 : UInt8), (8 : UInt8), (8 : UInt8), (8 : UInt8), (8 : UInt8), (8 : UInt8), (8 : UInt8), (8 : UInt8),
                                 (8 : UInt8), (8 : UInt8), (8 : UInt8), (8 : UInt8), (8 : UInt8), (8 : UInt8), (8 : UInt8), (8 : UInt8), (8 : UInt8), (8 : UInt8), (8 : UInt8), (8 : UInt8), (8 : UInt8), (8 : UInt8), (8 : UInt8), (8 : UInt8), (8 : UInt8), (8 : UInt8), (8 : UInt8), (8 : UInt8), (8 : UInt8), (8 : UInt8), (8 : UInt8), (8 : UInt8), (8 : UInt8),
                                 (8 : UInt8), (8 : UInt8), (8 : UInt8), (8 : UInt8), (8 : UInt8), (8 : UInt8), (8 : UInt8), (8 : UInt8), (8 : UInt8), (8 : UInt8), (8 : UInt8), (8 : UInt8), (8 : UInt8), (8 : UInt8), (8 : UInt8), (8 : UInt8), (8 : UInt8), (8 : UInt8), (8 : UInt8), (8 : UInt8), (8 : UInt8), (8 : UInt8), (8 : UInt8), (8 : UInt8), (8 : UInt8),
                                 (8 : UInt8), (8 : UInt8), (8 : UInt8), (8 : UInt8), (8 : UInt8)] } }).length :
                         Int)) ∧
                      True ∧
                       True ∧
                        True ∧
                         (false = false ∧ True) ∧
                          D.val
                            (Value.int IntKind.i64
                             (IntKind.i64.wrap
                              (IntKind.i64.wrap ((0 : Int) + (8 : Int)) +
                               IntKind.i64.wrap
                                ((ints
                                   {
                                    data :=
                                     {
                                      toList :=
                                       [(0 : UInt8), (1 : UInt8), (2 : UInt8), (2 : UInt8), (3 : UInt8), (3 : UInt8), (3 : UInt8), (3 : UInt8), (4 : UInt8), (4 : UInt8), (4 : UInt8), (4 : UInt8), (4 : UInt8), (4 : UInt8), (4 : UInt8), (4 : UInt8), (5 : UInt8), (5 : UInt8), (5 : UInt8), (5 : UInt8), (5 : UInt8), (5 : UInt8), (5 : UInt8), (5 : UInt8),
                                        (5 : UInt8), (5 : UInt8), (5 : UInt8), (5 : UInt8), (5 : UInt8), (5 : UInt8), (5 : UInt8), (5 : UInt8), (6 : UInt8), (6 : UInt8), (6 : UInt8), (6 : UInt8), (6 : UInt8), (6 : UInt8), (6 : UInt8), (6 : UInt8), (6 : UInt8), (6 : UInt8), (6 : UInt8), (6 : UInt8), (6 : UInt8), (6 : UInt8), (6 : UInt8), (6 : UInt8),
                                        (6 : UInt8), (6 : UInt8), (6 : UInt8), (6 : UInt8), (6 : UInt8), (6 : UInt8), (6 : UInt8), (6 : UInt8), (6 : UInt8), (6 : UInt8), (6 : UInt8), (6 : UInt8), (6 : UInt8), (6 : UInt8), (6 : UInt8), (6 : UInt8), (7 : UInt8), (7 : UInt8), (7 : UInt8), (7 : UInt8), (7 : UInt8), (7 : UInt8), (7 : UInt8), (7 : UInt8),
                                        (7 : UInt8), (7 : UInt8), (7 : UInt8), (7 : UInt8), (7 : UInt8), (7 : UInt8), (7 : UInt8), (7 : UInt8), (7 : UInt8), (7 : UInt8), (7 : UInt8), (7 : UInt8), (7 : UInt8), (7 : UInt8), (7 : UInt8), (7 : UInt8), (7 : UInt8), (7 : UInt8), (7 : UInt8), (7 : UInt8), (7 : UInt8), (7 : UInt8), (7 : UInt8), (7 : UInt8),
                                        (7 : UInt8), (7 : UInt8), (7 : UInt8), (7 : UInt8), (7 : UInt8), (7 : UInt8), (7 : UInt8), (7 : UInt8), (7 : UInt8), (7 : UInt8), (7 : UInt8), (7 : UInt8), (7 : UInt8), (7 : UInt8), (7 : UInt8), (7 : UInt8), (7 : UInt8), (7 : UInt8), (7 : UInt8), (7 : UInt8), (7 : UInt8), (7 : UInt8), (7 : UInt8), (7 : UInt8),
                                        (7 : UInt8), (7 : UInt8), (7 : UInt8), (7 : UInt8), (7 : UInt8), (7 : UInt8), (7 : UInt8), (7 : UInt8), (8 : UInt8), (8 : UInt8), (8 : UInt8), (8 : UInt8), (8 : UInt8), (8 : UInt8), (8 : UInt8), (8 : UInt8), (8 : UInt8), (8 : UInt8), (8 : UInt8), (8 : UInt8), (8 : UInt8), (8 : UInt8), (8 : UInt8), (8 : UInt8),
                                        (8 : UInt8), (8 : UInt8), (8 : UInt8), (8 : UInt8), (8 : UInt8), (8 : UInt8), (8 : UInt8), (8 : UInt8), (8 : UInt8), (8 : UInt8), (8 : UInt8), (8 : UInt8), (8 : UInt8), (8 : UInt8), (8 : UInt8), (8 : UInt8), (8 : UInt8), (8 : UInt8), (8 : UInt8), (8 : UInt8), (8 : UInt8), (8 : UInt8), (8 : UInt8), (8 : UInt8),
                                        (8 : UInt8), (8 : UInt8), (8 : UInt8), (8 : UInt8), (8 : UInt8), (8 : UInt8), (8 : UInt8), (8 : UInt8), (8 : UInt8), (8 : UInt8), (8 : UInt8), (8 : UInt8), (8 : UInt8), (8 : UInt8), (8 : UInt8), (8 : UInt8), (8 : UInt8), (8 : UInt8), (8 : UInt8), (8 : UInt8), (8 : UInt8), (8 : UInt8), (8 : UInt8), (8 : UInt8),
                                        (8 : UInt8), (8 : UInt8), (8 : UInt8), (8 : UInt8), (8 : UInt8), (8 : UInt8), (8 : UInt8), (8 : UInt8), (8 : UInt8), (8 : UInt8), (8 : UInt8), (8 : UInt8), (8 : UInt8), (8 : UInt8), (8 : UInt8), (8 : UInt8), (8 : UInt8), (8 : UInt8), (8 : UInt8), (8 : UInt8), (8 : UInt8), (8 : UInt8), (8 : UInt8), (8 : UInt8),
                                        (8 : UInt8), (8 : UInt8), (8 : UInt8), (8 : UInt8), (8 : UInt8), (8 : UInt8), (8 : UInt8), (8 : UInt8), (8 : UInt8), (8 : UInt8), (8 : UInt8), (8 : UInt8), (8 : UInt8), (8 : UInt8), (8 : UInt8), (8 : UInt8), (8 : UInt8), (8 : UInt8), (8 : UInt8), (8 : UInt8), (8 : UInt8), (8 : UInt8), (8 : UInt8), (8 : UInt8),
                                        (8 : UInt8), (8 : UInt8), (8 : UInt8), (8 : UInt8), (8 : UInt8), (8 : UInt8), (8 : UInt8), (8 : UInt8), (8 : UInt8), (8 : UInt8), (8 : UInt8), (8 : UInt8), (8 : UInt8), (8 : UInt8), (8 : UInt8), (8 : UInt8)] } }).getD
                                 (IntKind.u8.wrap (ishr IntKind.u64 (↑x : Int) (8 : Int))).toNat (0 : Int))))) =
                           F
           | false =>
            True ∧
             True ∧
              True ∧
               ((0 : Int) ≤ IntKind.u8.wrap (↑x : Int) ∧
                 IntKind.u8.wrap (↑x : Int) <
                  (↑(ints
                      {
                       data :=
                        {
                         toList :=
                          [(0 : UInt8), (1 : UInt8), (2 : UInt8), (2 : UInt8), (3 : UInt8), (3 : UInt8), (3 : UInt8), (3 : UInt8), (4 : UInt8), (4 : UInt8), (4 : UInt8), (4 : UInt8), (4 : UInt8), (4 : UInt8), (4 : UInt8), (4 : UInt8), (5 : UInt8), (5 : UInt8), (5 : UInt8), (5 : UInt8), (5 : UInt8), (5 : UInt8), (5 : UInt8), (5 : UInt8), (5 : UInt8), (5 : UInt8),
                           (5 : UInt8), (5 : UInt8), (5 : UInt8), (5 : UInt8), (5 : UInt8), (5 : UInt8), (6 : UInt8), (6 : UInt8), (6 : UInt8), (6 : UInt8), (6 : UInt8), (6 : UInt8), (6 : UInt8), (6 : UInt8), (6 : UInt8), (6 : UInt8), (6 : UInt8), (6 : UInt8), (6 : UInt8), (6 : UInt8), (6 : UInt8), (6 : UInt8), (6 : UInt8), (6 : UInt8), (6 : UInt8), (6 : UInt8),
                           (6 : UInt8), (6 : UInt8), (6 : UInt8), (6 : UInt8), (6 : UInt8), (6 : UInt8), (6 : UInt8), (6 : UInt8), (6 : UInt8), (6 : UInt8), (6 : UInt8), (6 : UInt8), (7 : UInt8), (7 : UInt8), (7 : UInt8), (7 : UInt8), (7 : UInt8), (7 : UInt8), (7 : UInt8), (7 : UInt8), (7 : UInt8), (7 : UInt8), (7 : UInt8), (7 : UInt8), (7 : UInt8), (7 : UInt8),
                           (7 : UInt8), (7 : UInt8), (7 : UInt8), (7 : UInt8), (7 : UInt8), (7 : UInt8), (7 : UInt8), (7 : UInt8), (7 : UInt8), (7 : UInt8), (7 : UInt8), (7 : UInt8), (7 : UInt8), (7 : UInt8), (7 : UInt8), (7 : UInt8), (7 : UInt8), (7 : UInt8), (7 : UInt8), (7 : UInt8), (7 : UInt8), (7 : UInt8), (7 : UInt8), (7 : UInt8), (7 : UInt8), (7 : UInt8),
                           (7 : UInt8), (7 : UInt8), (7 : UInt8), (7 : UInt8), (7 : UInt8), (7 : UInt8), (7 : UInt8), (7 : UInt8), (7 : UInt8), (7 : UInt8), (7 : UInt8), (7 : UInt8), (7 : UInt8), (7 : UInt8), (7 : UInt8), (7 : UInt8), (7 : UInt8), (7 : UInt8), (7 : UInt8), (7 : UInt8), (7 : UInt8), (7 : UInt8), (7 : UInt8), (7 : UInt8), (8 : UInt8), (8 : UInt8),
                           (8 : UInt8), (8 : UInt8), (8 : UInt8), (8 : UInt8), (8 : UInt8), (8 : UInt8), (8 : UInt8), (8 : UInt8), (8 : UInt8), (8 : UInt8), (8 : UInt8), (8 : UInt8), (8 : UInt8), (8 : UInt8), (8 : UInt8), (8 : UInt8), (8 : UInt8), (8 : UInt8), (8 : UInt8), (8 : UInt8), (8 : UInt8), (8 : UInt8), (8 : UInt8), (8 : UInt8), (8 : UInt8), (8 : UInt8),
                           (8 : UInt8), (8 : UInt8), (8 : UInt8), (8 : UInt8), (8 : UInt8), (8 : UInt8), (8 : UInt8), (8 : UInt8), (8 : UInt8), (8 : UInt8), (8 : UInt8), (8 : UInt8), (8 : UInt8), (8 : UInt8), (8 : UInt8), (8 : UInt8), (8 : UInt8), (8 : UInt8), (8 : UInt8), (8 : UInt8), (8 : UInt8), (8 : UInt8), (8 : UInt8), (8 : UInt8), (8 : UInt8), (8 : UInt8),
                           (8 : UInt8), (8 : UInt8), (8 : UInt8), (8 : UInt8), (8 : UInt8), (8 : UInt8), (8 : UInt8), (8 : UInt8), (8 : UInt8), (8 : UInt8), (8 : UInt8), (8 : UInt8), (8 : UInt8), (8 : UInt8), (8 : UInt8), (8 : UInt8), (8 : UInt8), (8 : UInt8), (8 : UInt8), (8 : UInt8), (8 : UInt8), (8 : UInt8), (8 : UInt8), (8 : UInt8), (8 : UInt8), (8 : UInt8),
                           (8 : UInt8), (8 : UInt8), (8 : UInt8), (8 : UInt8), (8 : UInt8), (8 : UInt8), (8 : UInt8), (8 : UInt8), (8 : UInt8), (8 : UInt8), (8 : UInt8), (8 : UInt8), (8 : UInt8), (8 : UInt8), (8 : UInt8), (8 : UInt8), (8 : UInt8), (8 : UInt8), (8 : UInt8), (8 : UInt8), (8 : UInt8), (8 : UInt8), (8 : UInt8), (8 : UInt8), (8 : UInt8), (8 : UInt8),
                           (8 : UInt8), (8 : UInt8), (8 : UInt8), (8 : UInt8), (8 : UInt8), (8 : UInt8), (8 : UInt8), (8 : UInt8), (8 : UInt8), (8 : UInt8), (8 : UInt8), (8 : UInt8), (8 : UInt8), (8 : UInt8), (8 : UInt8), (8 : UInt8), (8 : UInt8), (8 : UInt8), (8 : UInt8), (8 : UInt8), (8 : UInt8), (8 : UInt8)] } }).length :
                   Int)) ∧
                True ∧
                 True ∧
                  True ∧
                   (false = false ∧ True) ∧
                    D.val
                      (Value.int IntKind.i64
                       (IntKind.i64.wrap
                        ((0 : Int) +
                         IntKind.i64.wrap
                          ((ints
                             {
                              data :=
                               {
                                toList :=
                                 [(0 : UInt8), (1 : UInt8), (2 : UInt8), (2 : UInt8), (3 : UInt8), (3 : UInt8), (3 : UInt8), (3 : UInt8), (4 : UInt8), (4 : UInt8), (4 : UInt8), (4 : UInt8), (4 : UInt8), (4 : UInt8), (4 : UInt8), (4 : UInt8), (5 : UInt8), (5 : UInt8), (5 : UInt8), (5 : UInt8), (5 : UInt8), (5 : UInt8), (5 : UInt8), (5 : UInt8), (5 : UInt8),
                                  (5 : UInt8), (5 : UInt8), (5 : UInt8), (5 : UInt8), (5 : UInt8), (5 : UInt8), (5 : UInt8), (6 : UInt8), (6 : UInt8), (6 : UInt8), (6 : UInt8), (6 : UInt8), (6 : UInt8), (6 : UInt8), (6 : UInt8), (6 : UInt8), (6 : UInt8), (6 : UInt8), (6 : UInt8), (6 : UInt8), (6 : UInt8), (6 : UInt8), (6 : UInt8), (6 : UInt8), (6 : UInt8),
                                  (6 : UInt8), (6 : UInt8), (6 : UInt8), (6 : UInt8), (6 : UInt8), (6 : UInt8), (6 : UInt8), (6 : UInt8), (6 : UInt8), (6 : UInt8), (6 : UInt8), (6 : UInt8), (6 : UInt8), (6 : UInt8), (7 : UInt8), (7 : UInt8), (7 : UInt8), (7 : UInt8), (7 : UInt8), (7 : UInt8), (7 : UInt8), (7 : UInt8), (7 : UInt8), (7 : UInt8), (7 : UInt8),
                                  (7 : UInt8), (7 : UInt8), (7 : UInt8), (7 : UInt8), (7 : UInt8), (7 : UInt8), (7 : UInt8), (7 : UInt8), (7 : UInt8), (7 : UInt8), (7 : UInt8), (7 : UInt8), (7 : UInt8), (7 : UInt8), (7 : UInt8), (7 : UInt8), (7 : UInt8), (7 : UInt8), (7 : UInt8), (7 : UInt8), (7 : UInt8), (7 : UInt8), (7 : UInt8), (7 : UInt8), (7 : UInt8),
                                  (7 : UInt8), (7 : UInt8), (7 : UInt8), (7 : UInt8), (7 : UInt8), (7 : UInt8), (7 : UInt8), (7 : UInt8), (7 : UInt8), (7 : UInt8), (7 : UInt8), (7 : UInt8), (7 : UInt8), (7 : UInt8), (7 : UInt8), (7 : UInt8), (7 : UInt8), (7 : UInt8), (7 : UInt8), (7 : UInt8), (7 : UInt8), (7 : UInt8), (7 : UInt8), (7 : UInt8), (7 : UInt8),
                                  (7 : UInt8), (7 : UInt8), (7 : UInt8), (8 : UInt8), (8 : UInt8), (8 : UInt8), (8 : UInt8), (8 : UInt8), (8 : UInt8), (8 : UInt8), (8 : UInt8), (8 : UInt8), (8 : UInt8), (8 : UInt8), (8 : UInt8), (8 : UInt8), (8 : UInt8), (8 : UInt8), (8 : UInt8), (8 : UInt8), (8 : UInt8), (8 : UInt8), (8 : UInt8), (8 : UInt8), (8 : UInt8),
                                  (8 : UInt8), (8 : UInt8), (8 : UInt8), (8 : UInt8), (8 : UInt8), (8 : UInt8), (8 : UInt8), (8 : UInt8), (8 : UInt8), (8 : UInt8), (8 : UInt8), (8 : UInt8), (8 : UInt8), (8 : UInt8), (8 : UInt8), (8 : UInt8), (8 : UInt8), (8 : UInt8), (8 : UInt8), (8 : UInt8), (8 : UInt8), (8 : UInt8), (8 : UInt8), (8 : UInt8), (8 : UInt8),
                                  (8 : UInt8), (8 : UInt8), (8 : UInt8), (8 : UInt8), (8 : UInt8), (8 : UInt8), (8 : UInt8), (8 : UInt8), (8 : UInt8), (8 : UInt8), (8 : UInt8), (8 : UInt8), (8 : UInt8), (8 : UInt8), (8 : UInt8), (8 : UInt8), (8 : UInt8), (8 : UInt8), (8 : UInt8), (8 : UInt8), (8 : UInt8), (8 : UInt8), (8 : UInt8), (8 : UInt8), (8 : UInt8),
                                  (8 : UInt8), (8 : UInt8), (8 : UInt8), (8 : UInt8), (8 : UInt8), (8 : UInt8), (8 : UInt8), (8 : UInt8), (8 : UInt8), (8 : UInt8), (8 : UInt8), (8 : UInt8), (8 : UInt8), (8 : UInt8), (8 : UInt8), (8 : UInt8), (8 : UInt8), (8 : UInt8), (8 : UInt8), (8 : UInt8), (8 : UInt8), (8 : UInt8), (8 : UInt8), (8 : UInt8), (8 : UInt8),
                                  (8 : UInt8), (8 : UInt8), (8 : UInt8), (8 : UInt8), (8 : UInt8), (8 : UInt8), (8 : UInt8), (8 : UInt8), (8 : UInt8), (8 : UInt8), (8 : UInt8), (8 : UInt8), (8 : UInt8), (8 : UInt8), (8 : UInt8), (8 : UInt8), (8 : UInt8), (8 : UInt8), (8 : UInt8), (8 : UInt8), (8 : UInt8), (8 : UInt8), (8 : UInt8), (8 : UInt8), (8 : UInt8),
                                  (8 : UInt8), (8 : UInt8), (8 : UInt8), (8 : UInt8), (8 : UInt8), (8 : UInt8)] } }).getD
                           (IntKind.u8.wrap (↑x : Int)).toNat (0 : Int))))) =
                     F) := by kernel_rfl
set_option maxRecDepth 100000 in
theorem vc30  (l : List Int) (F : D)  :
    (owed c30 (inv30 l) Try.f30 [dgs l] F) = (
 True ∧
   True ∧
    True ∧
     True ∧
      True ∧
       True ∧
        (((AV.d (D.val (Value.int IntKind.i64 (IntKind.i64.wrap ((↑l.length : Int) - (1 : Int))))) = AV.d (D.val (Value.int IntKind.i64 (IntKind.i64.wrap ((↑l.length : Int) - (1 : Int))))) ∧ dg (vB (2 : Nat) (List.drop (IntKind.i64.wrap ((↑l.length : Int) - (1 : Int)) + (1 : Int)).toNat l)) = [] ∧ True) ∧ True ∧ true = true) ∧
          (-1 : Int) ≤ IntKind.i64.wrap ((↑l.length : Int) - (1 : Int)) ∧ IntKind.i64.wrap ((↑l.length : Int) - (1 : Int)) < (↑l.length : Int)) ∧
         ∀ (x : Int),
          (-1 : Int) ≤ x ∧ x < (↑l.length : Int) →
           true = true ∧
            True ∧
             True ∧
              match decide (x ≥ (0 : Int)) with
              | true =>
               True ∧
                True ∧
                 (∃ (l_1 : List Int), ∃ (m : List Int), [D.ints IntKind.i64 (dg (vB (2 : Nat) (List.drop (x + (1 : Int)).toNat l))), D.ints IntKind.i64 (dg (vB (2 : Nat) (List.drop (x + (1 : Int)).toNat l)))] = [D.ints IntKind.i64 l_1, D.ints IntKind.i64 m] ∧ (okd l_1 ∧ lenS l_1) ∧ okd m ∧ lenS m) ∧
                  True ∧
                   True ∧
                    ((0 : Int) ≤ x ∧ x < (↑l.length : Int) ∧ (1 : Nat) = (1 : Nat)) ∧
                     ((1 : Nat) ≠ (0 : Nat) ∧ (1 : Nat) = (1 : Nat) ∧ false = false) ∧
                      ((1 : Nat) = (1 : Nat) ∧ (1 : Nat) ≤ (4096 : Nat)) ∧
                       (∃ (l_1 : List Int), ∃ (m : List Int), [D.ints IntKind.i64 (dg (vB (65536 : Nat) (dg (vB (2 : Nat) (List.drop (x + (1 : Int)).toNat l))) + vB (65536 : Nat) (dg (vB (2 : Nat) (List.drop (x + (1 : Int)).toNat l))))), D.ints IntKind.i64 [l.getD x.toNat (0 : Int)]] = [D.ints IntKind.i64 l_1, D.ints IntKind.i64 m] ∧ (okd l_1 ∧ lenS l_1) ∧ okd m ∧ lenS m) ∧
                        True ∧
                         True ∧
                          True ∧
                           True ∧
                            ((AV.d (D.val (Value.int IntKind.i64 (IntKind.i64.wrap (x - (1 : Int))))) = AV.d (D.val (Value.int IntKind.i64 (IntKind.i64.wrap (x - (1 : Int))))) ∧
                               AV.d (D.ints IntKind.i64 (dg (vB (65536 : Nat) (dg (vB (65536 : Nat) (dg (vB (2 : Nat) (List.drop (x + (1 : Int)).toNat l))) + vB (65536 : Nat) (dg (vB (2 : Nat) (List.drop (x + (1 : Int)).toNat l))))) + vB (65536 : Nat) [l.getD x.toNat (0 : Int)]))) =
                                 AV.d (D.ints IntKind.i64 (dg (vB (2 : Nat) (List.drop (IntKind.i64.wrap (x - (1 : Int)) + (1 : Int)).toNat l)))) ∧
                                True) ∧
                              True ∧ true = true) ∧
                             ((-1 : Int) ≤ IntKind.i64.wrap (x - (1 : Int)) ∧ IntKind.i64.wrap (x - (1 : Int)) < (↑l.length : Int)) ∧ (IntKind.i64.wrap (x - (1 : Int)) + (1 : Int)).toNat < (x + (1 : Int)).toNat
              | false => True ∧ True ∧ (false = false ∧ True) ∧ D.ints IntKind.i64 (dg (vB (2 : Nat) (List.drop (x + (1 : Int)).toNat l))) = F) := by kernel_rfl
set_option maxRecDepth 100000 in
theorem vc31  (c : Nat) (l m : List Int) (F : D)  :
    (owed c40 (inv31 c l m) Try.f31 [u64n c, num4 l, num4 m] F) = (
 (True ∧ false = false) ∧
   (True ∧ false = false) ∧
    (True ∧ (4 : Nat) ≠ (0 : Nat)) ∧
     True ∧
      True ∧
       True ∧
        True ∧
         True ∧
          (((AV.d (D.val (Value.int IntKind.i64 (0 : Int))) = AV.d (D.val (Value.int IntKind.i64 (↑(Int.toNat (0 : Int)) : Int))) ∧ True) ∧
             (some (Blk.fix (D.arr IntKind.u64 (4 : Nat) l)) = some (Blk.fix (D.arr IntKind.u64 (4 : Nat) (pkI c l m (Int.toNat (0 : Int))))) ∧
               some (Blk.fix (D.arr IntKind.u64 (4 : Nat) m)) = some (Blk.fix (D.arr IntKind.u64 (4 : Nat) m)) ∧ some (Blk.fix (D.arr IntKind.u64 (4 : Nat) [(0 : Int), (0 : Int), (0 : Int), (0 : Int)])) = some (Blk.fix (D.arr IntKind.u64 (4 : Nat) [(0 : Int), (0 : Int), (0 : Int), (0 : Int)])) ∧ True) ∧
              true = true) ∧
            Int.toNat (0 : Int) ≤ (4 : Nat)) ∧
           ∀ (x : Nat),
            x ≤ (4 : Nat) →
             true = true ∧
              True ∧
               match decide ((↑x : Int) < (4 : Int)) with
               | true =>
                True ∧
                 True ∧
                  True ∧
                   ((0 : Int) ≤ (↑x : Int) ∧ (↑x : Int) < (↑(4 : Nat) : Int) ∧ (4 : Nat) = (4 : Nat) ∧ (1 : Nat) = (1 : Nat)) ∧
                    ((1 : Nat) ≠ (0 : Nat) ∧ (1 : Nat) = (1 : Nat) ∧ false = false) ∧
                     True ∧
                      True ∧
                       ((0 : Int) ≤ (↑x : Int) ∧ (↑x : Int) < (↑(4 : Nat) : Int) ∧ (4 : Nat) = (4 : Nat) ∧ (1 : Nat) = (1 : Nat)) ∧
                        ((1 : Nat) ≠ (0 : Nat) ∧ (1 : Nat) = (1 : Nat) ∧ false = false) ∧
                         True ∧
                          ((0 : Int) ≤ (↑x : Int) ∧ (↑x : Int) < (↑(4 : Nat) : Int) ∧ (4 : Nat) = (4 : Nat) ∧ (1 : Nat) = (1 : Nat)) ∧
                           ((1 : Nat) ≠ (0 : Nat) ∧ (1 : Nat) = (1 : Nat) ∧ false = false) ∧
                            True ∧
                             True ∧
                              True ∧
                               ((0 : Int) ≤ (↑x : Int) ∧ (↑x : Int) < (↑(4 : Nat) : Int) ∧ (4 : Nat) = (4 : Nat) ∧ (1 : Nat) = (1 : Nat)) ∧
                                (((↑x : Int).toNat < (4 : Nat) ∧ ([] : List Nat) = [] ∧ true = true) ∧ (1 : Nat) ≠ (0 : Nat) ∧ (1 : Nat) = (1 : Nat) ∧ false = false) ∧
                                 True ∧
                                  True ∧
                                   ((AV.d (D.val (Value.int IntKind.i64 (IntKind.i64.wrap ((↑x : Int) + (1 : Int))))) = AV.d (D.val (Value.int IntKind.i64 (↑(IntKind.i64.wrap ((↑x : Int) + (1 : Int))).toNat : Int))) ∧ True) ∧
                                     (some
                                         (Blk.fix
                                          (D.arr IntKind.u64 (4 : Nat)
                                           ((pkI c l m x).set (↑x : Int).toNat (ixor IntKind.u64 ((pkI c l m x).getD (↑x : Int).toNat (0 : Int)) (iand IntKind.u64 (IntKind.u64.wrap ((0 : Int) - iand IntKind.u64 (↑c : Int) (1 : Int))) (ixor IntKind.u64 ((pkI c l m x).getD (↑x : Int).toNat (0 : Int)) (m.getD (↑x : Int).toNat (0 : Int)))))))) =
                                        some (Blk.fix (D.arr IntKind.u64 (4 : Nat) (pkI c l m (IntKind.i64.wrap ((↑x : Int) + (1 : Int))).toNat))) ∧
                                       some (Blk.fix (D.arr IntKind.u64 (4 : Nat) m)) = some (Blk.fix (D.arr IntKind.u64 (4 : Nat) m)) ∧ some (Blk.fix (D.arr IntKind.u64 (4 : Nat) [(0 : Int), (0 : Int), (0 : Int), (0 : Int)])) = some (Blk.fix (D.arr IntKind.u64 (4 : Nat) [(0 : Int), (0 : Int), (0 : Int), (0 : Int)])) ∧ True) ∧
                                      true = true) ∧
                                    (IntKind.i64.wrap ((↑x : Int) + (1 : Int))).toNat ≤ (4 : Nat) ∧ (4 : Nat) - (IntKind.i64.wrap ((↑x : Int) + (1 : Int))).toNat < (4 : Nat) - x
               | false => ((4 : Nat) ≠ (0 : Nat) ∧ (4 : Nat) = (4 : Nat) ∧ true = true) ∧ (Sk.arr (4 : Nat) = Sk.arr (4 : Nat) ∧ (4 : Nat) ≠ (0 : Nat) ∧ (4 : Nat) = (4 : Nat) ∧ false = false) ∧ (((4 : Nat) ≠ (0 : Nat) ∧ (4 : Nat) = (4 : Nat) ∧ true = true) ∧ True) ∧ D.arr IntKind.u64 (4 : Nat) (pkI c l m x) = F) := by kernel_rfl

end Go.Proofs.Ytfbfblhlnhnonaa
/- The numbers of package limb: Bit, Len and Pick; the document's OfBits: the proofs. -/
namespace Go.Proofs.Ytfbfblhlnhnonaa
open Go Go.Vg

theorem bl2_log {x n : Nat} (h1 : 2 ^ n ≤ x) (h2 : x < 2 ^ (n + 1)) : bl2 x = n + 1 := by
  have h0 : x ≠ 0 := by have := Nat.two_pow_pos n; omega
  unfold bl2
  rw [if_neg h0, (Nat.log2_eq_iff h0).2 ⟨h1, h2⟩]
theorem bl2_up {lo y k : Nat} (hlo : lo < 2 ^ k) (hy : y ≠ 0) : bl2 (lo + 2 ^ k * y) = k + bl2 y := by
  have h1 := Nat.log2_self_le hy
  have h2 := Nat.lt_log2_self (n := y)
  have e : bl2 y = Nat.log2 y + 1 := if_neg hy
  rw [e, ← Nat.add_assoc]
  apply bl2_log
  · rw [Nat.pow_add]
    have := Nat.mul_le_mul_left (2 ^ k) h1
    omega
  · rw [Nat.add_assoc, Nat.pow_add]
    have := Nat.mul_le_mul_left (2 ^ k) (show y + 1 ≤ 2 ^ (Nat.log2 y + 1) from h2)
    rw [Nat.mul_add, Nat.mul_one] at this
    omega
theorem bl2_div {x k : Nat} (h : 2 ^ k ≤ x) : bl2 x = k + bl2 (x / 2 ^ k) := by
  have hp : 0 < 2 ^ k := Nat.two_pow_pos k
  have h1 : x / 2 ^ k ≠ 0 := by
    have := Nat.div_pos h hp
    omega
  have h2 := bl2_up (Nat.mod_lt x hp) h1
  rw [Nat.mod_add_div] at h2
  exact h2
def lenTab : List Int := (List.range 256).map fun n => (bl2 n : Int)
theorem tab_eq : ints { data := { toList := [(0 : UInt8), (1 : UInt8), (2 : UInt8), (2 : UInt8), (3 : UInt8), (3 : UInt8), (3 : UInt8), (3 : UInt8), (4 : UInt8), (4 : UInt8), (4 : UInt8), (4 : UInt8), (4 : UInt8), (4 : UInt8), (4 : UInt8), (4 : UInt8), (5 : UInt8), (5 : UInt8), (5 : UInt8), (5 : UInt8), (5 : UInt8), (5 : UInt8), (5 : UInt8), (5 : UInt8), (5 : UInt8), (5 : UInt8), (5 : UInt8), (5 : UInt8), (5 : UInt8), (5 : UInt8), (5 : UInt8), (5 : UInt8), (6 : UInt8), (6 : UInt8), (6 : UInt8), (6 : UInt8), (6 : UInt8), (6 : UInt8), (6 : UInt8), (6 : UInt8), (6 : UInt8), (6 : UInt8), (6 : UInt8), (6 : UInt8), (6 : UInt8), (6 : UInt8), (6 : UInt8), (6 : UInt8), (6 : UInt8), (6 : UInt8), (6 : UInt8), (6 : UInt8), (6 : UInt8), (6 : UInt8), (6 : UInt8), (6 : UInt8), (6 : UInt8), (6 : UInt8), (6 : UInt8), (6 : UInt8), (6 : UInt8), (6 : UInt8), (6 : UInt8), (6 : UInt8), (7 : UInt8), (7 : UInt8), (7 : UInt8), (7 : UInt8), (7 : UInt8), (7 : UInt8), (7 : UInt8), (7 : UInt8), (7 : UInt8), (7 : UInt8), (7 : UInt8), (7 : UInt8), (7 : UInt8), (7 : UInt8), (7 : UInt8), (7 : UInt8), (7 : UInt8), (7 : UInt8), (7 : UInt8), (7 : UInt8), (7 : UInt8), (7 : UInt8), (7 : UInt8), (7 : UInt8), (7 : UInt8), (7 : UInt8), (7 : UInt8), (7 : UInt8), (7 : UInt8), (7 : UInt8), (7 : UInt8), (7 : UInt8), (7 : UInt8), (7 : UInt8), (7 : UInt8), (7 : UInt8), (7 : UInt8), (7 : UInt8), (7 : UInt8), (7 : UInt8), (7 : UInt8), (7 : UInt8), (7 : UInt8), (7 : UInt8), (7 : UInt8), (7 : UInt8), (7 : UInt8), (7 : UInt8), (7 : UInt8), (7 : UInt8), (7 : UInt8), (7 : UInt8), (7 : UInt8), (7 : UInt8), (7 : UInt8), (7 : UInt8), (7 : UInt8), (7 : UInt8), (7 : UInt8), (7 : UInt8), (7 : UInt8), (7 : UInt8), (7 : UInt8), (7 : UInt8), (8 : UInt8), (8 : UInt8), (8 : UInt8), (8 : UInt8), (8 : UInt8), (8 : UInt8), (8 : UInt8), (8 : UInt8), (8 : UInt8), (8 : UInt8), (8 : UInt8), (8 : UInt8), (8 : UInt8), (8 : UInt8), (8 : UInt8), (8 : UInt8), (8 : UInt8), (8 : UInt8), (8 : UInt8), (8 : UInt8), (8 : UInt8), (8 : UInt8), (8 : UInt8), (8 : UInt8), (8 : UInt8), (8 : UInt8), (8 : UInt8), (8 : UInt8), (8 : UInt8), (8 : UInt8), (8 : UInt8), (8 : UInt8), (8 : UInt8), (8 : UInt8), (8 : UInt8), (8 : UInt8), (8 : UInt8), (8 : UInt8), (8 : UInt8), (8 : UInt8), (8 : UInt8), (8 : UInt8), (8 : UInt8), (8 : UInt8), (8 : UInt8), (8 : UInt8), (8 : UInt8), (8 : UInt8), (8 : UInt8), (8 : UInt8), (8 : UInt8), (8 : UInt8), (8 : UInt8), (8 : UInt8), (8 : UInt8), (8 : UInt8), (8 : UInt8), (8 : UInt8), (8 : UInt8), (8 : UInt8), (8 : UInt8), (8 : UInt8), (8 : UInt8), (8 : UInt8), (8 : UInt8), (8 : UInt8), (8 : UInt8), (8 : UInt8), (8 : UInt8), (8 : UInt8), (8 : UInt8), (8 : UInt8), (8 : UInt8), (8 : UInt8), (8 : UInt8), (8 : UInt8), (8 : UInt8), (8 : UInt8), (8 : UInt8), (8 : UInt8), (8 : UInt8), (8 : UInt8), (8 : UInt8), (8 : UInt8), (8 : UInt8), (8 : UInt8), (8 : UInt8), (8 : UInt8), (8 : UInt8), (8 : UInt8), (8 : UInt8), (8 : UInt8), (8 : UInt8), (8 : UInt8), (8 : UInt8), (8 : UInt8), (8 : UInt8), (8 : UInt8), (8 : UInt8), (8 : UInt8), (8 : UInt8), (8 : UInt8), (8 : UInt8), (8 : UInt8), (8 : UInt8), (8 : UInt8), (8 : UInt8), (8 : UInt8), (8 : UInt8), (8 : UInt8), (8 : UInt8), (8 : UInt8), (8 : UInt8), (8 : UInt8), (8 : UInt8), (8 : UInt8), (8 : UInt8), (8 : UInt8), (8 : UInt8), (8 : UInt8), (8 : UInt8), (8 : UInt8), (8 : UInt8), (8 : UInt8), (8 : UInt8), (8 : UInt8), (8 : UInt8), (8 : UInt8)] } } = lenTab := by decide +kernel
theorem tab_get {y : Nat} (h : y < 256) : lenTab.getD y 0 = ((bl2 y : Nat) : Int) := by
  unfold lenTab
  rw [List.getD_eq_getElem?_getD, List.getElem?_map, List.getElem?_range h]
  rfl
theorem bl2_small {y : Nat} (h : y < 256) : bl2 y ≤ 8 := by
  unfold bl2
  split
  · omega
  · have := (Nat.log2_lt (k := 8) (by omega)).2 h
    omega
theorem leaf {y : Nat} (h : y < 256) (n : Int) (h0 : 0 ≤ n) (h1 : n ≤ 56) : (0 ≤ IntKind.u8.wrap (y : Int) ∧ IntKind.u8.wrap (y : Int) < (lenTab.length : Int)) ∧
    IntKind.i64.wrap (n + IntKind.i64.wrap (lenTab.getD (IntKind.u8.wrap (y : Int)).toNat 0)) = n + ((bl2 y : Nat) : Int) := by
  have hl : lenTab.length = 256 := by unfold lenTab; rw [List.length_map, List.length_range]
  have hs := bl2_small h
  rw [wN8, Nat.mod_eq_of_lt h, Int.toNat_natCast, tab_get h, hl, wi (n := ((bl2 y : Nat) : Int)) (by omega) (by omega), wi (by omega) (by omega)]
  omega
theorem i64e {a b : Int} (h : a = b) : D.val (Value.int .i64 a) = D.val (Value.int .i64 b) := by rw [h]

set_option maxRecDepth 100000 in
theorem m49 : Meets Try.prog 49 sp49 := by
  refine meets_of_owed (C := c40) ⟨tab_ok, fun f s h => by cases h⟩ (by kernel_rfl) (by kernel_rfl : Try.prog.funcs[49]? = some Try.f49) (by kernel_rfl) (by kernel_rfl) (by kernel_rfl) _ ?_
  rintro _ ⟨x, rfl, hx⟩
  refine ⟨fun _ => rfl, fun _ => none, ?_⟩
  show owed c40 (fun _ => none) Try.f49 [u64n x] (i64n (bl2 x))
  rw [vc49]
  have hx : x < 18446744073709551616 := hx
  have s32 : ∀ y : Nat, ishr .u64 (y : Int) 32 = ((y / 4294967296 : Nat) : Int) := fun y => ishrN .u64 (a := y) (m := 32) (by decide)
  have s16 : ∀ y : Nat, ishr .u64 (y : Int) 16 = ((y / 65536 : Nat) : Int) := fun y => ishrN .u64 (a := y) (m := 16) (by decide)
  have s8 : ∀ y : Nat, ishr .u64 (y : Int) 8 = ((y / 256 : Nat) : Int) := fun y => ishrN .u64 (a := y) (m := 8) (by decide)
  have c1 : IntKind.i64.wrap (32 + 16) = 48 := by decide
  have c2 : IntKind.i64.wrap (48 + 8) = 56 := by decide
  have c3 : IntKind.i64.wrap (32 + 8) = 40 := by decide
  have c4 : IntKind.i64.wrap (0 + 16) = 16 := by decide
  have c5 : IntKind.i64.wrap (16 + 8) = 24 := by decide
  have c6 : IntKind.i64.wrap (0 + 8) = 8 := by decide
  have d32 : ∀ {y : Nat}, 4294967296 ≤ y → bl2 y = 32 + bl2 (y / 4294967296) := fun {y} h => bl2_div (k := 32) h
  have d16 : ∀ {y : Nat}, 65536 ≤ y → bl2 y = 16 + bl2 (y / 65536) := fun {y} h => bl2_div (k := 16) h
  have d8 : ∀ {y : Nat}, 256 ≤ y → bl2 y = 8 + bl2 (y / 256) := fun {y} h => bl2_div (k := 8) h
  simp (decide := true) only [tab_eq, s32, s16, s8, c1, c2, c3, c4, c5, c6, eq_self, true_and, and_true, ne_eq, not_false_eq_true]
  split
  · rename_i h1
    have h1 : 4294967296 ≤ x := by have := of_decide_eq_true h1; omega
    rw [d32 h1]
    split
    · rename_i h2
      have h2 : 65536 ≤ x / 4294967296 := by have := of_decide_eq_true h2; omega
      rw [d16 h2]
      split
      · rename_i h3
        have h3 : 256 ≤ x / 4294967296 / 65536 := by have := of_decide_eq_true h3; omega
        rw [d8 h3]
        obtain ⟨l1, l2⟩ := leaf (y := x / 4294967296 / 65536 / 256) (by omega) 56 (by omega) (by omega)
        exact ⟨l1, i64e (by rw [l2]; omega)⟩
      · rename_i h3
        have h3 := of_decide_eq_false h3
        obtain ⟨l1, l2⟩ := leaf (y := x / 4294967296 / 65536) (by omega) 48 (by omega) (by omega)
        exact ⟨l1, i64e (by rw [l2]; omega)⟩
    · rename_i h2
      have h2 := of_decide_eq_false h2
      split
      · rename_i h3
        have h3 : 256 ≤ x / 4294967296 := by have := of_decide_eq_true h3; omega
        rw [d8 h3]
        obtain ⟨l1, l2⟩ := leaf (y := x / 4294967296 / 256) (by omega) 40 (by omega) (by omega)
        exact ⟨l1, i64e (by rw [l2]; omega)⟩
      · rename_i h3
        have h3 := of_decide_eq_false h3
        obtain ⟨l1, l2⟩ := leaf (y := x / 4294967296) (by omega) 32 (by omega) (by omega)
        exact ⟨l1, i64e (by rw [l2]; omega)⟩
  · rename_i h1
    have h1 := of_decide_eq_false h1
    split
    · rename_i h2
      have h2 : 65536 ≤ x := by have := of_decide_eq_true h2; omega
      rw [d16 h2]
      split
      · rename_i h3
        have h3 : 256 ≤ x / 65536 := by have := of_decide_eq_true h3; omega
        rw [d8 h3]
        obtain ⟨l1, l2⟩ := leaf (y := x / 65536 / 256) (by omega) 24 (by omega) (by omega)
        exact ⟨l1, i64e (by rw [l2]; omega)⟩
      · rename_i h3
        have h3 := of_decide_eq_false h3
        obtain ⟨l1, l2⟩ := leaf (y := x / 65536) (by omega) 16 (by omega) (by omega)
        exact ⟨l1, i64e (by rw [l2]; omega)⟩
    · rename_i h2
      have h2 := of_decide_eq_false h2
      split
      · rename_i h3
        have h3 : 256 ≤ x := by have := of_decide_eq_true h3; omega
        rw [d8 h3]
        obtain ⟨l1, l2⟩ := leaf (y := x / 256) (by omega) 8 (by omega) (by omega)
        exact ⟨l1, i64e (by rw [l2]; omega)⟩
      · rename_i h3
        have h3 := of_decide_eq_false h3
        obtain ⟨l1, l2⟩ := leaf (y := x) (by omega) 0 (by omega) (by omega)
        exact ⟨l1, i64e (by rw [l2]; omega)⟩

set_option maxRecDepth 100000 in
theorem m27 : Meets Try.prog 27 sp27 := by
  refine meets_of_owed (C := c40) ⟨tab_ok, fun f s h => by cases h⟩ (by kernel_rfl) (by kernel_rfl : Try.prog.funcs[27]? = some Try.f27) (by kernel_rfl) (by kernel_rfl) (by kernel_rfl) _ ?_
  rintro _ ⟨l, i, rfl, hl, hi1, hi2⟩
  refine ⟨fun _ => rfl, fun _ => none, ?_⟩
  show owed c40 (fun _ => none) Try.f27 [num4 l, i64 i] (u64n (bitN (wv l) i))
  rw [vc27]
  simp (decide := true) only [eq_self, true_and, and_true, ne_eq, not_false_eq_true]
  split
  · rename_i h
    have h := of_decide_eq_true h
    rw [show bitN (wv l) i = 0 from if_neg (by omega)]
    rfl
  · rename_i h
    have h := of_decide_eq_false h
    split
    · rename_i h2
      have h2 := of_decide_eq_true h2
      rw [show bitN (wv l) i = 0 from if_neg (by omega)]
      rfl
    · rename_i h2
      have h2 := of_decide_eq_false h2
      obtain ⟨n, rfl⟩ := Int.eq_ofNat_of_zero_le (a := i) (by omega)
      have e : bitN (wv l) (n : Int) = wv l / 2 ^ n % 2 := by
        unfold bitN
        rw [if_pos ⟨by omega, by omega⟩, Int.toNat_natCast]
      have d1 : ((n : Nat) : Int).tdiv 64 = ((n / 64 : Nat) : Int) := tdivN _ 64
      have d2 : ((n : Nat) : Int).tmod 64 = ((n % 64 : Nat) : Int) := tmodN _ 64
      rw [e, d1, d2, wi (n := ((n / 64 : Nat) : Int)) (by omega) (by omega), wB (n := n % 64) (by omega), Int.toNat_natCast]
      have hg := vB_get (b := 18446744073709551616) hl.1 (i := n / 64) (by rw [hl.2]; omega)
      rw [hg, ishrN .u64 (m := n % 64) (show n % 64 ≤ 64 by omega)]
      have hs := sub_at 2 64 (wv l) n (by decide)
      have hB : (2 : Nat) ^ 64 = 18446744073709551616 := rfl
      rw [hB] at hs
      have hw : wv l / 18446744073709551616 ^ (n / 64) % 18446744073709551616 / 2 ^ (n % 64) < 18446744073709551616 := Nat.lt_of_le_of_lt (Nat.div_le_self _ _) (Nat.mod_lt _ (by decide))
      have ha : iand .u64 ((wv l / 18446744073709551616 ^ (n / 64) % 18446744073709551616 / 2 ^ (n % 64) : Nat) : Int) 1 = ((wv l / 18446744073709551616 ^ (n / 64) % 18446744073709551616 / 2 ^ (n % 64) % 2 : Nat) : Int) := by
        rw [show (1 : Int) = ((1 : Nat) : Int) from rfl, iandN .u64 (show _ < 18446744073709551616 from hw) (show 1 < 18446744073709551616 by decide), Nat.and_one_is_mod]
      rw [ha, hs]
      and_intros <;> first | rfl | omega

set_option maxRecDepth 100000 in
theorem m28 : Meets Try.prog 28 sp28 := by
  refine meets_of_owed (C := c28) ⟨tab_ok, lkS_ok ⟨m49, trivial⟩⟩ (by kernel_rfl) (by kernel_rfl : Try.prog.funcs[28]? = some Try.f28) (by kernel_rfl) (by kernel_rfl) (by kernel_rfl) _ ?_
  rintro _ ⟨l, rfl, hl⟩
  refine ⟨fun _ => rfl, inv28 l, ?_⟩
  show owed c28 (inv28 l) Try.f28 [num4 l] (i64n (bl2 (wv l)))
  rw [vc28]
  have hl4 := hl.2
  have h4 : List.drop (Int.toNat (3 + 1)) l = [] := List.drop_of_length_le (by rw [hl4]; decide)
  rw [h4]
  simp (decide := true) only [eq_self, true_and, and_true, ne_eq, not_false_eq_true]
  rintro i ⟨⟨hi1, hi2⟩, hz⟩
  split
  · rename_i h
    have h := of_decide_eq_true h
    obtain ⟨n, rfl⟩ := Int.eq_ofNat_of_zero_le (a := i) (by omega)
    have e1 : (((n : Nat) : Int) + 1).toNat = n + 1 := by omega
    rw [e1] at hz
    obtain ⟨x, ex, hx⟩ := okw_get hl.1 (i := n) (by omega)
    obtain ⟨A, hA, hV⟩ := vB_cut hl.1 (i := n) (by omega) ex
    rw [hz, Nat.mul_zero, Nat.add_zero] at hV
    rw [Int.toNat_natCast, ex]
    split
    · rename_i h2
      have h2 : x ≠ 0 := by
        rintro rfl
        cases h2
      have hb := bl2_up (lo := A) (y := x) (k := 64 * n) (by rw [← B_pow]; exact hA) h2
      rw [← B_pow, ← hV] at hb
      have hx2 : bl2 x ≤ 64 := by
        have := (Nat.log2_lt (n := x) (k := 64) h2).2 hx
        unfold bl2
        rw [if_neg h2]
        omega
      rw [Int.toNat_natCast, hb, wi (n := 64 * ((n : Nat) : Int)) (by omega) (by omega), wi (by omega) (by omega)]
      refine ⟨by omega, by omega, ⟨x, rfl, hx⟩, i64e (by omega)⟩
    · rename_i h2
      have h2 : x = 0 := by
        have := bne_eq_false_iff_eq.1 h2
        omega
      subst h2
      have e2 : IntKind.i64.wrap (((n : Nat) : Int) - 1) = ((n : Nat) : Int) - 1 := wi (by omega) (by omega)
      have e3 : (((n : Nat) : Int) - 1 + 1).toNat = n := by omega
      rw [e2, e3, e1]
      have hz2 : vB 18446744073709551616 (l.drop n) = 0 := by
        rw [vB_dropS 18446744073709551616 n (by omega), hz, ex]
        rfl
      refine ⟨by omega, ⟨⟨by omega, by omega⟩, hz2⟩, by omega⟩
  · rename_i h
    have h := of_decide_eq_false h
    obtain rfl : i = -1 := by omega
    have hz : wv l = 0 := hz
    rw [hz]
    rfl

theorem bits_lt {l : List Int} (h : isBits l) : vB 2 l < 2 ^ 256 := by
  have := vB_lt (b := 2) h.1
  exact Nat.lt_of_lt_of_le this (Nat.pow_le_pow_right (by decide) h.2)
theorem bits_drop {l : List Int} (h : isBits l) (n : Nat) : isBits (l.drop n) := ⟨fun x hx => h.1 x (List.mem_of_mem_drop hx), by rw [List.length_drop]; have := h.2; omega⟩
theorem len_256 {n : Nat} (h : n < 2 * 2 ^ 256) : lenS (dg n) ∧ lenOk (dg n) := len_ok (k := 17) (Nat.lt_trans h (by decide)) (by decide)

set_option maxRecDepth 100000 in
theorem m30 : Meets Try.prog 30 sp30 := by
  refine meets_of_owed (C := c30) ⟨tab_ok, lkS_ok ⟨m15, trivial⟩⟩ (by kernel_rfl) (by kernel_rfl : Try.prog.funcs[30]? = some Try.f30) (by kernel_rfl) (by kernel_rfl) (by kernel_rfl) _ ?_
  rintro _ ⟨l, rfl, hl⟩
  refine ⟨(fun h => by cases h), inv30 l, ?_⟩
  show owed c30 (inv30 l) Try.f30 [dgs l] (dgs (dg (vB 2 l)))
  rw [vc30]
  have hn := hl.2
  have e0 : IntKind.i64.wrap ((l.length : Int) - 1) = (l.length : Int) - 1 := wi (by omega) (by omega)
  have ed : l.drop ((l.length : Int) - 1 + 1).toNat = [] := List.drop_of_length_le (by omega)
  rw [e0, ed]
  simp (decide := true) only [vl_dg, eq_self, true_and, and_true, ne_eq, not_false_eq_true]
  refine ⟨by first | omega | (and_intros <;> first | omega | rfl), ?_⟩
  rintro i ⟨hi1, hi2⟩
  split
  · rename_i h
    have h := of_decide_eq_true h
    obtain ⟨n, rfl⟩ := Int.eq_ofNat_of_zero_le (a := i) (by omega)
    have e1 : (((n : Nat) : Int) + 1).toNat = n + 1 := by omega
    have e2 : IntKind.i64.wrap (((n : Nat) : Int) - 1) = ((n : Nat) : Int) - 1 := wi (by omega) (by omega)
    have e3 : (((n : Nat) : Int) - 1 + 1).toNat = n := by omega
    have hb := bits_lt (bits_drop hl (n + 1))
    have hm := hl.1 _ (getD_mem (l := l) (n := n) (by omega))
    have hs := vB_dropS 2 (l := l) n (by omega)
    rw [e1, e2, e3, Int.toNat_natCast]
    obtain ⟨b, eb⟩ := Int.eq_ofNat_of_zero_le hm.1
    have e4 : vB 65536 [l.getD n 0] = (l.getD n 0).toNat := by simp [vB]
    rw [e4, eb, Int.toNat_natCast]
    rw [eb, Int.toNat_natCast] at hs
    have o1 : okd [((b : Nat) : Int)] ∧ lenS [((b : Nat) : Int)] := ⟨fun x hx => by rw [List.mem_singleton.1 hx]; omega, by unfold lenS; simp⟩
    have l1 := len_256 (n := vB 2 (l.drop (n + 1))) (by omega)
    have l2 := len_256 (n := vB 2 (l.drop (n + 1)) + vB 2 (l.drop (n + 1))) (by omega)
    refine ⟨⟨_, _, rfl, ⟨dg_ok _, l1.1⟩, dg_ok _, l1.1⟩, by omega, ⟨_, _, rfl, ⟨dg_ok _, l2.1⟩, o1.1, o1.2⟩, ?_, by omega, by omega⟩
    rw [hs, show vB 2 (l.drop (n + 1)) + vB 2 (l.drop (n + 1)) + b = b + 2 * vB 2 (l.drop (n + 1)) by omega]
  · rename_i h
    have h := of_decide_eq_false h
    obtain rfl : i = -1 := by omega
    rfl

theorem xor_back (x y : Nat) : x ^^^ (x ^^^ y) = y := by rw [← Nat.xor_assoc, Nat.xor_self, Nat.zero_xor]
theorem mixW_get {L P : List Int} {x : Nat} (hL : L.length = P.length) (h : x < P.length) : (L.take x ++ P.drop x).getD x 0 = P.getD x 0 := by
  rw [List.getD_eq_getElem?_getD, List.getElem?_append_right (by rw [List.length_take]; omega), List.length_take, List.getElem?_drop, List.getD_eq_getElem?_getD]
  congr 2
  omega
theorem mixW_set {L P : List Int} {x : Nat} (hL : L.length = P.length) (h : x < P.length) : (L.take x ++ P.drop x).set x (L.getD x 0) = L.take (x + 1) ++ P.drop (x + 1) := by
  have e : (L.take x).length = x := by rw [List.length_take]; omega
  rw [List.set_append_right _ _ (by omega), e, Nat.sub_self, List.drop_eq_getElem_cons h, List.set_cons_zero, take_push (by omega), List.append_assoc]
  rfl

set_option maxRecDepth 100000 in
theorem m31 : Meets Try.prog 31 sp31 := by
  refine meets_of_owed (C := c40) ⟨tab_ok, fun f s h => by cases h⟩ (by kernel_rfl) (by kernel_rfl : Try.prog.funcs[31]? = some Try.f31) (by kernel_rfl) (by kernel_rfl) (by kernel_rfl) _ ?_
  rintro _ ⟨c, l, m, rfl, hc, hl, hm⟩
  refine ⟨fun _ => rfl, inv31 c l m, ?_⟩
  show owed c40 (inv31 c l m) Try.f31 [u64n c, num4 l, num4 m] (num4 (pkL c l m))
  rw [vc31]
  have hl4 := hl.2
  have hm4 := hm.2
  have p0 : pkI c l m 0 = l := by unfold pkI; split <;> rfl
  simp (decide := true) only [show Int.toNat 0 = 0 from rfl, p0, eq_self, true_and, and_true, ne_eq, not_false_eq_true]
  refine ⟨rfl, fun x hx => ?_⟩
  split
  · rename_i h
    have h : x < 4 := by have := of_decide_eq_true h; omega
    have ew : IntKind.i64.wrap ((x : Int) + 1) = ((x + 1 : Nat) : Int) := by rw [wi (by omega) (by omega)]; omega
    obtain ⟨a, ea, ha⟩ := okw_get hl.1 (i := x) (by omega)
    obtain ⟨b, eb, hb⟩ := okw_get hm.1 (i := x) (by omega)
    have hab : a ^^^ b < 2 ^ 64 := Nat.xor_lt_two_pow ha hb
    have eab : ixor .u64 (a : Int) (b : Int) = ((a ^^^ b : Nat) : Int) := ixorN .u64 (show a < 18446744073709551616 from ha) (show b < 18446744073709551616 from hb)
    have e1 : iand .u64 (c : Int) 1 = ((c % 2 : Nat) : Int) := by
      rw [show (1 : Int) = ((1 : Nat) : Int) from rfl, iandN .u64 (show c < 18446744073709551616 from hc) (show 1 < 18446744073709551616 by decide), Nat.and_one_is_mod]
    rw [ew, e1]
    simp only [Int.toNat_natCast]
    have hg : (pkI c l m x).getD x 0 = (a : Int) := by
      unfold pkI
      split
      · rw [mixW_get (by omega) (by omega), ea]
      · exact ea
    rw [hg, eb, eab]
    by_cases h2 : c % 2 = 1
    · rw [h2, show IntKind.u64.wrap (0 - ((1 : Nat) : Int)) = ((18446744073709551615 : Nat) : Int) from by decide, iandN .u64 (show 18446744073709551615 < 18446744073709551616 by decide) (show _ < 18446744073709551616 from hab),
        Nat.and_comm, show (18446744073709551615 : Nat) = 2 ^ 64 - 1 from rfl, Nat.and_two_pow_sub_one_eq_mod, Nat.mod_eq_of_lt hab, ixorN .u64 (show a < 18446744073709551616 from ha) (show _ < 18446744073709551616 from hab), xor_back]
      have hs := mixW_set (L := m) (P := l) (x := x) (by omega) (by omega)
      rw [eb] at hs
      have e3 : (pkI c l m x).set x (b : Int) = pkI c l m (x + 1) := by
        unfold pkI
        rw [if_pos h2, if_pos h2]
        exact hs
      rw [e3]
      and_intros <;> first | rfl | omega | trivial
    · have h3 : c % 2 = 0 := by omega
      rw [h3, show IntKind.u64.wrap (0 - ((0 : Nat) : Int)) = ((0 : Nat) : Int) from by decide, iandN .u64 (show 0 < 18446744073709551616 by decide) (show _ < 18446744073709551616 from hab), Nat.zero_and,
        ixorN .u64 (show a < 18446744073709551616 from ha) (show 0 < 18446744073709551616 by decide), Nat.xor_zero]
      have e3 : (pkI c l m x).set x (a : Int) = pkI c l m (x + 1) := by
        unfold pkI
        rw [if_neg h2, if_neg h2, ← ea, set_get _ _ (by omega)]
      rw [e3]
      and_intros <;> first | rfl | omega | trivial
  · rename_i h
    obtain rfl : x = 4 := by have := of_decide_eq_false h; omega
    have e : pkI c l m 4 = pkL c l m := by
      unfold pkI pkL
      split
      · rw [List.take_of_length_le (by omega), List.drop_of_length_le (by omega), List.append_nil]
      · rfl
    rw [e]

end Go.Proofs.Ytfbfblhlnhnonaa
