/- QuotInverts: Inverse: its spec and what it owes. -/
import Derived.Test.YtfbfblhlnhnonaaZb10
namespace Go.Proofs.Ytfbfblhlnhnonaa
open Go Go.Vg

/-- The inverse, where there is one below m. -/
noncomputable def invN (A M : Nat) : Nat := @dite _ (∃ x, x < M ∧ A * x % M = 1) (Classical.propDecidable _) (fun h => Classical.choose h) (fun _ => 0)
/-- What Inverse answers: the number, and the code. -/
noncomputable def ivX (A M : Nat) : Nat := if M ≤ 1 then 0 else if Nat.gcd A M = 1 then invN A M else 0
noncomputable def ivE (A M : Nat) : Nat := if M = 0 then 1 else if M = 1 then 0 else if Nat.gcd A M = 1 then 0 else 6
noncomputable def sp32 : Go.Vg.Spec := ⟨fun ds => ∃ l m, ds = [num4 l, num4 m] ∧ isN l ∧ isN m,
  fun ds => .tup [num4 (nB 18446744073709551616 4 (ivX (wv (arrOf (ds.headD default))) (wv (arrOf (ds.getD 1 default))))), i64n (ivE (wv (arrOf (ds.headD default))) (wv (arrOf (ds.getD 1 default))))], true, [24, 24]⟩
def c32 : Ctx := ⟨tab, lkS [(18, sp18), (19, sp19), (22, sp22), (50, sp50), (51, sp51), (52, sp52), (53, sp53)], [], [200006, 200007, 200009, 200010, 200011, 200012, 200014, 200018]⟩
abbrev n4 (v : Nat) : D := num4 (nB 18446744073709551616 4 v)
structure InvI (A M r0 r1 s0 s1 : Nat) : Prop where
  big : 1 < M
  top : M < 2 ^ 256
  r : r1 < r0 ∧ r0 ≤ M
  s : s0 < M ∧ s1 < M
  g : Nat.gcd r0 r1 = Nat.gcd A M
  e0 : ∃ k : Int, (A : Int) * (s0 : Int) = (r0 : Int) + k * (M : Int)
  e1 : ∃ k : Int, (A : Int) * (s1 : Int) = (r1 : Int) + k * (M : Int)
def inv32 (l m : List Int) : Nat → Option Inv
  | 8 => some ⟨Nat × Nat × Nat × Nat, fun _ => [], fun x => [(9, .fix (n4 x.1)), (10, .fix (n4 x.2.1)), (11, .fix (n4 x.2.2.1)), (12, .fix (n4 x.2.2.2))], fun s => (wv (rowD s 9), wv (rowD s 10), wv (rowD s 11), wv (rowD s 12)),
      fun _ x => InvI (wv l) (wv m) x.1 x.2.1 x.2.2.1 x.2.2.2, fun x => x.2.1⟩
  | _ => none
--KEEP Nat.gcd Go.Vg.eqB Go.Vg.vB Go.Vg.nB Go.Vg.okd Go.Vg.okw Go.Vg.dg Go.Vg.dig Go.Vg.trimL okb lenOk lenS len1 sbd sbb dif bor cmpN shf i64ok subL dvq dvr dve sbD adl adc mulL mulH stL stH smN smC addL addK TimI TimJ isN invN ivX ivE InvI
set_option maxRecDepth 100000 in
theorem vc32  (l m : List Int) (F : D)  :
    (owed c32 (inv32 l m) Try.f32 [num4 l, num4 m] F) = (
 (True ∧ false = false) ∧
   (True ∧ false = false) ∧
    (True ∧ (4 : Nat) ≠ (0 : Nat)) ∧
     True ∧
      (True ∧ (4 : Nat) ≠ (0 : Nat)) ∧
       ((4 : Nat) ≠ (0 : Nat) ∧ (4 : Nat) = (4 : Nat) ∧ true = true) ∧
        (true = true ∧ (4 : Nat) ≠ (0 : Nat) ∧ (4 : Nat) = (4 : Nat) ∧ true = true) ∧
         (∃ (l_1 : List Int), ∃ (m : List Int), [D.arr IntKind.u64 (4 : Nat) l, D.arr IntKind.u64 (4 : Nat) [(0 : Int), (0 : Int), (0 : Int), (0 : Int)]] = [D.arr IntKind.u64 (4 : Nat) l_1, D.arr IntKind.u64 (4 : Nat) m] ∧ l_1.length = (4 : Nat) ∧ m.length = (4 : Nat)) ∧
          ((4 : Nat) ≠ (0 : Nat) ∧ (4 : Nat) = (4 : Nat) ∧ true = true) ∧
           (∃ (a : List Int), ∃ (m_1 : List Int), [D.arr IntKind.u64 (8 : Nat) (l ++ [(0 : Int), (0 : Int), (0 : Int), (0 : Int)]), D.arr IntKind.u64 (4 : Nat) m] = [D.arr IntKind.u64 (8 : Nat) a, D.arr IntKind.u64 (4 : Nat) m_1] ∧ (okw a ∧ a.length = (8 : Nat)) ∧ okw m_1 ∧ m_1.length = (4 : Nat)) ∧
            True ∧
             ((0 : Nat) < (2 : Nat) ∧ false = false) ∧
              ((1 : Nat) < (2 : Nat) ∧ false = false) ∧
               (True ∧ (4 : Nat) ≠ (0 : Nat)) ∧
                (true = true ∧ Sk.arr (4 : Nat) = Sk.arr (4 : Nat) ∧ (4 : Nat) ≠ (0 : Nat) ∧ (4 : Nat) = (4 : Nat) ∧ false = false) ∧
                 True ∧
                  True ∧
                   True ∧
                    match (↑(dve (vB (18446744073709551616 : Nat) m)) : Int) != (0 : Int) with
                    | true =>
                     (true = true ∧ (4 : Nat) ≠ (0 : Nat) ∧ (4 : Nat) = (4 : Nat) ∧ true = true) ∧
                      True ∧
                       (Sk.arr (4 : Nat) = Sk.arr (4 : Nat) ∧ (4 : Nat) ≠ (0 : Nat) ∧ (4 : Nat) = (4 : Nat) ∧ false = false) ∧
                        True ∧ (((4 : Nat) ≠ (0 : Nat) ∧ (4 : Nat) = (4 : Nat) ∧ true = true) ∧ false = false ∧ True) ∧ D.tup [D.arr IntKind.u64 (4 : Nat) [(0 : Int), (0 : Int), (0 : Int), (0 : Int)], D.val (Value.int IntKind.i64 (↑(dve (vB (18446744073709551616 : Nat) m)) : Int))] = F
                    | false =>
                     ((4 : Nat) ≠ (0 : Nat) ∧ (4 : Nat) = (4 : Nat) ∧ true = true) ∧
                      ((1 : Nat) = (1 : Nat) ∧ false = false ∧ ((0 : Nat) < (4 : Nat) ∧ ([] : List Nat) = [] ∧ true = true) ∧ True) ∧
                       (IntKind.u64 = IntKind.u64 ∧ IntKind.u64 = IntKind.u64 ∧ (4 : Nat) = (4 : Nat) ∧ (4 : Nat) = (4 : Nat) ∧ (1 : Nat) = (1 : Nat)) ∧
                        match eqB m [(1 : Int), (0 : Int), (0 : Int), (0 : Int)] with
                        | true =>
                         (true = true ∧ (4 : Nat) ≠ (0 : Nat) ∧ (4 : Nat) = (4 : Nat) ∧ true = true) ∧
                          (Sk.arr (4 : Nat) = Sk.arr (4 : Nat) ∧ (4 : Nat) ≠ (0 : Nat) ∧ (4 : Nat) = (4 : Nat) ∧ false = false) ∧ True ∧ (((4 : Nat) ≠ (0 : Nat) ∧ (4 : Nat) = (4 : Nat) ∧ true = true) ∧ false = false ∧ True) ∧ D.tup [D.arr IntKind.u64 (4 : Nat) [(0 : Int), (0 : Int), (0 : Int), (0 : Int)], D.val (Value.int IntKind.i64 (0 : Int))] = F
                        | false =>
                         ((4 : Nat) ≠ (0 : Nat) ∧ (4 : Nat) = (4 : Nat) ∧ true = true) ∧
                          (true = true ∧ (4 : Nat) ≠ (0 : Nat) ∧ (4 : Nat) = (4 : Nat) ∧ true = true) ∧
                           (true = true ∧ (4 : Nat) ≠ (0 : Nat) ∧ (4 : Nat) = (4 : Nat) ∧ true = true) ∧
                            ((1 : Nat) = (1 : Nat) ∧ false = false ∧ ((0 : Nat) < (4 : Nat) ∧ ([] : List Nat) = [] ∧ true = true) ∧ True) ∧
                             (True ∧ (4 : Nat) ≠ (0 : Nat)) ∧
                              (True ∧ (4 : Nat) ≠ (0 : Nat)) ∧
                               (True ∧ (4 : Nat) ≠ (0 : Nat)) ∧
                                (True ∧ (4 : Nat) ≠ (0 : Nat)) ∧
                                 (true = true ∧ Sk.arr (4 : Nat) = Sk.arr (4 : Nat) ∧ (4 : Nat) ≠ (0 : Nat) ∧ (4 : Nat) = (4 : Nat) ∧ false = false) ∧
                                  (true = true ∧ Sk.arr (4 : Nat) = Sk.arr (4 : Nat) ∧ (4 : Nat) ≠ (0 : Nat) ∧ (4 : Nat) = (4 : Nat) ∧ false = false) ∧
                                   (true = true ∧ Sk.arr (4 : Nat) = Sk.arr (4 : Nat) ∧ (4 : Nat) ≠ (0 : Nat) ∧ (4 : Nat) = (4 : Nat) ∧ false = false) ∧
                                    (true = true ∧ Sk.arr (4 : Nat) = Sk.arr (4 : Nat) ∧ (4 : Nat) ≠ (0 : Nat) ∧ (4 : Nat) = (4 : Nat) ∧ false = false) ∧
                                     ((True ∧
                                        (some (Blk.fix (D.arr IntKind.u64 (4 : Nat) l)) = some (Blk.fix (D.arr IntKind.u64 (4 : Nat) l)) ∧
                                          some (Blk.fix (D.arr IntKind.u64 (4 : Nat) m)) = some (Blk.fix (D.arr IntKind.u64 (4 : Nat) m)) ∧
                                           some (Blk.fix (D.arr IntKind.u64 (4 : Nat) [(0 : Int), (0 : Int), (0 : Int), (0 : Int)])) = some (Blk.fix (D.arr IntKind.u64 (4 : Nat) [(0 : Int), (0 : Int), (0 : Int), (0 : Int)])) ∧
                                            some (Blk.fix (D.arr IntKind.u64 (4 : Nat) [(0 : Int), (0 : Int), (0 : Int), (0 : Int)])) = some (Blk.fix (D.arr IntKind.u64 (4 : Nat) [(0 : Int), (0 : Int), (0 : Int), (0 : Int)])) ∧
                                             some (Blk.fix (D.arr IntKind.u64 (4 : Nat) (nB (18446744073709551616 : Nat) (4 : Nat) (dvr (vB (18446744073709551616 : Nat) (l ++ [(0 : Int), (0 : Int), (0 : Int), (0 : Int)])) (vB (18446744073709551616 : Nat) m))))) =
                                               some (Blk.fix (D.arr IntKind.u64 (4 : Nat) (nB (18446744073709551616 : Nat) (4 : Nat) (dvr (vB (18446744073709551616 : Nat) (l ++ [(0 : Int), (0 : Int), (0 : Int), (0 : Int)])) (vB (18446744073709551616 : Nat) m))))) ∧
                                              some (Blk.fix (D.arr IntKind.u64 (4 : Nat) m)) = some (Blk.fix (D.arr IntKind.u64 (4 : Nat) (nB (18446744073709551616 : Nat) (4 : Nat) (vB (18446744073709551616 : Nat) m)))) ∧
                                               some (Blk.fix (D.arr IntKind.u64 (4 : Nat) (nB (18446744073709551616 : Nat) (4 : Nat) (dvr (vB (18446744073709551616 : Nat) (l ++ [(0 : Int), (0 : Int), (0 : Int), (0 : Int)])) (vB (18446744073709551616 : Nat) m))))) =
                                                 some (Blk.fix (D.arr IntKind.u64 (4 : Nat) (nB (18446744073709551616 : Nat) (4 : Nat) (vB (18446744073709551616 : Nat) (nB (18446744073709551616 : Nat) (4 : Nat) (dvr (vB (18446744073709551616 : Nat) (l ++ [(0 : Int), (0 : Int), (0 : Int), (0 : Int)])) (vB (18446744073709551616 : Nat) m))))))) ∧
                                                some (Blk.fix (D.arr IntKind.u64 (4 : Nat) [(0 : Int), (0 : Int), (0 : Int), (0 : Int)])) = some (Blk.fix (D.arr IntKind.u64 (4 : Nat) (nB (18446744073709551616 : Nat) (4 : Nat) (vB (18446744073709551616 : Nat) [(0 : Int), (0 : Int), (0 : Int), (0 : Int)])))) ∧
                                                 some (Blk.fix (D.arr IntKind.u64 (4 : Nat) [(1 : Int), (0 : Int), (0 : Int), (0 : Int)])) = some (Blk.fix (D.arr IntKind.u64 (4 : Nat) (nB (18446744073709551616 : Nat) (4 : Nat) (vB (18446744073709551616 : Nat) [(1 : Int), (0 : Int), (0 : Int), (0 : Int)])))) ∧ True) ∧
                                         true = true) ∧
                                       InvI (vB (18446744073709551616 : Nat) l) (vB (18446744073709551616 : Nat) m) (vB (18446744073709551616 : Nat) m) (vB (18446744073709551616 : Nat) (nB (18446744073709551616 : Nat) (4 : Nat) (dvr (vB (18446744073709551616 : Nat) (l ++ [(0 : Int), (0 : Int), (0 : Int), (0 : Int)])) (vB (18446744073709551616 : Nat) m))))
                                        (vB (18446744073709551616 : Nat) [(0 : Int), (0 : Int), (0 : Int), (0 : Int)]) (vB (18446744073709551616 : Nat) [(1 : Int), (0 : Int), (0 : Int), (0 : Int)])) ∧
                                      ∀ (x : Nat × Nat × Nat × Nat),
                                       InvI (vB (18446744073709551616 : Nat) l) (vB (18446744073709551616 : Nat) m) x.fst x.snd.fst x.snd.snd.fst x.snd.snd.snd →
                                        true = true ∧
                                         (true = true ∧ (4 : Nat) ≠ (0 : Nat) ∧ (4 : Nat) = (4 : Nat) ∧ true = true) ∧
                                          (true = true ∧ (4 : Nat) ≠ (0 : Nat) ∧ (4 : Nat) = (4 : Nat) ∧ true = true) ∧
                                           (IntKind.u64 = IntKind.u64 ∧ IntKind.u64 = IntKind.u64 ∧ (4 : Nat) = (4 : Nat) ∧ (4 : Nat) = (4 : Nat) ∧ (1 : Nat) = (1 : Nat)) ∧
                                            match !eqB (nB (18446744073709551616 : Nat) (4 : Nat) x.snd.fst) [(0 : Int), (0 : Int), (0 : Int), (0 : Int)] with
                                            | true =>
                                             (true = true ∧ (4 : Nat) ≠ (0 : Nat) ∧ (4 : Nat) = (4 : Nat) ∧ true = true) ∧
                                              (true = true ∧ (4 : Nat) ≠ (0 : Nat) ∧ (4 : Nat) = (4 : Nat) ∧ true = true) ∧
                                               (∃ (l : List Int), ∃ (m : List Int), [D.arr IntKind.u64 (4 : Nat) (nB (18446744073709551616 : Nat) (4 : Nat) x.fst), D.arr IntKind.u64 (4 : Nat) [(0 : Int), (0 : Int), (0 : Int), (0 : Int)]] = [D.arr IntKind.u64 (4 : Nat) l, D.arr IntKind.u64 (4 : Nat) m] ∧ l.length = (4 : Nat) ∧ m.length = (4 : Nat)) ∧
                                                (true = true ∧ (4 : Nat) ≠ (0 : Nat) ∧ (4 : Nat) = (4 : Nat) ∧ true = true) ∧
                                                 (∃ (a : List Int),
                                                   ∃ (m : List Int),
                                                    [D.arr IntKind.u64 (8 : Nat) (nB (18446744073709551616 : Nat) (4 : Nat) x.fst ++ [(0 : Int), (0 : Int), (0 : Int), (0 : Int)]), D.arr IntKind.u64 (4 : Nat) (nB (18446744073709551616 : Nat) (4 : Nat) x.snd.fst)] = [D.arr IntKind.u64 (8 : Nat) a, D.arr IntKind.u64 (4 : Nat) m] ∧
                                                     (okw a ∧ a.length = (8 : Nat)) ∧ okw m ∧ m.length = (4 : Nat)) ∧
                                                  True ∧
                                                   ((0 : Nat) < (3 : Nat) ∧ false = false) ∧
                                                    ((1 : Nat) < (3 : Nat) ∧ false = false) ∧
                                                     ((2 : Nat) < (3 : Nat) ∧ false = false) ∧
                                                      (True ∧ (8 : Nat) ≠ (0 : Nat)) ∧
                                                       (True ∧ (4 : Nat) ≠ (0 : Nat)) ∧
                                                        (Sk.arr (8 : Nat) = Sk.arr (8 : Nat) ∧ (8 : Nat) ≠ (0 : Nat) ∧ (8 : Nat) = (8 : Nat) ∧ false = false) ∧
                                                         (true = true ∧ Sk.arr (4 : Nat) = Sk.arr (4 : Nat) ∧ (4 : Nat) ≠ (0 : Nat) ∧ (4 : Nat) = (4 : Nat) ∧ false = false) ∧
                                                          True ∧
                                                           ((8 : Nat) ≠ (0 : Nat) ∧ (8 : Nat) = (8 : Nat) ∧ true = true) ∧
                                                            (∃ (l : List Int),
                                                              [D.arr IntKind.u64 (8 : Nat)
                                                                  (nB (18446744073709551616 : Nat) (8 : Nat)
                                                                   (dvq (vB (18446744073709551616 : Nat) (nB (18446744073709551616 : Nat) (4 : Nat) x.fst ++ [(0 : Int), (0 : Int), (0 : Int), (0 : Int)])) (vB (18446744073709551616 : Nat) (nB (18446744073709551616 : Nat) (4 : Nat) x.snd.fst))))] =
                                                                [D.arr IntKind.u64 (8 : Nat) l] ∧
                                                               l.length = (8 : Nat)) ∧
                                                             (true = true ∧ (4 : Nat) ≠ (0 : Nat) ∧ (4 : Nat) = (4 : Nat) ∧ true = true) ∧
                                                              (∃ (l : List Int),
                                                                ∃ (m : List Int),
                                                                 [D.arr IntKind.u64 (4 : Nat)
                                                                     (List.take (4 : Nat)
                                                                      (nB (18446744073709551616 : Nat) (8 : Nat)
                                                                       (dvq (vB (18446744073709551616 : Nat) (nB (18446744073709551616 : Nat) (4 : Nat) x.fst ++ [(0 : Int), (0 : Int), (0 : Int), (0 : Int)])) (vB (18446744073709551616 : Nat) (nB (18446744073709551616 : Nat) (4 : Nat) x.snd.fst))))),
                                                                    D.arr IntKind.u64 (4 : Nat) (nB (18446744073709551616 : Nat) (4 : Nat) x.snd.snd.snd)] =
                                                                   [D.arr IntKind.u64 (4 : Nat) l, D.arr IntKind.u64 (4 : Nat) m] ∧
                                                                  isN l ∧ isN m) ∧
                                                               ((4 : Nat) ≠ (0 : Nat) ∧ (4 : Nat) = (4 : Nat) ∧ true = true) ∧
                                                                (∃ (a : List Int),
                                                                  ∃ (m_1 : List Int),
                                                                   [D.arr IntKind.u64 (8 : Nat)
                                                                       (nB (18446744073709551616 : Nat) (8 : Nat)
                                                                        (vB (18446744073709551616 : Nat)
                                                                          (List.take (4 : Nat)
                                                                           (nB (18446744073709551616 : Nat) (8 : Nat)
                                                                            (dvq (vB (18446744073709551616 : Nat) (nB (18446744073709551616 : Nat) (4 : Nat) x.fst ++ [(0 : Int), (0 : Int), (0 : Int), (0 : Int)])) (vB (18446744073709551616 : Nat) (nB (18446744073709551616 : Nat) (4 : Nat) x.snd.fst))))) *
                                                                         vB (18446744073709551616 : Nat) (nB (18446744073709551616 : Nat) (4 : Nat) x.snd.snd.snd))),
                                                                      D.arr IntKind.u64 (4 : Nat) m] =
                                                                     [D.arr IntKind.u64 (8 : Nat) a, D.arr IntKind.u64 (4 : Nat) m_1] ∧
                                                                    (okw a ∧ a.length = (8 : Nat)) ∧ okw m_1 ∧ m_1.length = (4 : Nat)) ∧
                                                                 True ∧
                                                                  ((0 : Nat) < (2 : Nat) ∧ false = false) ∧
                                                                   ((1 : Nat) < (2 : Nat) ∧ false = false) ∧
                                                                    (True ∧ (4 : Nat) ≠ (0 : Nat)) ∧
                                                                     (Sk.arr (4 : Nat) = Sk.arr (4 : Nat) ∧ (4 : Nat) ≠ (0 : Nat) ∧ (4 : Nat) = (4 : Nat) ∧ false = false) ∧
                                                                      True ∧
                                                                       (true = true ∧ (4 : Nat) ≠ (0 : Nat) ∧ (4 : Nat) = (4 : Nat) ∧ true = true) ∧
                                                                        ((4 : Nat) ≠ (0 : Nat) ∧ (4 : Nat) = (4 : Nat) ∧ true = true) ∧
                                                                         (∃ (l : List Int),
                                                                           ∃ (m_1 : List Int),
                                                                            [D.arr IntKind.u64 (4 : Nat) (nB (18446744073709551616 : Nat) (4 : Nat) x.snd.snd.fst),
                                                                               D.arr IntKind.u64 (4 : Nat)
                                                                                (nB (18446744073709551616 : Nat) (4 : Nat)
                                                                                 (dvr
                                                                                  (vB (18446744073709551616 : Nat)
                                                                                   (nB (18446744073709551616 : Nat) (8 : Nat)
                                                                                    (vB (18446744073709551616 : Nat)
                                                                                      (List.take (4 : Nat)
                                                                                       (nB (18446744073709551616 : Nat) (8 : Nat)
                                                                                        (dvq (vB (18446744073709551616 : Nat) (nB (18446744073709551616 : Nat) (4 : Nat) x.fst ++ [(0 : Int), (0 : Int), (0 : Int), (0 : Int)]))
                                                                                         (vB (18446744073709551616 : Nat) (nB (18446744073709551616 : Nat) (4 : Nat) x.snd.fst))))) *
                                                                                     vB (18446744073709551616 : Nat) (nB (18446744073709551616 : Nat) (4 : Nat) x.snd.snd.snd))))
                                                                                  (vB (18446744073709551616 : Nat) m)))] =
                                                                              [D.arr IntKind.u64 (4 : Nat) l, D.arr IntKind.u64 (4 : Nat) m_1] ∧
                                                                             (okw l ∧ l.length = (4 : Nat)) ∧ okw m_1 ∧ m_1.length = (4 : Nat)) ∧
                                                                          True ∧
                                                                           ((0 : Nat) < (2 : Nat) ∧ false = false) ∧
                                                                            ((1 : Nat) < (2 : Nat) ∧ false = false) ∧
                                                                             (True ∧ (4 : Nat) ≠ (0 : Nat)) ∧
                                                                              (true = true ∧ Sk.arr (4 : Nat) = Sk.arr (4 : Nat) ∧ (4 : Nat) ≠ (0 : Nat) ∧ (4 : Nat) = (4 : Nat) ∧ false = false) ∧
                                                                               True ∧
                                                                                True ∧
                                                                                 True ∧
                                                                                  match
                                                                                   (↑(bor (vB (18446744073709551616 : Nat) (nB (18446744073709551616 : Nat) (4 : Nat) x.snd.snd.fst))
                                                                                       (vB (18446744073709551616 : Nat)
                                                                                        (nB (18446744073709551616 : Nat) (4 : Nat)
                                                                                         (dvr
                                                                                          (vB (18446744073709551616 : Nat)
                                                                                           (nB (18446744073709551616 : Nat) (8 : Nat)
                                                                                            (vB (18446744073709551616 : Nat)
                                                                                              (List.take (4 : Nat)
                                                                                               (nB (18446744073709551616 : Nat) (8 : Nat)
                                                                                                (dvq (vB (18446744073709551616 : Nat) (nB (18446744073709551616 : Nat) (4 : Nat) x.fst ++ [(0 : Int), (0 : Int), (0 : Int), (0 : Int)]))
                                                                                                 (vB (18446744073709551616 : Nat) (nB (18446744073709551616 : Nat) (4 : Nat) x.snd.fst))))) *
                                                                                             vB (18446744073709551616 : Nat) (nB (18446744073709551616 : Nat) (4 : Nat) x.snd.snd.snd))))
                                                                                          (vB (18446744073709551616 : Nat) m))))) :
                                                                                     Int) ==
                                                                                    (1 : Int) with
                                                                                  | true =>
                                                                                   (true = true ∧ (4 : Nat) ≠ (0 : Nat) ∧ (4 : Nat) = (4 : Nat) ∧ true = true) ∧
                                                                                    ((4 : Nat) ≠ (0 : Nat) ∧ (4 : Nat) = (4 : Nat) ∧ true = true) ∧
                                                                                     (∃ (l : List Int),
                                                                                       ∃ (m_1 : List Int),
                                                                                        [D.arr IntKind.u64 (4 : Nat)
                                                                                            (nB (18446744073709551616 : Nat) (4 : Nat)
                                                                                             (dif (vB (18446744073709551616 : Nat) (nB (18446744073709551616 : Nat) (4 : Nat) x.snd.snd.fst))
                                                                                              (vB (18446744073709551616 : Nat)
                                                                                               (nB (18446744073709551616 : Nat) (4 : Nat)
                                                                                                (dvr
                                                                                                 (vB (18446744073709551616 : Nat)
                                                                                                  (nB (18446744073709551616 : Nat) (8 : Nat)
                                                                                                   (vB (18446744073709551616 : Nat)
                                                                                                     (List.take (4 : Nat)
                                                                                                      (nB (18446744073709551616 : Nat) (8 : Nat)
                                                                                                       (dvq (vB (18446744073709551616 : Nat) (nB (18446744073709551616 : Nat) (4 : Nat) x.fst ++ [(0 : Int), (0 : Int), (0 : Int), (0 : Int)]))
                                                                                                        (vB (18446744073709551616 : Nat) (nB (18446744073709551616 : Nat) (4 : Nat) x.snd.fst))))) *
                                                                                                    vB (18446744073709551616 : Nat) (nB (18446744073709551616 : Nat) (4 : Nat) x.snd.snd.snd))))
                                                                                                 (vB (18446744073709551616 : Nat) m)))))),
                                                                                           D.arr IntKind.u64 (4 : Nat) m] =
                                                                                          [D.arr IntKind.u64 (4 : Nat) l, D.arr IntKind.u64 (4 : Nat) m_1] ∧
                                                                                         isN l ∧ isN m_1) ∧
                                                                                      True ∧
                                                                                       ((0 : Nat) < (2 : Nat) ∧ false = false) ∧
                                                                                        ((1 : Nat) < (2 : Nat) ∧ false = false) ∧
                                                                                         (true = true ∧ Sk.arr (4 : Nat) = Sk.arr (4 : Nat) ∧ (4 : Nat) ≠ (0 : Nat) ∧ (4 : Nat) = (4 : Nat) ∧ false = false) ∧
                                                                                          (true = true ∧ (4 : Nat) ≠ (0 : Nat) ∧ (4 : Nat) = (4 : Nat) ∧ true = true) ∧
                                                                                           (true = true ∧ (4 : Nat) ≠ (0 : Nat) ∧ (4 : Nat) = (4 : Nat) ∧ true = true) ∧
                                                                                            (true = true ∧ (4 : Nat) ≠ (0 : Nat) ∧ (4 : Nat) = (4 : Nat) ∧ true = true) ∧
                                                                                             (true = true ∧ (4 : Nat) ≠ (0 : Nat) ∧ (4 : Nat) = (4 : Nat) ∧ true = true) ∧
                                                                                              (true = true ∧ Sk.arr (4 : Nat) = Sk.arr (4 : Nat) ∧ (4 : Nat) ≠ (0 : Nat) ∧ (4 : Nat) = (4 : Nat) ∧ false = false) ∧
                                                                                               (true = true ∧ Sk.arr (4 : Nat) = Sk.arr (4 : Nat) ∧ (4 : Nat) ≠ (0 : Nat) ∧ (4 : Nat) = (4 : Nat) ∧ false = false) ∧
                                                                                                (true = true ∧ Sk.arr (4 : Nat) = Sk.arr (4 : Nat) ∧ (4 : Nat) ≠ (0 : Nat) ∧ (4 : Nat) = (4 : Nat) ∧ false = false) ∧
                                                                                                 (true = true ∧ Sk.arr (4 : Nat) = Sk.arr (4 : Nat) ∧ (4 : Nat) ≠ (0 : Nat) ∧ (4 : Nat) = (4 : Nat) ∧ false = false) ∧
                                                                                                  (True ∧
                                                                                                    (some (Blk.fix (D.arr IntKind.u64 (4 : Nat) l)) = some (Blk.fix (D.arr IntKind.u64 (4 : Nat) l)) ∧
                                                                                                      some (Blk.fix (D.arr IntKind.u64 (4 : Nat) m)) = some (Blk.fix (D.arr IntKind.u64 (4 : Nat) m)) ∧
                                                                                                       some (Blk.fix (D.arr IntKind.u64 (4 : Nat) [(0 : Int), (0 : Int), (0 : Int), (0 : Int)])) = some (Blk.fix (D.arr IntKind.u64 (4 : Nat) [(0 : Int), (0 : Int), (0 : Int), (0 : Int)])) ∧
                                                                                                        some (Blk.fix (D.arr IntKind.u64 (4 : Nat) [(0 : Int), (0 : Int), (0 : Int), (0 : Int)])) = some (Blk.fix (D.arr IntKind.u64 (4 : Nat) [(0 : Int), (0 : Int), (0 : Int), (0 : Int)])) ∧
                                                                                                         some
                                                                                                            (Blk.fix
                                                                                                             (D.arr IntKind.u64 (4 : Nat)
                                                                                                              (nB (18446744073709551616 : Nat) (4 : Nat) (dvr (vB (18446744073709551616 : Nat) (l ++ [(0 : Int), (0 : Int), (0 : Int), (0 : Int)])) (vB (18446744073709551616 : Nat) m))))) =
                                                                                                           some
                                                                                                            (Blk.fix
                                                                                                             (D.arr IntKind.u64 (4 : Nat)
                                                                                                              (nB (18446744073709551616 : Nat) (4 : Nat) (dvr (vB (18446744073709551616 : Nat) (l ++ [(0 : Int), (0 : Int), (0 : Int), (0 : Int)])) (vB (18446744073709551616 : Nat) m))))) ∧
                                                                                                          some (Blk.fix (D.arr IntKind.u64 (4 : Nat) (nB (18446744073709551616 : Nat) (4 : Nat) x.snd.fst))) =
                                                                                                            some (Blk.fix (D.arr IntKind.u64 (4 : Nat) (nB (18446744073709551616 : Nat) (4 : Nat) (vB (18446744073709551616 : Nat) (nB (18446744073709551616 : Nat) (4 : Nat) x.snd.fst))))) ∧
                                                                                                           some
                                                                                                              (Blk.fix
                                                                                                               (D.arr IntKind.u64 (4 : Nat)
                                                                                                                (nB (18446744073709551616 : Nat) (4 : Nat)
                                                                                                                 (dvr (vB (18446744073709551616 : Nat) (nB (18446744073709551616 : Nat) (4 : Nat) x.fst ++ [(0 : Int), (0 : Int), (0 : Int), (0 : Int)]))
                                                                                                                  (vB (18446744073709551616 : Nat) (nB (18446744073709551616 : Nat) (4 : Nat) x.snd.fst)))))) =
                                                                                                             some
                                                                                                              (Blk.fix
                                                                                                               (D.arr IntKind.u64 (4 : Nat)
                                                                                                                (nB (18446744073709551616 : Nat) (4 : Nat)
                                                                                                                 (vB (18446744073709551616 : Nat)
                                                                                                                  (nB (18446744073709551616 : Nat) (4 : Nat)
                                                                                                                   (dvr (vB (18446744073709551616 : Nat) (nB (18446744073709551616 : Nat) (4 : Nat) x.fst ++ [(0 : Int), (0 : Int), (0 : Int), (0 : Int)]))
                                                                                                                    (vB (18446744073709551616 : Nat) (nB (18446744073709551616 : Nat) (4 : Nat) x.snd.fst)))))))) ∧
                                                                                                            some (Blk.fix (D.arr IntKind.u64 (4 : Nat) (nB (18446744073709551616 : Nat) (4 : Nat) x.snd.snd.snd))) =
                                                                                                              some (Blk.fix (D.arr IntKind.u64 (4 : Nat) (nB (18446744073709551616 : Nat) (4 : Nat) (vB (18446744073709551616 : Nat) (nB (18446744073709551616 : Nat) (4 : Nat) x.snd.snd.snd))))) ∧
                                                                                                             some
                                                                                                                (Blk.fix
                                                                                                                 (D.arr IntKind.u64 (4 : Nat)
                                                                                                                  (nB (18446744073709551616 : Nat) (4 : Nat)
                                                                                                                   (smN
                                                                                                                    (vB (18446744073709551616 : Nat)
                                                                                                                     (nB (18446744073709551616 : Nat) (4 : Nat)
                                                                                                                      (dif (vB (18446744073709551616 : Nat) (nB (18446744073709551616 : Nat) (4 : Nat) x.snd.snd.fst))
                                                                                                                       (vB (18446744073709551616 : Nat)
                                                                                                                        (nB (18446744073709551616 : Nat) (4 : Nat)
                                                                                                                         (dvr
                                                                                                                          (vB (18446744073709551616 : Nat)
                                                                                                                           (nB (18446744073709551616 : Nat) (8 : Nat)
                                                                                                                            (vB (18446744073709551616 : Nat)
                                                                                                                              (List.take (4 : Nat)
                                                                                                                               (nB (18446744073709551616 : Nat) (8 : Nat)
                                                                                                                                (dvq (vB (18446744073709551616 : Nat) (nB (18446744073709551616 : Nat) (4 : Nat) x.fst ++ [(0 : Int), (0 : Int), (0 : Int), (0 : Int)]))
                                                                                                                                 (vB (18446744073709551616 : Nat) (nB (18446744073709551616 : Nat) (4 : Nat) x.snd.fst))))) *
                                                                                                                             vB (18446744073709551616 : Nat) (nB (18446744073709551616 : Nat) (4 : Nat) x.snd.snd.snd))))
                                                                                                                          (vB (18446744073709551616 : Nat) m)))))))
                                                                                                                    (vB (18446744073709551616 : Nat) m))))) =
                                                                                                               some
                                                                                                                (Blk.fix
                                                                                                                 (D.arr IntKind.u64 (4 : Nat)
                                                                                                                  (nB (18446744073709551616 : Nat) (4 : Nat)
                                                                                                                   (vB (18446744073709551616 : Nat)
                                                                                                                    (nB (18446744073709551616 : Nat) (4 : Nat)
                                                                                                                     (smN
                                                                                                                      (vB (18446744073709551616 : Nat)
                                                                                                                       (nB (18446744073709551616 : Nat) (4 : Nat)
                                                                                                                        (dif (vB (18446744073709551616 : Nat) (nB (18446744073709551616 : Nat) (4 : Nat) x.snd.snd.fst))
                                                                                                                         (vB (18446744073709551616 : Nat)
                                                                                                                          (nB (18446744073709551616 : Nat) (4 : Nat)
                                                                                                                           (dvr
                                                                                                                            (vB (18446744073709551616 : Nat)
                                                                                                                             (nB (18446744073709551616 : Nat) (8 : Nat)
                                                                                                                              (vB (18446744073709551616 : Nat)
                                                                                                                                (List.take (4 : Nat)
                                                                                                                                 (nB (18446744073709551616 : Nat) (8 : Nat)
                                                                                                                                  (dvq (vB (18446744073709551616 : Nat) (nB (18446744073709551616 : Nat) (4 : Nat) x.fst ++ [(0 : Int), (0 : Int), (0 : Int), (0 : Int)]))
                                                                                                                                   (vB (18446744073709551616 : Nat) (nB (18446744073709551616 : Nat) (4 : Nat) x.snd.fst))))) *
                                                                                                                               vB (18446744073709551616 : Nat) (nB (18446744073709551616 : Nat) (4 : Nat) x.snd.snd.snd))))
                                                                                                                            (vB (18446744073709551616 : Nat) m)))))))
                                                                                                                      (vB (18446744073709551616 : Nat) m))))))) ∧
                                                                                                              True) ∧
                                                                                                     true = true) ∧
                                                                                                   InvI (vB (18446744073709551616 : Nat) l) (vB (18446744073709551616 : Nat) m) (vB (18446744073709551616 : Nat) (nB (18446744073709551616 : Nat) (4 : Nat) x.snd.fst))
                                                                                                     (vB (18446744073709551616 : Nat)
                                                                                                      (nB (18446744073709551616 : Nat) (4 : Nat)
                                                                                                       (dvr (vB (18446744073709551616 : Nat) (nB (18446744073709551616 : Nat) (4 : Nat) x.fst ++ [(0 : Int), (0 : Int), (0 : Int), (0 : Int)]))
                                                                                                        (vB (18446744073709551616 : Nat) (nB (18446744073709551616 : Nat) (4 : Nat) x.snd.fst)))))
                                                                                                     (vB (18446744073709551616 : Nat) (nB (18446744073709551616 : Nat) (4 : Nat) x.snd.snd.snd))
                                                                                                     (vB (18446744073709551616 : Nat)
                                                                                                      (nB (18446744073709551616 : Nat) (4 : Nat)
                                                                                                       (smN
                                                                                                        (vB (18446744073709551616 : Nat)
                                                                                                         (nB (18446744073709551616 : Nat) (4 : Nat)
                                                                                                          (dif (vB (18446744073709551616 : Nat) (nB (18446744073709551616 : Nat) (4 : Nat) x.snd.snd.fst))
                                                                                                           (vB (18446744073709551616 : Nat)
                                                                                                            (nB (18446744073709551616 : Nat) (4 : Nat)
                                                                                                             (dvr
                                                                                                              (vB (18446744073709551616 : Nat)
                                                                                                               (nB (18446744073709551616 : Nat) (8 : Nat)
                                                                                                                (vB (18446744073709551616 : Nat)
                                                                                                                  (List.take (4 : Nat)
                                                                                                                   (nB (18446744073709551616 : Nat) (8 : Nat)
                                                                                                                    (dvq (vB (18446744073709551616 : Nat) (nB (18446744073709551616 : Nat) (4 : Nat) x.fst ++ [(0 : Int), (0 : Int), (0 : Int), (0 : Int)]))
                                                                                                                     (vB (18446744073709551616 : Nat) (nB (18446744073709551616 : Nat) (4 : Nat) x.snd.fst))))) *
                                                                                                                 vB (18446744073709551616 : Nat) (nB (18446744073709551616 : Nat) (4 : Nat) x.snd.snd.snd))))
                                                                                                              (vB (18446744073709551616 : Nat) m)))))))
                                                                                                        (vB (18446744073709551616 : Nat) m)))) ∧
                                                                                                    vB (18446744073709551616 : Nat)
                                                                                                      (nB (18446744073709551616 : Nat) (4 : Nat)
                                                                                                       (dvr (vB (18446744073709551616 : Nat) (nB (18446744073709551616 : Nat) (4 : Nat) x.fst ++ [(0 : Int), (0 : Int), (0 : Int), (0 : Int)]))
                                                                                                        (vB (18446744073709551616 : Nat) (nB (18446744073709551616 : Nat) (4 : Nat) x.snd.fst)))) <
                                                                                                     x.snd.fst
                                                                                  | false =>
                                                                                   (true = true ∧ (4 : Nat) ≠ (0 : Nat) ∧ (4 : Nat) = (4 : Nat) ∧ true = true) ∧
                                                                                    (true = true ∧ (4 : Nat) ≠ (0 : Nat) ∧ (4 : Nat) = (4 : Nat) ∧ true = true) ∧
                                                                                     (true = true ∧ (4 : Nat) ≠ (0 : Nat) ∧ (4 : Nat) = (4 : Nat) ∧ true = true) ∧
                                                                                      (true = true ∧ (4 : Nat) ≠ (0 : Nat) ∧ (4 : Nat) = (4 : Nat) ∧ true = true) ∧
                                                                                       (true = true ∧ Sk.arr (4 : Nat) = Sk.arr (4 : Nat) ∧ (4 : Nat) ≠ (0 : Nat) ∧ (4 : Nat) = (4 : Nat) ∧ false = false) ∧
                                                                                        (true = true ∧ Sk.arr (4 : Nat) = Sk.arr (4 : Nat) ∧ (4 : Nat) ≠ (0 : Nat) ∧ (4 : Nat) = (4 : Nat) ∧ false = false) ∧
                                                                                         (true = true ∧ Sk.arr (4 : Nat) = Sk.arr (4 : Nat) ∧ (4 : Nat) ≠ (0 : Nat) ∧ (4 : Nat) = (4 : Nat) ∧ false = false) ∧
                                                                                          (true = true ∧ Sk.arr (4 : Nat) = Sk.arr (4 : Nat) ∧ (4 : Nat) ≠ (0 : Nat) ∧ (4 : Nat) = (4 : Nat) ∧ false = false) ∧
                                                                                           (True ∧
                                                                                             (some (Blk.fix (D.arr IntKind.u64 (4 : Nat) l)) = some (Blk.fix (D.arr IntKind.u64 (4 : Nat) l)) ∧
                                                                                               some (Blk.fix (D.arr IntKind.u64 (4 : Nat) m)) = some (Blk.fix (D.arr IntKind.u64 (4 : Nat) m)) ∧
                                                                                                some (Blk.fix (D.arr IntKind.u64 (4 : Nat) [(0 : Int), (0 : Int), (0 : Int), (0 : Int)])) = some (Blk.fix (D.arr IntKind.u64 (4 : Nat) [(0 : Int), (0 : Int), (0 : Int), (0 : Int)])) ∧
                                                                                                 some (Blk.fix (D.arr IntKind.u64 (4 : Nat) [(0 : Int), (0 : Int), (0 : Int), (0 : Int)])) = some (Blk.fix (D.arr IntKind.u64 (4 : Nat) [(0 : Int), (0 : Int), (0 : Int), (0 : Int)])) ∧
                                                                                                  some
                                                                                                     (Blk.fix
                                                                                                      (D.arr IntKind.u64 (4 : Nat)
                                                                                                       (nB (18446744073709551616 : Nat) (4 : Nat) (dvr (vB (18446744073709551616 : Nat) (l ++ [(0 : Int), (0 : Int), (0 : Int), (0 : Int)])) (vB (18446744073709551616 : Nat) m))))) =
                                                                                                    some
                                                                                                     (Blk.fix
                                                                                                      (D.arr IntKind.u64 (4 : Nat)
                                                                                                       (nB (18446744073709551616 : Nat) (4 : Nat) (dvr (vB (18446744073709551616 : Nat) (l ++ [(0 : Int), (0 : Int), (0 : Int), (0 : Int)])) (vB (18446744073709551616 : Nat) m))))) ∧
                                                                                                   some (Blk.fix (D.arr IntKind.u64 (4 : Nat) (nB (18446744073709551616 : Nat) (4 : Nat) x.snd.fst))) =
                                                                                                     some (Blk.fix (D.arr IntKind.u64 (4 : Nat) (nB (18446744073709551616 : Nat) (4 : Nat) (vB (18446744073709551616 : Nat) (nB (18446744073709551616 : Nat) (4 : Nat) x.snd.fst))))) ∧
                                                                                                    some
                                                                                                       (Blk.fix
                                                                                                        (D.arr IntKind.u64 (4 : Nat)
                                                                                                         (nB (18446744073709551616 : Nat) (4 : Nat)
                                                                                                          (dvr (vB (18446744073709551616 : Nat) (nB (18446744073709551616 : Nat) (4 : Nat) x.fst ++ [(0 : Int), (0 : Int), (0 : Int), (0 : Int)]))
                                                                                                           (vB (18446744073709551616 : Nat) (nB (18446744073709551616 : Nat) (4 : Nat) x.snd.fst)))))) =
                                                                                                      some
                                                                                                       (Blk.fix
                                                                                                        (D.arr IntKind.u64 (4 : Nat)
                                                                                                         (nB (18446744073709551616 : Nat) (4 : Nat)
                                                                                                          (vB (18446744073709551616 : Nat)
                                                                                                           (nB (18446744073709551616 : Nat) (4 : Nat)
                                                                                                            (dvr (vB (18446744073709551616 : Nat) (nB (18446744073709551616 : Nat) (4 : Nat) x.fst ++ [(0 : Int), (0 : Int), (0 : Int), (0 : Int)]))
                                                                                                             (vB (18446744073709551616 : Nat) (nB (18446744073709551616 : Nat) (4 : Nat) x.snd.fst)))))))) ∧
                                                                                                     some (Blk.fix (D.arr IntKind.u64 (4 : Nat) (nB (18446744073709551616 : Nat) (4 : Nat) x.snd.snd.snd))) =
                                                                                                       some (Blk.fix (D.arr IntKind.u64 (4 : Nat) (nB (18446744073709551616 : Nat) (4 : Nat) (vB (18446744073709551616 : Nat) (nB (18446744073709551616 : Nat) (4 : Nat) x.snd.snd.snd))))) ∧
                                                                                                      some
                                                                                                         (Blk.fix
                                                                                                          (D.arr IntKind.u64 (4 : Nat)
                                                                                                           (nB (18446744073709551616 : Nat) (4 : Nat)
                                                                                                            (dif (vB (18446744073709551616 : Nat) (nB (18446744073709551616 : Nat) (4 : Nat) x.snd.snd.fst))
                                                                                                             (vB (18446744073709551616 : Nat)
                                                                                                              (nB (18446744073709551616 : Nat) (4 : Nat)
                                                                                                               (dvr
                                                                                                                (vB (18446744073709551616 : Nat)
                                                                                                                 (nB (18446744073709551616 : Nat) (8 : Nat)
                                                                                                                  (vB (18446744073709551616 : Nat)
                                                                                                                    (List.take (4 : Nat)
                                                                                                                     (nB (18446744073709551616 : Nat) (8 : Nat)
                                                                                                                      (dvq (vB (18446744073709551616 : Nat) (nB (18446744073709551616 : Nat) (4 : Nat) x.fst ++ [(0 : Int), (0 : Int), (0 : Int), (0 : Int)]))
                                                                                                                       (vB (18446744073709551616 : Nat) (nB (18446744073709551616 : Nat) (4 : Nat) x.snd.fst))))) *
                                                                                                                   vB (18446744073709551616 : Nat) (nB (18446744073709551616 : Nat) (4 : Nat) x.snd.snd.snd))))
                                                                                                                (vB (18446744073709551616 : Nat) m)))))))) =
                                                                                                        some
                                                                                                         (Blk.fix
                                                                                                          (D.arr IntKind.u64 (4 : Nat)
                                                                                                           (nB (18446744073709551616 : Nat) (4 : Nat)
                                                                                                            (vB (18446744073709551616 : Nat)
                                                                                                             (nB (18446744073709551616 : Nat) (4 : Nat)
                                                                                                              (dif (vB (18446744073709551616 : Nat) (nB (18446744073709551616 : Nat) (4 : Nat) x.snd.snd.fst))
                                                                                                               (vB (18446744073709551616 : Nat)
                                                                                                                (nB (18446744073709551616 : Nat) (4 : Nat)
                                                                                                                 (dvr
                                                                                                                  (vB (18446744073709551616 : Nat)
                                                                                                                   (nB (18446744073709551616 : Nat) (8 : Nat)
                                                                                                                    (vB (18446744073709551616 : Nat)
                                                                                                                      (List.take (4 : Nat)
                                                                                                                       (nB (18446744073709551616 : Nat) (8 : Nat)
                                                                                                                        (dvq (vB (18446744073709551616 : Nat) (nB (18446744073709551616 : Nat) (4 : Nat) x.fst ++ [(0 : Int), (0 : Int), (0 : Int), (0 : Int)]))
                                                                                                                         (vB (18446744073709551616 : Nat) (nB (18446744073709551616 : Nat) (4 : Nat) x.snd.fst))))) *
                                                                                                                     vB (18446744073709551616 : Nat) (nB (18446744073709551616 : Nat) (4 : Nat) x.snd.snd.snd))))
                                                                                                                  (vB (18446744073709551616 : Nat) m)))))))))) ∧
                                                                                                       True) ∧
                                                                                              true = true) ∧
                                                                                            InvI (vB (18446744073709551616 : Nat) l) (vB (18446744073709551616 : Nat) m) (vB (18446744073709551616 : Nat) (nB (18446744073709551616 : Nat) (4 : Nat) x.snd.fst))
                                                                                              (vB (18446744073709551616 : Nat)
                                                                                               (nB (18446744073709551616 : Nat) (4 : Nat)
                                                                                                (dvr (vB (18446744073709551616 : Nat) (nB (18446744073709551616 : Nat) (4 : Nat) x.fst ++ [(0 : Int), (0 : Int), (0 : Int), (0 : Int)]))
                                                                                                 (vB (18446744073709551616 : Nat) (nB (18446744073709551616 : Nat) (4 : Nat) x.snd.fst)))))
                                                                                              (vB (18446744073709551616 : Nat) (nB (18446744073709551616 : Nat) (4 : Nat) x.snd.snd.snd))
                                                                                              (vB (18446744073709551616 : Nat)
                                                                                               (nB (18446744073709551616 : Nat) (4 : Nat)
                                                                                                (dif (vB (18446744073709551616 : Nat) (nB (18446744073709551616 : Nat) (4 : Nat) x.snd.snd.fst))
                                                                                                 (vB (18446744073709551616 : Nat)
                                                                                                  (nB (18446744073709551616 : Nat) (4 : Nat)
                                                                                                   (dvr
                                                                                                    (vB (18446744073709551616 : Nat)
                                                                                                     (nB (18446744073709551616 : Nat) (8 : Nat)
                                                                                                      (vB (18446744073709551616 : Nat)
                                                                                                        (List.take (4 : Nat)
                                                                                                         (nB (18446744073709551616 : Nat) (8 : Nat)
                                                                                                          (dvq (vB (18446744073709551616 : Nat) (nB (18446744073709551616 : Nat) (4 : Nat) x.fst ++ [(0 : Int), (0 : Int), (0 : Int), (0 : Int)]))
                                                                                                           (vB (18446744073709551616 : Nat) (nB (18446744073709551616 : Nat) (4 : Nat) x.snd.fst))))) *
                                                                                                       vB (18446744073709551616 : Nat) (nB (18446744073709551616 : Nat) (4 : Nat) x.snd.snd.snd))))
                                                                                                    (vB (18446744073709551616 : Nat) m))))))) ∧
                                                                                             vB (18446744073709551616 : Nat)
                                                                                               (nB (18446744073709551616 : Nat) (4 : Nat)
                                                                                                (dvr (vB (18446744073709551616 : Nat) (nB (18446744073709551616 : Nat) (4 : Nat) x.fst ++ [(0 : Int), (0 : Int), (0 : Int), (0 : Int)]))
                                                                                                 (vB (18446744073709551616 : Nat) (nB (18446744073709551616 : Nat) (4 : Nat) x.snd.fst)))) <
                                                                                              x.snd.fst
                                            | false =>
                                             (true = true ∧ (4 : Nat) ≠ (0 : Nat) ∧ (4 : Nat) = (4 : Nat) ∧ true = true) ∧
                                              ((1 : Nat) = (1 : Nat) ∧ false = false ∧ ((0 : Nat) < (4 : Nat) ∧ ([] : List Nat) = [] ∧ true = true) ∧ True) ∧
                                               (IntKind.u64 = IntKind.u64 ∧ IntKind.u64 = IntKind.u64 ∧ (4 : Nat) = (4 : Nat) ∧ (4 : Nat) = (4 : Nat) ∧ (1 : Nat) = (1 : Nat)) ∧
                                                match !eqB (nB (18446744073709551616 : Nat) (4 : Nat) x.fst) [(1 : Int), (0 : Int), (0 : Int), (0 : Int)] with
                                                | true =>
                                                 (true = true ∧ (4 : Nat) ≠ (0 : Nat) ∧ (4 : Nat) = (4 : Nat) ∧ true = true) ∧
                                                  (Sk.arr (4 : Nat) = Sk.arr (4 : Nat) ∧ (4 : Nat) ≠ (0 : Nat) ∧ (4 : Nat) = (4 : Nat) ∧ false = false) ∧
                                                   True ∧ (((4 : Nat) ≠ (0 : Nat) ∧ (4 : Nat) = (4 : Nat) ∧ true = true) ∧ false = false ∧ True) ∧ D.tup [D.arr IntKind.u64 (4 : Nat) [(0 : Int), (0 : Int), (0 : Int), (0 : Int)], D.val (Value.int IntKind.i64 (6 : Int))] = F
                                                | false =>
                                                 (true = true ∧ (4 : Nat) ≠ (0 : Nat) ∧ (4 : Nat) = (4 : Nat) ∧ true = true) ∧
                                                  (Sk.arr (4 : Nat) = Sk.arr (4 : Nat) ∧ (4 : Nat) ≠ (0 : Nat) ∧ (4 : Nat) = (4 : Nat) ∧ false = false) ∧
                                                   True ∧ (((4 : Nat) ≠ (0 : Nat) ∧ (4 : Nat) = (4 : Nat) ∧ true = true) ∧ false = false ∧ True) ∧ D.tup [D.arr IntKind.u64 (4 : Nat) (nB (18446744073709551616 : Nat) (4 : Nat) x.snd.snd.fst), D.val (Value.int IntKind.i64 (0 : Int))] = F) := by kernel_rfl

end Go.Proofs.Ytfbfblhlnhnonaa
/- QuotInverts: Euclid's steps (no program in sight). -/
namespace Go.Proofs.Ytfbfblhlnhnonaa
open Go Go.Vg

def sNew (M q s0 s1 : Nat) : Nat := if q * s1 % M ≤ s0 then s0 - q * s1 % M else s0 + M - q * s1 % M
theorem sNew_lt {M q s0 s1 : Nat} (hM : 1 < M) (h : s0 < M) : sNew M q s0 s1 < M := by
  have := Nat.mod_lt (q * s1) (show 0 < M by omega)
  unfold sNew
  split <;> omega
theorem sNew_add {M q s0 s1 : Nat} (hM : 1 < M) (h : s0 < M) : ∃ e : Nat, sNew M q s0 s1 + q * s1 % M = s0 + e * M := by
  have := Nat.mod_lt (q * s1) (show 0 < M by omega)
  unfold sNew
  split
  · exact ⟨0, by omega⟩
  · exact ⟨1, by omega⟩
theorem inv_step {A M r0 r1 s0 s1 : Nat} (h : InvI A M r0 r1 s0 s1) (hr : r1 ≠ 0) : InvI A M r1 (r0 % r1) s1 (sNew M (r0 / r1) s0 s1) := by
  obtain ⟨hb, ht, ⟨h1, h2⟩, ⟨h3, h4⟩, hg, ⟨k0, e0⟩, ⟨k1, e1⟩⟩ := h
  refine ⟨hb, ht, ⟨Nat.mod_lt _ (by omega), by omega⟩, ⟨h4, sNew_lt hb h3⟩, ?_, ⟨k1, e1⟩, ?_⟩
  · rw [Nat.gcd_comm, ← Nat.gcd_rec, Nat.gcd_comm, hg]
  · obtain ⟨e, he⟩ := sNew_add (q := r0 / r1) (s1 := s1) hb h3
    generalize sNew M (r0 / r1) s0 s1 = t at he ⊢
    have hdm := Nat.div_add_mod (r0 / r1 * s1) M
    have hr0 := Nat.div_add_mod r0 r1
    generalize r0 % r1 = r at hr0 ⊢
    generalize r0 / r1 = q at *
    generalize q * s1 / M = j at hdm
    generalize q * s1 % M = o at *
    refine ⟨k0 - (q : Int) * k1 + (A : Int) * (j : Int) + (A : Int) * (e : Int), ?_⟩
    have c1 : (A : Int) * (t : Int) + (A : Int) * (o : Int) = (A : Int) * (s0 : Int) + (A : Int) * ((e : Int) * (M : Int)) := by
      rw [← Int.mul_add, ← Int.mul_add]
      congr 1
      have := congrArg (fun z : Nat => (z : Int)) he
      simpa using this
    have c2 : (A : Int) * ((M : Int) * (j : Int)) + (A : Int) * (o : Int) = (q : Int) * ((A : Int) * (s1 : Int)) := by
      rw [← Int.mul_add, Int.mul_left_comm (q : Int)]
      congr 1
      have := congrArg (fun z : Nat => (z : Int)) hdm
      simpa using this
    have c3 : (r1 : Int) * (q : Int) + (r : Int) = (r0 : Int) := by
      have := congrArg (fun z : Nat => (z : Int)) hr0
      simpa using this
    rw [e1, Int.mul_add] at c2
    rw [e0] at c1
    rw [Int.add_mul, Int.add_mul, Int.sub_mul, Int.mul_assoc (q : Int), Int.mul_assoc (A : Int), Int.mul_assoc (A : Int), Int.mul_comm (j : Int)]
    rw [Int.mul_comm (r1 : Int)] at c3
    omega
theorem inv_start {A M : Nat} (h : 1 < M) (ht : M < 2 ^ 256) : InvI A M M (A % M) 0 1 := by
  refine ⟨h, ht, ⟨Nat.mod_lt _ (by omega), Nat.le_refl _⟩, ⟨by omega, h⟩, ?_, ⟨-1, ?_⟩, ⟨(A / M : Nat), ?_⟩⟩
  · rw [Nat.gcd_comm M, ← Nat.gcd_rec, Nat.gcd_comm]
  · simp
    omega
  · have := congrArg (fun z : Nat => (z : Int)) (Nat.div_add_mod A M)
    simp at this
    have e : ((A / M : Nat) : Int) * (M : Int) = (M : Int) * ((A / M : Nat) : Int) := Int.mul_comm _ _
    rw [e]
    simp
    omega
theorem inv_end {A M r0 s0 s1 : Nat} (h : InvI A M r0 0 s0 s1) : r0 = Nat.gcd A M ∧ (r0 = 1 → A * s0 % M = 1) := by
  obtain ⟨hb, ht, ⟨h1, h2⟩, ⟨h3, h4⟩, hg, ⟨k0, e0⟩, _⟩ := h
  rw [Nat.gcd_zero_right] at hg
  refine ⟨hg, fun e => ?_⟩
  subst e
  have h5 : ((A * s0 : Nat) : Int) % (M : Int) = 1 := by
    rw [Int.natCast_mul, e0, Int.add_mul_emod_self_right]
    exact Int.emod_eq_of_lt (by omega) (by omega)
  have h6 : ((A * s0 % M : Nat) : Int) = 1 := by rw [Int.natCast_emod]; exact h5
  omega
theorem inv_ex {A M : Nat} (n : Nat) : ∀ r0 r1 s0 s1, r1 ≤ n → InvI A M r0 r1 s0 s1 → Nat.gcd A M = 1 → ∃ x, x < M ∧ A * x % M = 1 := by
  induction n with
  | zero =>
    intro r0 r1 s0 s1 hn h hg
    obtain rfl : r1 = 0 := by omega
    obtain ⟨e, f⟩ := inv_end h
    exact ⟨s0, h.s.1, f (by rw [e, hg])⟩
  | succ n ih =>
    intro r0 r1 s0 s1 hn h hg
    by_cases h0 : r1 = 0
    · subst h0
      obtain ⟨e, f⟩ := inv_end h
      exact ⟨s0, h.s.1, f (by rw [e, hg])⟩
    · exact ih _ _ _ _ (by have := Nat.mod_lt r0 (show 0 < r1 by omega); omega) (inv_step h h0) hg
theorem invN_spec {A M : Nat} (h : ∃ x, x < M ∧ A * x % M = 1) : invN A M < M ∧ A * invN A M % M = 1 := by
  unfold invN
  rw [dif_pos h]
  exact Classical.choose_spec h
theorem inv_unique {A M x y : Nat} (hx : x < M) (hy : y < M) (h1 : A * x % M = 1) (h2 : A * y % M = 1) : x = y := by
  have hM : 1 < M := by
    rcases Nat.lt_or_ge 1 M with h | h
    · exact h
    · have : M = 1 := by omega
      subst this
      omega
  have e1 : x * (A * y) % M = x := by rw [Nat.mul_mod, h2, Nat.mul_one, Nat.mod_mod, Nat.mod_eq_of_lt hx]
  have e2 : y * (A * x) % M = y := by rw [Nat.mul_mod, h1, Nat.mul_one, Nat.mod_mod, Nat.mod_eq_of_lt hy]
  have e3 : x * (A * y) = y * (A * x) := by rw [Nat.mul_left_comm, Nat.mul_comm x y, Nat.mul_left_comm y]
  rw [← e1, e3, e2]
theorem invN_eq {A M s : Nat} (h : s < M) (h1 : A * s % M = 1) : s = invN A M := by
  obtain ⟨a, b⟩ := invN_spec ⟨s, h, h1⟩
  exact inv_unique h a h1 b
theorem inv_iv {A M r0 s0 s1 : Nat} (h : InvI A M r0 0 s0 s1) : (r0 = 1 → s0 = ivX A M ∧ ivE A M = 0) ∧ (r0 ≠ 1 → ivX A M = 0 ∧ ivE A M = 6) := by
  obtain ⟨e, f⟩ := inv_end h
  have hb := h.big
  unfold ivX ivE
  rw [if_neg (show ¬ M ≤ 1 by omega), if_neg (show ¬ M = 0 by omega), if_neg (show ¬ M = 1 by omega)]
  rw [e]
  rw [e] at f
  refine ⟨fun e1 => ?_, fun e1 => ?_⟩
  · rw [if_pos e1, if_pos e1]
    exact ⟨invN_eq h.s.1 (f e1), rfl⟩
  · rw [if_neg e1, if_neg e1]
    exact ⟨rfl, rfl⟩
theorem iv_one {A M : Nat} (hM : 0 < M) (ht : M < 2 ^ 256) (hg : Nat.gcd A M = 1) : ivX A M < M ∧ A * ivX A M % M = 1 % M ∧ ivE A M = 0 := by
  unfold ivX ivE
  by_cases h1 : M = 1
  · subst h1
    refine ⟨?_, Nat.mod_one _, ?_⟩
    · rw [if_pos (show (1 : Nat) ≤ 1 by omega)]; omega
    · rw [if_neg (show ¬ (1 : Nat) = 0 by omega), if_pos rfl]
  · rw [if_neg (show ¬ M ≤ 1 by omega), if_neg (show ¬ M = 0 by omega), if_neg h1, if_pos hg, if_pos hg]
    obtain ⟨a, b⟩ := invN_spec (inv_ex (A := A) (M := M) (A % M) _ _ _ _ (Nat.le_refl _) (inv_start (by omega) ht) hg)
    exact ⟨a, by rw [b, Nat.mod_eq_of_lt (by omega)], rfl⟩
end Go.Proofs.Ytfbfblhlnhnonaa
/- QuotInverts: Inverse meets. -/
namespace Go.Proofs.Ytfbfblhlnhnonaa
open Go Go.Vg

theorem n4v {v : Nat} (h : v < 2 ^ 256) : vB 18446744073709551616 (nB 18446744073709551616 4 v) = v := by
  rw [wv_nB, Nat.mod_eq_of_lt h]
theorem nn4 (v : Nat) : nB 18446744073709551616 4 (vB 18446744073709551616 (nB 18446744073709551616 4 v)) = nB 18446744073709551616 4 v := by
  rw [vB_nB, nB_mod]
theorem addz (l : List Int) : vB 18446744073709551616 (l ++ [0, 0, 0, 0]) = vB 18446744073709551616 l := by
  rw [vB_append, show vB 18446744073709551616 [0, 0, 0, 0] = 0 from rfl, Nat.mul_zero, Nat.add_zero]
theorem n8t {q : Nat} (h : q < 2 ^ 256) : vB 18446744073709551616 (List.take 4 (nB 18446744073709551616 8 q)) = q := by
  rw [vB_take (nB_ok (by decide) 8 q), vB_nB, Nat.mod_eq_of_lt (show q < 18446744073709551616 ^ 8 from Nat.lt_trans h (by decide)), Nat.mod_eq_of_lt (show q < 18446744073709551616 ^ 4 from h)]
theorem n8v {p : Nat} (h : p < 2 ^ 256 * 2 ^ 256) : vB 18446744073709551616 (nB 18446744073709551616 8 p) = p := by
  rw [vB_nB, Nat.mod_eq_of_lt (by rw [show 18446744073709551616 ^ 8 = 2 ^ 256 * 2 ^ 256 from by decide]; exact h)]
theorem wv_one {m : List Int} (hm : isN m) : eqB m [1, 0, 0, 0] = decide (vB 18446744073709551616 m = 1) := by
  by_cases h : m = [1, 0, 0, 0]
  · subst h
    rw [eqB_iff.2 rfl]
    rfl
  · rw [eqB_not.2 h]
    symm
    apply decide_eq_false
    intro h1
    have := num_nB hm
    unfold wv at this
    rw [h1] at this
    exact h this.symm
theorem isN_n4 (v : Nat) : isN (nB 18446744073709551616 4 v) := ⟨nB_okw 4 v, nB_length _ _ _⟩
theorem okw_app {a b : List Int} (ha : okw a) (hb : okw b) : okw (a ++ b) := by
  intro x hx
  rcases List.mem_append.1 hx with h | h
  · exact ha x h
  · exact hb x h
theorem okw_zero : okw [0, 0, 0, 0] := by
  intro x hx
  simp at hx
  omega
theorem eq0_n4 {v : Nat} (h : v < 2 ^ 256) : eqB (nB 18446744073709551616 4 v) [0, 0, 0, 0] = decide (v = 0) := by
  rw [wv_zero (isN_n4 v).1 (isN_n4 v).2, show wv (nB 18446744073709551616 4 v) = v from n4v h]
theorem eq1_n4 {v : Nat} (h : v < 2 ^ 256) : eqB (nB 18446744073709551616 4 v) [1, 0, 0, 0] = decide (v = 1) := by
  rw [wv_one (isN_n4 v), n4v h]

set_option maxRecDepth 100000 in
theorem m32 : Meets Try.prog 32 sp32 := by
  refine meets_of_owed (C := c32) ⟨tab_ok, lkS_ok ⟨m18, m19, m22, m50, m51, m52, m53, trivial⟩⟩ (by kernel_rfl) (by kernel_rfl : Try.prog.funcs[32]? = some Try.f32) (by kernel_rfl) (by kernel_rfl) (by kernel_rfl) _ ?_
  rintro _ ⟨l, m, rfl, hl, hm⟩
  refine ⟨fun _ => rfl, inv32 l m, ?_⟩
  show owed c32 (inv32 l m) Try.f32 [num4 l, num4 m] (.tup [n4 (ivX (wv l) (wv m)), i64n (ivE (wv l) (wv m))])
  rw [vc32]
  have hA := wv_lt hl.1 hl.2
  have hM := wv_lt hm.1 hm.2
  have mm := num_nB hm
  unfold wv at hA hM mm ⊢
  rw [wv_one hm]
  simp (decide := true) only [addz, mm, nn4, eq_self, true_and, and_true, ne_eq, not_false_eq_true]
  have z4 : nB 18446744073709551616 4 0 = [0, 0, 0, 0] := rfl
  have hlz : okw (l ++ [0, 0, 0, 0]) ∧ (l ++ [0, 0, 0, 0]).length = 8 := ⟨okw_app hl.1 okw_zero, by rw [List.length_append, hl.2]; rfl⟩
  refine ⟨⟨l, _, rfl, hl.2, rfl⟩, ⟨_, m, rfl, hlz, hm⟩, ?_⟩
  by_cases h0 : vB 18446744073709551616 m = 0
  · rw [show dve (vB 18446744073709551616 m) = 1 from if_pos h0, show ivX (vB 18446744073709551616 l) (vB 18446744073709551616 m) = 0 from if_pos (by omega), show ivE (vB 18446744073709551616 l) (vB 18446744073709551616 m) = 1 from if_pos h0]
    rfl
  · rw [show dve (vB 18446744073709551616 m) = 0 from if_neg h0]
    show match decide (vB 18446744073709551616 m = 1) with | true => _ | false => _
    by_cases h1 : vB 18446744073709551616 m = 1
    · rw [decide_eq_true h1, show ivX (vB 18446744073709551616 l) (vB 18446744073709551616 m) = 0 from if_pos (by omega)]
      have e2 : ivE (vB 18446744073709551616 l) (vB 18446744073709551616 m) = 0 := by
        unfold ivE
        rw [if_neg h0, if_pos h1]
      rw [e2]
      rfl
    · rw [decide_eq_false h1]
      show _ ∧ _
      have hM1 : 1 < vB 18446744073709551616 m := by omega
      have hAM : vB 18446744073709551616 l % vB 18446744073709551616 m < 2 ^ 256 := Nat.lt_trans (Nat.mod_lt _ (by omega)) hM
      rw [show dvr (vB 18446744073709551616 l) (vB 18446744073709551616 m) = vB 18446744073709551616 l % vB 18446744073709551616 m from if_neg h0, n4v hAM]
      refine ⟨⟨?_, inv_start hM1 hM⟩, ?_⟩
      · and_intros <;> first | rfl | trivial
      rintro ⟨r0, r1, s0, s1⟩ hI
      simp only at hI ⊢
      have hb := hI.r
      have hs := hI.s
      have b0 : r0 < 2 ^ 256 := by omega
      have b1 : r1 < 2 ^ 256 := by omega
      have b2 : s0 < 2 ^ 256 := by omega
      have b3 : s1 < 2 ^ 256 := by omega
      rw [eq0_n4 b1]
      split
      · rename_i h2
        have h2 : r1 ≠ 0 := by simpa using h2
        have bq : r0 / r1 < 2 ^ 256 := Nat.lt_of_le_of_lt (Nat.div_le_self _ _) b0
        have bp : r0 / r1 * s1 < 2 ^ 256 * 2 ^ 256 := Nat.mul_lt_mul'' bq b3
        have bo : r0 / r1 * s1 % vB 18446744073709551616 m < vB 18446744073709551616 m := Nat.mod_lt _ (by omega)
        have br : r0 % r1 < 2 ^ 256 := Nat.lt_trans (Nat.mod_lt _ (by omega)) b1
        have dq : dvq r0 r1 = r0 / r1 := rfl
        have dr : dvr r0 r1 = r0 % r1 := if_neg h2
        have dM : dvr (r0 / r1 * s1) (vB 18446744073709551616 m) = r0 / r1 * s1 % vB 18446744073709551616 m := if_neg h0
        have bo2 : r0 / r1 * s1 % vB 18446744073709551616 m < 2 ^ 256 := by omega
        simp only [n4v b0, n4v b1, n4v b2, n4v b3, dq, dr, n8t bq, n8v bp, dM, n4v bo2, n4v br]
        have hS := inv_step hI h2
        unfold sNew at hS
        generalize hO : r0 / r1 * s1 % vB 18446744073709551616 m = o at *
        have q1 : okw (nB 18446744073709551616 4 r0 ++ [0, 0, 0, 0]) ∧ (nB 18446744073709551616 4 r0 ++ [0, 0, 0, 0]).length = 8 := ⟨okw_app (isN_n4 _).1 okw_zero, by rw [List.length_append, nB_length]; rfl⟩
        have q2 : isN (List.take 4 (nB 18446744073709551616 8 (r0 / r1))) := ⟨fun x hx => nB_okw 8 _ x (List.mem_of_mem_take hx), by rw [List.length_take, nB_length]; rfl⟩
        refine ⟨⟨_, _, rfl, (isN_n4 _).2, rfl⟩, ⟨_, _, rfl, q1, isN_n4 _⟩, ⟨_, rfl, nB_length _ _ _⟩, ⟨_, _, rfl, q2, isN_n4 _⟩, ⟨_, m, rfl, ⟨nB_okw 8 _, nB_length _ _ _⟩, hm⟩, ⟨_, _, rfl, isN_n4 _, isN_n4 _⟩, ?_⟩
        have hrr : r0 % r1 < r1 := Nat.mod_lt _ (by omega)
        by_cases ho : o ≤ s0
        · rw [if_pos ho] at hS
          rw [show bor s0 o = 0 from if_neg (by omega), show dif s0 o = s0 - o by unfold dif; omega, n4v (v := s0 - o) (by omega)]
          exact ⟨hS, hrr⟩
        · rw [if_neg ho] at hS
          have ed : dif s0 o = s0 + 2 ^ 256 - o := by unfold dif; omega
          rw [show bor s0 o = 1 from if_pos (by omega), ed, n4v (v := s0 + 2 ^ 256 - o) (by omega),
            show smN (s0 + 2 ^ 256 - o) (vB 18446744073709551616 m) = s0 + vB 18446744073709551616 m - o by unfold smN; omega, n4v (v := s0 + vB 18446744073709551616 m - o) (by omega)]
          exact ⟨⟨_, m, rfl, isN_n4 _, hm⟩, hS, hrr⟩
      · rename_i h2
        have h2 : r1 = 0 := by simpa using h2
        subst h2
        obtain ⟨f1, f2⟩ := inv_iv hI
        rw [eq1_n4 b0]
        by_cases h3 : r0 = 1
        · obtain ⟨g1, g2⟩ := f1 h3
          rw [decide_eq_true h3, ← g1, g2]
          rfl
        · obtain ⟨g1, g2⟩ := f2 h3
          rw [decide_eq_false h3, g1, g2]
          rfl

end Go.Proofs.Ytfbfblhlnhnonaa
/- The law QuotInverts. -/
namespace Go.Proofs.Ytfbfblhlnhnonaa
open Go Go.Vg

noncomputable def c5 : Ctx := ⟨tab, lkS [(14, sp14), (16, sp16), (24, sp24), (32, sp32), (33, sp33), (34, sp34)], [], []⟩
--KEEP Nat.gcd Go.Vg.eqB Go.Vg.vB Go.Vg.nB Go.Vg.okd Go.Vg.okw Go.Vg.dg Go.Vg.dig Go.Vg.trimL okb lenOk lenS len1 sbd sbb dif bor cmpN shf i64ok subL dvq dvr dve sbD adl adc mulL mulH stL stH smN smC addL addK TimI TimJ isN invN ivX ivE InvI
set_option maxRecDepth 100000 in
theorem vc5  (l m : List Int) (F : D)  :
    (owed c5 (fun _ => none) Try.f5 [num4 l, num4 m] F) = (
 (True ∧ false = false) ∧
   (True ∧ false = false) ∧
    True ∧
     ((4 : Nat) ≠ (0 : Nat) ∧ (4 : Nat) = (4 : Nat) ∧ true = true) ∧
      ((4 : Nat) ≠ (0 : Nat) ∧ (4 : Nat) = (4 : Nat) ∧ true = true) ∧
       (∃ (l_1 : List Int), ∃ (m_1 : List Int), [D.arr IntKind.u64 (4 : Nat) l, D.arr IntKind.u64 (4 : Nat) m] = [D.arr IntKind.u64 (4 : Nat) l_1, D.arr IntKind.u64 (4 : Nat) m_1] ∧ isN l_1 ∧ isN m_1) ∧
        True ∧
         ((0 : Nat) < (2 : Nat) ∧ false = false) ∧
          ((1 : Nat) < (2 : Nat) ∧ false = false) ∧
           (True ∧ (4 : Nat) ≠ (0 : Nat)) ∧
            (Sk.arr (4 : Nat) = Sk.arr (4 : Nat) ∧ (4 : Nat) ≠ (0 : Nat) ∧ (4 : Nat) = (4 : Nat) ∧ false = false) ∧
             True ∧
              ((4 : Nat) ≠ (0 : Nat) ∧ (4 : Nat) = (4 : Nat) ∧ true = true) ∧
               (∃ (l : List Int), [D.arr IntKind.u64 (4 : Nat) m] = [D.arr IntKind.u64 (4 : Nat) l] ∧ okw l ∧ l.length = (4 : Nat)) ∧
                True ∧
                 True ∧
                  True ∧
                   True ∧
                    True ∧
                     match (↑(dg (vB (18446744073709551616 : Nat) m)).length : Int) == (0 : Int) with
                     | true =>
                      ((4 : Nat) ≠ (0 : Nat) ∧ (4 : Nat) = (4 : Nat) ∧ true = true) ∧
                       ((4 : Nat) ≠ (0 : Nat) ∧ (4 : Nat) = (4 : Nat) ∧ true = true) ∧
                        (IntKind.u64 = IntKind.u64 ∧ IntKind.u64 = IntKind.u64 ∧ (4 : Nat) = (4 : Nat) ∧ (4 : Nat) = (4 : Nat) ∧ (1 : Nat) = (1 : Nat)) ∧
                         True ∧
                          match eqB (nB (18446744073709551616 : Nat) (4 : Nat) (ivX (vB (18446744073709551616 : Nat) l) (vB (18446744073709551616 : Nat) m))) m with
                          | true => True ∧ True ∧ True ∧ True ∧ (false = false ∧ True) ∧ D.val (Value.bool ((↑(ivE (vB (18446744073709551616 : Nat) l) (vB (18446744073709551616 : Nat) m)) : Int) == (1 : Int))) = F
                          | false => True ∧ True ∧ (false = false ∧ True) ∧ D.val (Value.bool false) = F
                     | false =>
                      ((4 : Nat) ≠ (0 : Nat) ∧ (4 : Nat) = (4 : Nat) ∧ true = true) ∧
                       (∃ (l_1 : List Int), [D.arr IntKind.u64 (4 : Nat) l] = [D.arr IntKind.u64 (4 : Nat) l_1] ∧ okw l_1 ∧ l_1.length = (4 : Nat)) ∧
                        True ∧
                         (∃ (x : Nat), ∃ (y : Nat), [D.ints IntKind.i64 (dg (vB (18446744073709551616 : Nat) l)), D.ints IntKind.i64 (dg (vB (18446744073709551616 : Nat) m))] = [D.ints IntKind.i64 (dg x), D.ints IntKind.i64 (dg y)] ∧ len1 (dg x) ∧ len1 (dg y)) ∧
                          ((1 : Nat) = (1 : Nat) ∧ (1 : Nat) ≤ (4096 : Nat)) ∧
                           (∃ (l_1 : List Int), ∃ (m_1 : List Int), [D.ints IntKind.i64 (dg ((vB (65536 : Nat) (dg (vB (18446744073709551616 : Nat) l))).gcd (vB (65536 : Nat) (dg (vB (18446744073709551616 : Nat) m))))), D.ints IntKind.i64 [(1 : Int)]] = [D.ints IntKind.i64 l_1, D.ints IntKind.i64 m_1] ∧ (okd l_1 ∧ lenS l_1) ∧ okd m_1 ∧ lenS m_1) ∧
                            True ∧
                             True ∧
                              match cmpN (vB (65536 : Nat) (dg ((vB (65536 : Nat) (dg (vB (18446744073709551616 : Nat) l))).gcd (vB (65536 : Nat) (dg (vB (18446744073709551616 : Nat) m)))))) (vB (65536 : Nat) [(1 : Int)]) != (0 : Int) with
                              | true =>
                               ((4 : Nat) ≠ (0 : Nat) ∧ (4 : Nat) = (4 : Nat) ∧ true = true) ∧
                                ((1 : Nat) = (1 : Nat) ∧ True) ∧
                                 (IntKind.u64 = IntKind.u64 ∧ IntKind.u64 = IntKind.u64 ∧ (4 : Nat) = (4 : Nat) ∧ (4 : Nat) = (4 : Nat) ∧ (1 : Nat) = (1 : Nat)) ∧
                                  True ∧
                                   match eqB (nB (18446744073709551616 : Nat) (4 : Nat) (ivX (vB (18446744073709551616 : Nat) l) (vB (18446744073709551616 : Nat) m))) [(0 : Int), (0 : Int), (0 : Int), (0 : Int)] with
                                   | true => True ∧ True ∧ True ∧ True ∧ (false = false ∧ True) ∧ D.val (Value.bool ((↑(ivE (vB (18446744073709551616 : Nat) l) (vB (18446744073709551616 : Nat) m)) : Int) == (6 : Int))) = F
                                   | false => True ∧ True ∧ (false = false ∧ True) ∧ D.val (Value.bool false) = F
                              | false =>
                               ((4 : Nat) ≠ (0 : Nat) ∧ (4 : Nat) = (4 : Nat) ∧ true = true) ∧
                                (∃ (l_1 : List Int), [D.arr IntKind.u64 (4 : Nat) (nB (18446744073709551616 : Nat) (4 : Nat) (ivX (vB (18446744073709551616 : Nat) l) (vB (18446744073709551616 : Nat) m)))] = [D.arr IntKind.u64 (4 : Nat) l_1] ∧ okw l_1 ∧ l_1.length = (4 : Nat)) ∧
                                 True ∧
                                  True ∧
                                   True ∧
                                    True ∧
                                     match (↑(ivE (vB (18446744073709551616 : Nat) l) (vB (18446744073709551616 : Nat) m)) : Int) == (0 : Int) with
                                     | true =>
                                      True ∧
                                       True ∧
                                        (∃ (l_1 : List Int),
                                          ∃ (m_1 : List Int),
                                           [D.ints IntKind.i64 (dg (vB (18446744073709551616 : Nat) (nB (18446744073709551616 : Nat) (4 : Nat) (ivX (vB (18446744073709551616 : Nat) l) (vB (18446744073709551616 : Nat) m))))), D.ints IntKind.i64 (dg (vB (18446744073709551616 : Nat) m))] = [D.ints IntKind.i64 l_1, D.ints IntKind.i64 m_1] ∧
                                            (okd l_1 ∧ lenS l_1) ∧ okd m_1 ∧ lenS m_1) ∧
                                         True ∧
                                          True ∧
                                           True ∧
                                            match decide (cmpN (vB (65536 : Nat) (dg (vB (18446744073709551616 : Nat) (nB (18446744073709551616 : Nat) (4 : Nat) (ivX (vB (18446744073709551616 : Nat) l) (vB (18446744073709551616 : Nat) m)))))) (vB (65536 : Nat) (dg (vB (18446744073709551616 : Nat) m))) < (0 : Int)) with
                                            | true =>
                                             ((4 : Nat) ≠ (0 : Nat) ∧ (4 : Nat) = (4 : Nat) ∧ true = true) ∧
                                              (∃ (l_1 : List Int), [D.arr IntKind.u64 (4 : Nat) l] = [D.arr IntKind.u64 (4 : Nat) l_1] ∧ okw l_1 ∧ l_1.length = (4 : Nat)) ∧
                                               True ∧
                                                (∃ (l_1 : List Int),
                                                  ∃ (m_1 : List Int),
                                                   [D.ints IntKind.i64 (dg (vB (18446744073709551616 : Nat) l)), D.ints IntKind.i64 (dg (vB (18446744073709551616 : Nat) (nB (18446744073709551616 : Nat) (4 : Nat) (ivX (vB (18446744073709551616 : Nat) l) (vB (18446744073709551616 : Nat) m)))))] = [D.ints IntKind.i64 l_1, D.ints IntKind.i64 m_1] ∧
                                                    (okd l_1 ∧ lenS l_1) ∧ okd m_1 ∧ lenS m_1) ∧
                                                 True ∧
                                                  (∃ (l_1 : List Int),
                                                    ∃ (m_1 : List Int),
                                                     [D.ints IntKind.i64 (dg (vB (65536 : Nat) (dg (vB (18446744073709551616 : Nat) l)) * vB (65536 : Nat) (dg (vB (18446744073709551616 : Nat) (nB (18446744073709551616 : Nat) (4 : Nat) (ivX (vB (18446744073709551616 : Nat) l) (vB (18446744073709551616 : Nat) m))))))),
                                                        D.ints IntKind.i64 (dg (vB (18446744073709551616 : Nat) m))] =
                                                       [D.ints IntKind.i64 l_1, D.ints IntKind.i64 m_1] ∧
                                                      (okd l_1 ∧ len1 l_1) ∧ (okd m_1 ∧ len1 m_1) ∧ vB (65536 : Nat) m_1 ≠ (0 : Nat)) ∧
                                                   ((1 : Nat) = (1 : Nat) ∧ (1 : Nat) ≤ (4096 : Nat)) ∧
                                                    True ∧
                                                     (∃ (l : List Int), ∃ (m_1 : List Int), [D.ints IntKind.i64 [(1 : Int)], D.ints IntKind.i64 (dg (vB (18446744073709551616 : Nat) m))] = [D.ints IntKind.i64 l, D.ints IntKind.i64 m_1] ∧ (okd l ∧ len1 l) ∧ (okd m_1 ∧ len1 m_1) ∧ vB (65536 : Nat) m_1 ≠ (0 : Nat)) ∧
                                                      (∃ (l_1 : List Int),
                                                        ∃ (m_1 : List Int),
                                                         [D.ints IntKind.i64
                                                             (dg
                                                              (vB (65536 : Nat) (dg (vB (65536 : Nat) (dg (vB (18446744073709551616 : Nat) l)) * vB (65536 : Nat) (dg (vB (18446744073709551616 : Nat) (nB (18446744073709551616 : Nat) (4 : Nat) (ivX (vB (18446744073709551616 : Nat) l) (vB (18446744073709551616 : Nat) m))))))) %
                                                               vB (65536 : Nat) (dg (vB (18446744073709551616 : Nat) m)))),
                                                            D.ints IntKind.i64 (dg (vB (65536 : Nat) [(1 : Int)] % vB (65536 : Nat) (dg (vB (18446744073709551616 : Nat) m))))] =
                                                           [D.ints IntKind.i64 l_1, D.ints IntKind.i64 m_1] ∧
                                                          (okd l_1 ∧ lenS l_1) ∧ okd m_1 ∧ lenS m_1) ∧
                                                       True ∧
                                                        True ∧
                                                         True ∧
                                                          (false = false ∧ True) ∧
                                                           D.val
                                                             (Value.bool
                                                              (cmpN
                                                                (vB (65536 : Nat)
                                                                 (dg
                                                                  (vB (65536 : Nat) (dg (vB (65536 : Nat) (dg (vB (18446744073709551616 : Nat) l)) * vB (65536 : Nat) (dg (vB (18446744073709551616 : Nat) (nB (18446744073709551616 : Nat) (4 : Nat) (ivX (vB (18446744073709551616 : Nat) l) (vB (18446744073709551616 : Nat) m))))))) %
                                                                   vB (65536 : Nat) (dg (vB (18446744073709551616 : Nat) m)))))
                                                                (vB (65536 : Nat) (dg (vB (65536 : Nat) [(1 : Int)] % vB (65536 : Nat) (dg (vB (18446744073709551616 : Nat) m))))) ==
                                                               (0 : Int))) =
                                                            F
                                            | false => True ∧ True ∧ (false = false ∧ True) ∧ D.val (Value.bool false) = F
                                     | false => True ∧ True ∧ True ∧ True ∧ (false = false ∧ True) ∧ D.val (Value.bool false) = F) := by kernel_rfl

theorem len_b {n k : Nat} (h : n < 65536 ^ k) (hk : k ≤ 1000) : len1 (dg n) ∧ lenOk (dg n) ∧ lenS (dg n) := by
  have := dg_len k n h
  exact ⟨by unfold len1; omega, by unfold lenOk; omega, by unfold lenS; omega⟩
theorem okAll2 {t : Tab} {n : Nat} {a b : TypeId} : ∀ {ds : List D}, OkAll t n [a, b] ds → ∃ d e, ds = [d, e] ∧ OkT t n a d ∧ OkT t n b e
  | [], h => by cases h
  | [_], h => by cases h.2
  | [d, e], h => ⟨d, e, rfl, h.1, h.2.1⟩
  | _ :: _ :: _ :: _, h => by cases h.2.2
theorem one_ok : okd [1] ∧ lenS [1] ∧ len1 [1] := ⟨fun x hx => by rw [List.mem_singleton.1 hx]; omega, by unfold lenS; decide, by unfold len1; decide⟩
theorem len_zero {n : Nat} : (((dg n).length : Nat) : Int) == 0 ↔ n = 0 := by
  constructor
  · intro h
    have h : (dg n).length = 0 := by have := eq_of_beq h; omega
    exact dg_nil (List.length_eq_zero_iff.1 h)
  · rintro rfl
    rfl

set_option maxRecDepth 100000 in
theorem m5 : Meets Try.prog 5 (lawSpec tab Try.f5.params.toList) := by
  refine meets_of_owed (C := c5) ⟨tab_ok, lkS_ok ⟨m14, m16, m24, m32, m33, m34, trivial⟩⟩ (by kernel_rfl) (by kernel_rfl : Try.prog.funcs[5]? = some Try.f5) (by kernel_rfl) (by kernel_rfl) (by kernel_rfl) _ ?_
  intro ds hds
  obtain ⟨l, m, rfl, hl, hm⟩ : ∃ l m, ds = [num4 l, num4 m] ∧ isN l ∧ isN m := by
    have hds : OkAll tab 8 [24, 24] ds := hds
    obtain ⟨d, e, rfl, h1, h2⟩ := okAll2 hds
    obtain ⟨l, rfl, h3, h4⟩ := num_of h1
    obtain ⟨m, rfl, h5, h6⟩ := num_of h2
    exact ⟨l, m, rfl, ⟨h3, h4⟩, h5, h6⟩
  refine ⟨fun _ => rfl, fun _ => none, ?_⟩
  show owed c5 (fun _ => none) Try.f5 [num4 l, num4 m] (.val (.bool true))
  rw [vc5]
  have hA := wv_lt hl.1 hl.2
  have hM := wv_lt hm.1 hm.2
  have mm := num_nB hm
  unfold wv at hA hM mm
  have o1 : vB 65536 [1] = 1 := rfl
  simp (decide := true) only [vl_dg, o1, eq_self, true_and, and_true, ne_eq, not_false_eq_true]
  generalize hVA : vB 18446744073709551616 l = A at *
  generalize hVM : vB 18446744073709551616 m = M at *
  refine ⟨⟨l, m, rfl, hl, hm⟩, ⟨m, rfl, hm⟩, ?_⟩
  have lA := len_b (n := A) (k := 16) (by rw [show 65536 ^ 16 = 2 ^ 256 from by decide]; exact hA) (by decide)
  have lM := len_b (n := M) (k := 16) (by rw [show 65536 ^ 16 = 2 ^ 256 from by decide]; exact hM) (by decide)
  split
  · rename_i h0
    have h0 : M = 0 := len_zero.1 h0
    have e1 : ivX A M = 0 := if_pos (by omega)
    have e2 : ivE A M = 1 := if_pos h0
    have e3 : nB 18446744073709551616 4 0 = m := by rw [← h0]; exact mm
    rw [e1, e2, e3, eqB_iff.2 rfl]
    rfl
  · rename_i h0
    have h0 : M ≠ 0 := by
      intro h1
      rw [len_zero.2 h1] at h0
      cases h0
    have hgle : Nat.gcd A M ≤ M := Nat.gcd_le_right _ (by omega)
    have hg0 : 0 < Nat.gcd A M := Nat.gcd_pos_of_pos_right _ (by omega)
    have lG := len_b (n := Nat.gcd A M) (k := 16) (by rw [show 65536 ^ 16 = 2 ^ 256 from by decide]; omega) (by decide)
    refine ⟨⟨l, rfl, hl⟩, ⟨A, M, rfl, lA.1, lM.1⟩, ⟨_, _, rfl, ⟨dg_ok _, lG.2.2⟩, one_ok.1, one_ok.2.1⟩, ?_⟩
    by_cases hg : Nat.gcd A M = 1
    · obtain ⟨i1, i2, i3⟩ := iv_one (A := A) (M := M) (by omega) hM hg
      rw [hg, show (cmpN 1 1 != 0) = false from rfl, i3, show (((0 : Nat) : Int) == 0) = true from rfl, n4v (v := ivX A M) (by omega)]
      have e4 : decide (cmpN (ivX A M) M < 0) = true := by
        unfold cmpN
        rw [if_pos i1]
        rfl
      rw [e4]
      have lX := len_b (n := ivX A M) (k := 16) (by rw [show 65536 ^ 16 = 2 ^ 256 from by decide]; omega) (by decide)
      have lP := len_b (n := A * ivX A M) (k := 32) (by rw [show 65536 ^ 32 = 2 ^ 256 * 2 ^ 256 from by decide]; exact Nat.mul_lt_mul'' hA (by omega)) (by decide)
      have lR := len_b (n := A * ivX A M % M) (k := 16) (by rw [show 65536 ^ 16 = 2 ^ 256 from by decide]; exact Nat.lt_trans (Nat.mod_lt _ (by omega)) hM) (by decide)
      have l1 := len_b (n := 1 % M) (k := 16) (by rw [show 65536 ^ 16 = 2 ^ 256 from by decide]; exact Nat.lt_trans (Nat.mod_lt _ (by omega)) hM) (by decide)
      have e5 : (cmpN (A * ivX A M % M) (1 % M) == 0) = true := by
        rw [i2]
        unfold cmpN
        rw [if_neg (by omega), if_neg (by omega)]
        rfl
      rw [e5]
      refine ⟨⟨_, rfl, isN_n4 _⟩, ⟨_, _, rfl, ⟨dg_ok _, lX.2.2⟩, dg_ok _, lM.2.2⟩, ⟨l, rfl, hl⟩, ⟨_, _, rfl, ⟨dg_ok _, lA.2.2⟩, dg_ok _, lX.2.2⟩, ⟨_, _, rfl, ⟨dg_ok _, lP.1⟩, ⟨dg_ok _, lM.1⟩, by rw [vl_dg]; exact h0⟩,
        ⟨_, _, rfl, ⟨one_ok.1, one_ok.2.2⟩, ⟨dg_ok _, lM.1⟩, by rw [vl_dg]; exact h0⟩, ⟨_, _, rfl, ⟨dg_ok _, lR.2.2⟩, dg_ok _, l1.2.2⟩, rfl⟩
    · have h1 : M ≠ 1 := by
        rintro rfl
        exact hg (Nat.gcd_one_right A)
      have e1 : ivX A M = 0 := by
        unfold ivX
        rw [if_neg (show ¬ M ≤ 1 by omega), if_neg hg]
      have e2 : ivE A M = 6 := by
        unfold ivE
        rw [if_neg h0, if_neg h1, if_neg hg]
      have e3 : (cmpN (Nat.gcd A M) 1 != 0) = true := by
        unfold cmpN
        rw [if_neg (by omega), if_pos (by omega)]
        rfl
      rw [e3, e1, e2]
      have e4 : eqB (nB 18446744073709551616 4 0) [0, 0, 0, 0] = true := eqB_iff.2 rfl
      rw [e4]
      rfl

end Go.Proofs.Ytfbfblhlnhnonaa
