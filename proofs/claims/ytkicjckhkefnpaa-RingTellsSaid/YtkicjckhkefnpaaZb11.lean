/- QuotInverts: Inverse: its spec and what it owes. -/
import Derived.Test.YtkicjckhkefnpaaZb10
namespace Go.Proofs.Ytkicjckhkefnpaa
open Go Go.Vg

/-- The inverse, where there is one below m. -/
noncomputable def invN (A M : Nat) : Nat := @dite _ (∃ x, x < M ∧ A * x % M = 1) (Classical.propDecidable _) (fun h => Classical.choose h) (fun _ => 0)
/-- What Inverse answers: the number, and the code. -/
noncomputable def ivX (A M : Nat) : Nat := if M ≤ 1 then 0 else if Nat.gcd A M = 1 then invN A M else 0
noncomputable def ivE (A M : Nat) : Nat := if M = 0 then 1 else if M = 1 then 0 else if Nat.gcd A M = 1 then 0 else 6
noncomputable def sp96 : Go.Vg.Spec := ⟨fun ds => ∃ l m, ds = [num4 l, num4 m] ∧ isN l ∧ isN m,
  fun ds => .tup [num4 (nB 18446744073709551616 4 (ivX (wv (arrOf (ds.headD default))) (wv (arrOf (ds.getD 1 default))))), i64n (ivE (wv (arrOf (ds.headD default))) (wv (arrOf (ds.getD 1 default))))], true, [27, 27]⟩
def c96 : Ctx := ⟨tab, lkS [(73, sp73), (75, sp75), (70, sp70), (69, sp69), (83, sp83), (102, sp102), (111, sp111)], [], [200006, 200007, 200009, 200010, 200011, 200012, 200014, 200018]⟩
abbrev n4 (v : Nat) : D := num4 (nB 18446744073709551616 4 v)
structure InvI (A M r0 r1 s0 s1 : Nat) : Prop where
  big : 1 < M
  top : M < 2 ^ 256
  r : r1 < r0 ∧ r0 ≤ M
  s : s0 < M ∧ s1 < M
  g : Nat.gcd r0 r1 = Nat.gcd A M
  e0 : ∃ k : Int, (A : Int) * (s0 : Int) = (r0 : Int) + k * (M : Int)
  e1 : ∃ k : Int, (A : Int) * (s1 : Int) = (r1 : Int) + k * (M : Int)
def inv96 (l m : List Int) : Nat → Option Inv
  | 8 => some ⟨Nat × Nat × Nat × Nat, fun _ => [], fun x => [(9, .fix (n4 x.1)), (10, .fix (n4 x.2.1)), (11, .fix (n4 x.2.2.1)), (12, .fix (n4 x.2.2.2))], fun s => (wv (rowD s 9), wv (rowD s 10), wv (rowD s 11), wv (rowD s 12)),
      fun _ x => InvI (wv l) (wv m) x.1 x.2.1 x.2.2.1 x.2.2.2, fun x => x.2.1⟩
  | _ => none
--KEEP Nat.gcd Go.Vg.eqB Go.Vg.vB Go.Vg.nB Go.Vg.okd Go.Vg.okw Go.Vg.dg Go.Vg.dig Go.Vg.trimL okb lenOk lenS len1 sbd sbb dif bor cmpN shf i64ok subL dvq dvr dve sbD adl adc mulL mulH stL stH smN smC addL addK TimI TimJ isN invN ivX ivE InvI
set_option maxRecDepth 100000 in
theorem vc96  (l m : List Int) (F : D)  :
    (owed c96 (inv96 l m) Try.f96 [num4 l, num4 m] F) = (
 (True ∧ false = false) ∧
   (True ∧ false = false) ∧
    (True ∧ (4 : Nat) ≠ (0 : Nat)) ∧
     True ∧
      (True ∧ (4 : Nat) ≠ (0 : Nat)) ∧
       ((4 : Nat) ≠ (0 : Nat) ∧ (4 : Nat) = (4 : Nat) ∧ true = true) ∧
        (true = true ∧ (4 : Nat) ≠ (0 : Nat) ∧ (4 : Nat) = (4 : Nat) ∧ true = true) ∧
         (∃ (l_1 : List Int), ∃ (m : List Int), [D.arr IntKind.u64 (4 : Nat) l, D.arr IntKind.u64 (4 : Nat) [(0 : Int), (0 : Int), (0 : Int), (0 : Int)]] = [D.arr IntKind.u64 (4 : Nat) l_1, D.arr IntKind.u64 (4 : Nat) m] ∧ l_1.length = (4 : Nat) ∧ m.length = (4 : Nat)) ∧
          ((4 : Nat) ≠ (0 : Nat) ∧ (4 : Nat) = (4 : Nat) ∧ true = true) ∧
           (∃ (a : List Int), ∃ (m_1 : List Int), [D.arr IntKind.u64 (8 : Nat) (l ++ [(0 : Int), (0 : Int), (0 : Int), (0 : Int)]), D.arr IntKind.u64 (4 : Nat) m] = [D.arr IntKind.u64 (8 : Nat) a, D.arr IntKind.u64 (4 : Nat) m_1] ∧ (okw a ∧ a.length = (8 : Nat)) ∧ okw m_1 ∧ m_1.length = (4 : Nat)) ∧
            True ∧
             ((0 : Nat) < (2 : Nat) ∧ false = false) ∧
              ((1 : Nat) < (2 : Nat) ∧ false = false) ∧
               (True ∧ (4 : Nat) ≠ (0 : Nat)) ∧
                (true = true ∧ Sk.arr (4 : Nat) = Sk.arr (4 : Nat) ∧ (4 : Nat) ≠ (0 : Nat) ∧ (4 : Nat) = (4 : Nat) ∧ false = false) ∧
                 True ∧
                  True ∧
                   True ∧
                    match (↑(dve (vB (18446744073709551616 : Nat) m)) : Int) != (0 : Int) with
                    | true =>
                     (true = true ∧ (4 : Nat) ≠ (0 : Nat) ∧ (4 : Nat) = (4 : Nat) ∧ true = true) ∧
                      True ∧
                       (Sk.arr (4 : Nat) = Sk.arr (4 : Nat) ∧ (4 : Nat) ≠ (0 : Nat) ∧ (4 : Nat) = (4 : Nat) ∧ false = false) ∧
                        True ∧ (((4 : Nat) ≠ (0 : Nat) ∧ (4 : Nat) = (4 : Nat) ∧ true = true) ∧ false = false ∧ True) ∧ D.tup [D.arr IntKind.u64 (4 : Nat) [(0 : Int), (0 : Int), (0 : Int), (0 : Int)], D.val (Value.int IntKind.i64 (↑(dve (vB (18446744073709551616 : Nat) m)) : Int))] = F
                    | false =>
                     ((4 : Nat) ≠ (0 : Nat) ∧ (4 : Nat) = (4 : Nat) ∧ true = true) ∧
                      ((1 : Nat) = (1 : Nat) ∧ false = false ∧ ((0 : Nat) < (4 : Nat) ∧ ([] : List Nat) = [] ∧ true = true) ∧ True) ∧
                       (IntKind.u64 = IntKind.u64 ∧ IntKind.u64 = IntKind.u64 ∧ (4 : Nat) = (4 : Nat) ∧ (4 : Nat) = (4 : Nat) ∧ (1 : Nat) = (1 : Nat)) ∧
                        match eqB m [(1 : Int), (0 : Int), (0 : Int), (0 : Int)] with
                        | true =>
                         (true = true ∧ (4 : Nat) ≠ (0 : Nat) ∧ (4 : Nat) = (4 : Nat) ∧ true = true) ∧
                          (Sk.arr (4 : Nat) = Sk.arr (4 : Nat) ∧ (4 : Nat) ≠ (0 : Nat) ∧ (4 : Nat) = (4 : Nat) ∧ false = false) ∧ True ∧ (((4 : Nat) ≠ (0 : Nat) ∧ (4 : Nat) = (4 : Nat) ∧ true = true) ∧ false = false ∧ True) ∧ D.tup [D.arr IntKind.u64 (4 : Nat) [(0 : Int), (0 : Int), (0 : Int), (0 : Int)], D.val (Value.int IntKind.i64 (0 : Int))] = F
                        | false =>
                         ((4 : Nat) ≠ (0 : Nat) ∧ (4 : Nat) = (4 : Nat) ∧ true = true) ∧
                          (true = true ∧ (4 : Nat) ≠ (0 : Nat) ∧ (4 : Nat) = (4 : Nat) ∧ true = true) ∧
                           (true = true ∧ (4 : Nat) ≠ (0 : Nat) ∧ (4 : Nat) = (4 : Nat) ∧ true = true) ∧
                            ((1 : Nat) = (1 : Nat) ∧ false = false ∧ ((0 : Nat) < (4 : Nat) ∧ ([] : List Nat) = [] ∧ true = true) ∧ True) ∧
                             (True ∧ (4 : Nat) ≠ (0 : Nat)) ∧
                              (True ∧ (4 : Nat) ≠ (0 : Nat)) ∧
                               (True ∧ (4 : Nat) ≠ (0 : Nat)) ∧
                                (True ∧ (4 : Nat) ≠ (0 : Nat)) ∧
                                 (true = true ∧ Sk.arr (4 : Nat) = Sk.arr (4 : Nat) ∧ (4 : Nat) ≠ (0 : Nat) ∧ (4 : Nat) = (4 : Nat) ∧ false = false) ∧
                                  (true = true ∧ Sk.arr (4 : Nat) = Sk.arr (4 : Nat) ∧ (4 : Nat) ≠ (0 : Nat) ∧ (4 : Nat) = (4 : Nat) ∧ false = false) ∧
                                   (true = true ∧ Sk.arr (4 : Nat) = Sk.arr (4 : Nat) ∧ (4 : Nat) ≠ (0 : Nat) ∧ (4 : Nat) = (4 : Nat) ∧ false = false) ∧
                                    (true = true ∧ Sk.arr (4 : Nat) = Sk.arr (4 : Nat) ∧ (4 : Nat) ≠ (0 : Nat) ∧ (4 : Nat) = (4 : Nat) ∧ false = false) ∧
                                     ((True ∧
                                        (some (Blk.fix (D.arr IntKind.u64 (4 : Nat) l)) = some (Blk.fix (D.arr IntKind.u64 (4 : Nat) l)) ∧
                                          some (Blk.fix (D.arr IntKind.u64 (4 : Nat) m)) = some (Blk.fix (D.arr IntKind.u64 (4 : Nat) m)) ∧
                                           some (Blk.fix (D.arr IntKind.u64 (4 : Nat) [(0 : Int), (0 : Int), (0 : Int), (0 : Int)])) = some (Blk.fix (D.arr IntKind.u64 (4 : Nat) [(0 : Int), (0 : Int), (0 : Int), (0 : Int)])) ∧
                                            some (Blk.fix (D.arr IntKind.u64 (4 : Nat) [(0 : Int), (0 : Int), (0 : Int), (0 : Int)])) = some (Blk.fix (D.arr IntKind.u64 (4 : Nat) [(0 : Int), (0 : Int), (0 : Int), (0 : Int)])) ∧
                                             some (Blk.fix (D.arr IntKind.u64 (4 : Nat) (nB (18446744073709551616 : Nat) (4 : Nat) (dvr (vB (18446744073709551616 : Nat) (l ++ [(0 : Int), (0 : Int), (0 : Int), (0 : Int)])) (vB (18446744073709551616 : Nat) m))))) =
                                               some (Blk.fix (D.arr IntKind.u64 (4 : Nat) (nB (18446744073709551616 : Nat) (4 : Nat) (dvr (vB (18446744073709551616 : Nat) (l ++ [(0 : Int), (0 : Int), (0 : Int), (0 : Int)])) (vB (18446744073709551616 : Nat) m))))) ∧
                                              some (Blk.fix (D.arr IntKind.u64 (4 : Nat) m)) = some (Blk.fix (D.arr IntKind.u64 (4 : Nat) (nB (18446744073709551616 : Nat) (4 : Nat) (vB (18446744073709551616 : Nat) m)))) ∧
                                               some (Blk.fix (D.arr IntKind.u64 (4 : Nat) (nB (18446744073709551616 : Nat) (4 : Nat) (dvr (vB (18446744073709551616 : Nat) (l ++ [(0 : Int), (0 : Int), (0 : Int), (0 : Int)])) (vB (18446744073709551616 : Nat) m))))) =
                                                 some (Blk.fix (D.arr IntKind.u64 (4 : Nat) (nB (18446744073709551616 : Nat) (4 : Nat) (vB (18446744073709551616 : Nat) (nB (18446744073709551616 : Nat) (4 : Nat) (dvr (vB (18446744073709551616 : Nat) (l ++ [(0 : Int), (0 : Int), (0 : Int), (0 : Int)])) (vB (18446744073709551616 : Nat) m))))))) ∧
                                                some (Blk.fix (D.arr IntKind.u64 (4 : Nat) [(0 : Int), (0 : Int), (0 : Int), (0 : Int)])) = some (Blk.fix (D.arr IntKind.u64 (4 : Nat) (nB (18446744073709551616 : Nat) (4 : Nat) (vB (18446744073709551616 : Nat) [(0 : Int), (0 : Int), (0 : Int), (0 : Int)])))) ∧
                                                 some (Blk.fix (D.arr IntKind.u64 (4 : Nat) [(1 : Int), (0 : Int), (0 : Int), (0 : Int)])) = some (Blk.fix (D.arr IntKind.u64 (4 : Nat) (nB (18446744073709551616 : Nat) (4 : Nat) (vB (18446744073709551616 : Nat) [(1 : Int), (0 : Int), (0 : Int), (0 : Int)])))) ∧ True) ∧
                                         true = true) ∧
                                       InvI (vB (18446744073709551616 : Nat) l) (vB (18446744073709551616 : Nat) m) (vB (18446744073709551616 : Nat) m) (vB (18446744073709551616 : Nat) (nB (18446744073709551616 : Nat) (4 : Nat) (dvr (vB (18446744073709551616 : Nat) (l ++ [(0 : Int), (0 : Int), (0 : Int), (0 : Int)])) (vB (18446744073709551616 : Nat) m))))
                                        (vB (18446744073709551616 : Nat) [(0 : Int), (0 : Int), (0 : Int), (0 : Int)]) (vB (18446744073709551616 : Nat) [(1 : Int), (0 : Int), (0 : Int), (0 : Int)])) ∧
                                      ∀ (x : Nat × Nat × Nat × Nat),
                                       InvI (vB (18446744073709551616 : Nat) l) (vB (18446744073709551616 : Nat) m) x.fst x.snd.fst x.snd.snd.fst x.snd.snd.snd →
                                        true = true ∧
                                         (true = true ∧ (4 : Nat) ≠ (0 : Nat) ∧ (4 : Nat) = (4 : Nat) ∧ true = true) ∧
                                          (true = true ∧ (4 : Nat) ≠ (0 : Nat) ∧ (4 : Nat) = (4 : Nat) ∧ true = true) ∧
                                           (IntKind.u64 = IntKind.u64 ∧ IntKind.u64 = IntKind.u64 ∧ (4 : Nat) = (4 : Nat) ∧ (4 : Nat) = (4 : Nat) ∧ (1 : Nat) = (1 : Nat)) ∧
                                            match !eqB (nB (18446744073709551616 : Nat) (4 : Nat) x.snd.fst) [(0 : Int), (0 : Int), (0 : Int), (0 : Int)] with
                                            | true =>
                                             (true = true ∧ (4 : Nat) ≠ (0 : Nat) ∧ (4 : Nat) = (4 : Nat) ∧ true = true) ∧
                                              (true = true ∧ (4 : Nat) ≠ (0 : Nat) ∧ (4 : Nat) = (4 : Nat) ∧ true = true) ∧
                                               (∃ (l : List Int), ∃ (m : List Int), [D.arr IntKind.u64 (4 : Nat) (nB (18446744073709551616 : Nat) (4 : Nat) x.fst), D.arr IntKind.u64 (4 : Nat) [(0 : Int), (0 : Int), (0 : Int), (0 : Int)]] = [D.arr IntKind.u64 (4 : Nat) l, D.arr IntKind.u64 (4 : Nat) m] ∧ l.length = (4 : Nat) ∧ m.length = (4 : Nat)) ∧
                                                (true = true ∧ (4 : Nat) ≠ (0 : Nat) ∧ (4 : Nat) = (4 : Nat) ∧ true = true) ∧
                                                 (∃ (a : List Int),
                                                   ∃ (m : List Int),
                                                    [D.arr IntKind.u64 (8 : Nat) (nB (18446744073709551616 : Nat) (4 : Nat) x.fst ++ [(0 : Int), (0 : Int), (0 : Int), (0 : Int)]), D.arr IntKind.u64 (4 : Nat) (nB (18446744073709551616 : Nat) (4 : Nat) x.snd.fst)] = [D.arr IntKind.u64 (8 : Nat) a, D.arr IntKind.u64 (4 : Nat) m] ∧
                                                     (okw a ∧ a.length = (8 : Nat)) ∧ okw m ∧ m.length = (4 : Nat)) ∧
                                                  True ∧
                                                   ((0 : Nat) < (3 : Nat) ∧ false = false) ∧
                                                    ((1 : Nat) < (3 : Nat) ∧ false = false) ∧
                                                     ((2 : Nat) < (3 : Nat) ∧ false = false) ∧
                                                      (True ∧ (8 : Nat) ≠ (0 : Nat)) ∧
                                                       (True ∧ (4 : Nat) ≠ (0 : Nat)) ∧
                                                        (Sk.arr (8 : Nat) = Sk.arr (8 : Nat) ∧ (8 : Nat) ≠ (0 : Nat) ∧ (8 : Nat) = (8 : Nat) ∧ false = false) ∧
                                                         (true = true ∧ Sk.arr (4 : Nat) = Sk.arr (4 : Nat) ∧ (4 : Nat) ≠ (0 : Nat) ∧ (4 : Nat) = (4 : Nat) ∧ false = false) ∧
                                                          True ∧
                                                           ((8 : Nat) ≠ (0 : Nat) ∧ (8 : Nat) = (8 : Nat) ∧ true = true) ∧
                                                            (∃ (l : List Int),
                                                              [D.arr IntKind.u64 (8 : Nat)
                                                                  (nB (18446744073709551616 : Nat) (8 : Nat)
                                                                   (dvq (vB (18446744073709551616 : Nat) (nB (18446744073709551616 : Nat) (4 : Nat) x.fst ++ [(0 : Int), (0 : Int), (0 : Int), (0 : Int)])) (vB (18446744073709551616 : Nat) (nB (18446744073709551616 : Nat) (4 : Nat) x.snd.fst))))] =
                                                                [D.arr IntKind.u64 (8 : Nat) l] ∧
                                                               l.length = (8 : Nat)) ∧
                                                             (true = true ∧ (4 : Nat) ≠ (0 : Nat) ∧ (4 : Nat) = (4 : Nat) ∧ true = true) ∧
                                                              (∃ (l : List Int),
                                                                ∃ (m : List Int),
                                                                 [D.arr IntKind.u64 (4 : Nat)
                                                                     (List.take (4 : Nat)
                                                                      (nB (18446744073709551616 : Nat) (8 : Nat)
                                                                       (dvq (vB (18446744073709551616 : Nat) (nB (18446744073709551616 : Nat) (4 : Nat) x.fst ++ [(0 : Int), (0 : Int), (0 : Int), (0 : Int)])) (vB (18446744073709551616 : Nat) (nB (18446744073709551616 : Nat) (4 : Nat) x.snd.fst))))),
                                                                    D.arr IntKind.u64 (4 : Nat) (nB (18446744073709551616 : Nat) (4 : Nat) x.snd.snd.snd)] =
                                                                   [D.arr IntKind.u64 (4 : Nat) l, D.arr IntKind.u64 (4 : Nat) m] ∧
                                                                  isN l ∧ isN m) ∧
                                                               ((4 : Nat) ≠ (0 : Nat) ∧ (4 : Nat) = (4 : Nat) ∧ true = true) ∧
                                                                (∃ (a : List Int),
                                                                  ∃ (m_1 : List Int),
                                                                   [D.arr IntKind.u64 (8 : Nat)
                                                                       (nB (18446744073709551616 : Nat) (8 : Nat)
                                                                        (vB (18446744073709551616 : Nat)
                                                                          (List.take (4 : Nat)
                                                                           (nB (18446744073709551616 : Nat) (8 : Nat)
                                                                            (dvq (vB (18446744073709551616 : Nat) (nB (18446744073709551616 : Nat) (4 : Nat) x.fst ++ [(0 : Int), (0 : Int), (0 : Int), (0 : Int)])) (vB (18446744073709551616 : Nat) (nB (18446744073709551616 : Nat) (4 : Nat) x.snd.fst))))) *
                                                                         vB (18446744073709551616 : Nat) (nB (18446744073709551616 : Nat) (4 : Nat) x.snd.snd.snd))),
                                                                      D.arr IntKind.u64 (4 : Nat) m] =
                                                                     [D.arr IntKind.u64 (8 : Nat) a, D.arr IntKind.u64 (4 : Nat) m_1] ∧
                                                                    (okw a ∧ a.length = (8 : Nat)) ∧ okw m_1 ∧ m_1.length = (4 : Nat)) ∧
                                                                 True ∧
                                                                  ((0 : Nat) < (2 : Nat) ∧ false = false) ∧
                                                                   ((1 : Nat) < (2 : Nat) ∧ false = false) ∧
                                                                    (True ∧ (4 : Nat) ≠ (0 : Nat)) ∧
                                                                     (Sk.arr (4 : Nat) = Sk.arr (4 : Nat) ∧ (4 : Nat) ≠ (0 : Nat) ∧ (4 : Nat) = (4 : Nat) ∧ false = false) ∧
                                                                      True ∧
                                                                       (true = true ∧ (4 : Nat) ≠ (0 : Nat) ∧ (4 : Nat) = (4 : Nat) ∧ true = true) ∧
                                                                        ((4 : Nat) ≠ (0 : Nat) ∧ (4 : Nat) = (4 : Nat) ∧ true = true) ∧
                                                                         (∃ (l : List Int),
                                                                           ∃ (m_1 : List Int),
                                                                            [D.arr IntKind.u64 (4 : Nat) (nB (18446744073709551616 : Nat) (4 : Nat) x.snd.snd.fst),
                                                                               D.arr IntKind.u64 (4 : Nat)
                                                                                (nB (18446744073709551616 : Nat) (4 : Nat)
                                                                                 (dvr
                                                                                  (vB (18446744073709551616 : Nat)
                                                                                   (nB (18446744073709551616 : Nat) (8 : Nat)
                                                                                    (vB (18446744073709551616 : Nat)
                                                                                      (List.take (4 : Nat)
                                                                                       (nB (18446744073709551616 : Nat) (8 : Nat)
                                                                                        (dvq (vB (18446744073709551616 : Nat) (nB (18446744073709551616 : Nat) (4 : Nat) x.fst ++ [(0 : Int), (0 : Int), (0 : Int), (0 : Int)]))
                                                                                         (vB (18446744073709551616 : Nat) (nB (18446744073709551616 : Nat) (4 : Nat) x.snd.fst))))) *
                                                                                     vB (18446744073709551616 : Nat) (nB (18446744073709551616 : Nat) (4 : Nat) x.snd.snd.snd))))
                                                                                  (vB (18446744073709551616 : Nat) m)))] =
                                                                              [D.arr IntKind.u64 (4 : Nat) l, D.arr IntKind.u64 (4 : Nat) m_1] ∧
                                                                             (okw l ∧ l.length = (4 : Nat)) ∧ okw m_1 ∧ m_1.length = (4 : Nat)) ∧
                                                                          True ∧
                                                                           ((0 : Nat) < (2 : Nat) ∧ false = false) ∧
                                                                            ((1 : Nat) < (2 : Nat) ∧ false = false) ∧
                                                                             (True ∧ (4 : Nat) ≠ (0 : Nat)) ∧
                                                                              (true = true ∧ Sk.arr (4 : Nat) = Sk.arr (4 : Nat) ∧ (4 : Nat) ≠ (0 : Nat) ∧ (4 : Nat) = (4 : Nat) ∧ false = false) ∧
                                                                               True ∧
                                                                                True ∧
                                                                                 True ∧
                                                                                  match
                                                                                   (↑(bor (vB (18446744073709551616 : Nat) (nB (18446744073709551616 : Nat) (4 : Nat) x.snd.snd.fst))
                                                                                       (vB (18446744073709551616 : Nat)
                                                                                        (nB (18446744073709551616 : Nat) (4 : Nat)
                                                                                         (dvr
                                                                                          (vB (18446744073709551616 : Nat)
                                                                                           (nB (18446744073709551616 : Nat) (8 : Nat)
                                                                                            (vB (18446744073709551616 : Nat)
                                                                                              (List.take (4 : Nat)
                                                                                               (nB (18446744073709551616 : Nat) (8 : Nat)
                                                                                                (dvq (vB (18446744073709551616 : Nat) (nB (18446744073709551616 : Nat) (4 : Nat) x.fst ++ [(0 : Int), (0 : Int), (0 : Int), (0 : Int)]))
                                                                                                 (vB (18446744073709551616 : Nat) (nB (18446744073709551616 : Nat) (4 : Nat) x.snd.fst))))) *
                                                                                             vB (18446744073709551616 : Nat) (nB (18446744073709551616 : Nat) (4 : Nat) x.snd.snd.snd))))
                                                                                          (vB (18446744073709551616 : Nat) m))))) :
                                                                                     Int) ==
                                                                                    (1 : Int) with
                                                                                  | true =>
                                                                                   (true = true ∧ (4 : Nat) ≠ (0 : Nat) ∧ (4 : Nat) = (4 : Nat) ∧ true = true) ∧
                                                                                    ((4 : Nat) ≠ (0 : Nat) ∧ (4 : Nat) = (4 : Nat) ∧ true = true) ∧
                                                                                     (∃ (l : List Int),
                                                                                       ∃ (m_1 : List Int),
                                                                                        [D.arr IntKind.u64 (4 : Nat)
                                                                                            (nB (18446744073709551616 : Nat) (4 : Nat)
                                                                                             (dif (vB (18446744073709551616 : Nat) (nB (18446744073709551616 : Nat) (4 : Nat) x.snd.snd.fst))
                                                                                              (vB (18446744073709551616 : Nat)
                                                                                               (nB (18446744073709551616 : Nat) (4 : Nat)
                                                                                                (dvr
                                                                                                 (vB (18446744073709551616 : Nat)
                                                                                                  (nB (18446744073709551616 : Nat) (8 : Nat)
                                                                                                   (vB (18446744073709551616 : Nat)
                                                                                                     (List.take (4 : Nat)
                                                                                                      (nB (18446744073709551616 : Nat) (8 : Nat)
                                                                                                       (dvq (vB (18446744073709551616 : Nat) (nB (18446744073709551616 : Nat) (4 : Nat) x.fst ++ [(0 : Int), (0 : Int), (0 : Int), (0 : Int)]))
                                                                                                        (vB (18446744073709551616 : Nat) (nB (18446744073709551616 : Nat) (4 : Nat) x.snd.fst))))) *
                                                                                                    vB (18446744073709551616 : Nat) (nB (18446744073709551616 : Nat) (4 : Nat) x.snd.snd.snd))))
                                                                                                 (vB (18446744073709551616 : Nat) m)))))),
                                                                                           D.arr IntKind.u64 (4 : Nat) m] =
                                                                                          [D.arr IntKind.u64 (4 : Nat) l, D.arr IntKind.u64 (4 : Nat) m_1] ∧
                                                                                         isN l ∧ isN m_1) ∧
                                                                                      True ∧
                                                                                       ((0 : Nat) < (2 : Nat) ∧ false = false) ∧
                                                                                        ((1 : Nat) < (2 : Nat) ∧ false = false) ∧
                                                                                         (true = true ∧ Sk.arr (4 : Nat) = Sk.arr (4 : Nat) ∧ (4 : Nat) ≠ (0 : Nat) ∧ (4 : Nat) = (4 : Nat) ∧ false = false) ∧
                                                                                          (true = true ∧ (4 : Nat) ≠ (0 : Nat) ∧ (4 : Nat) = (4 : Nat) ∧ true = true) ∧
                                                                                           (true = true ∧ (4 : Nat) ≠ (0 : Nat) ∧ (4 : Nat) = (4 : Nat) ∧ true = true) ∧
                                                                                            (true = true ∧ (4 : Nat) ≠ (0 : Nat) ∧ (4 : Nat) = (4 : Nat) ∧ true = true) ∧
                                                                                             (true = true ∧ (4 : Nat) ≠ (0 : Nat) ∧ (4 : Nat) = (4 : Nat) ∧ true = true) ∧
                                                                                              (true = true ∧ Sk.arr (4 : Nat) = Sk.arr (4 : Nat) ∧ (4 : Nat) ≠ (0 : Nat) ∧ (4 : Nat) = (4 : Nat) ∧ false = false) ∧
                                                                                               (true = true ∧ Sk.arr (4 : Nat) = Sk.arr (4 : Nat) ∧ (4 : Nat) ≠ (0 : Nat) ∧ (4 : Nat) = (4 : Nat) ∧ false = false) ∧
                                                                                                (true = true ∧ Sk.arr (4 : Nat) = Sk.arr (4 : Nat) ∧ (4 : Nat) ≠ (0 : Nat) ∧ (4 : Nat) = (4 : Nat) ∧ false = false) ∧
                                                                                                 (true = true ∧ Sk.arr (4 : Nat) = Sk.arr (4 : Nat) ∧ (4 : Nat) ≠ (0 : Nat) ∧ (4 : Nat) = (4 : Nat) ∧ false = false) ∧
                                                                                                  (True ∧
                                                                                                    (some (Blk.fix (D.arr IntKind.u64 (4 : Nat) l)) = some (Blk.fix (D.arr IntKind.u64 (4 : Nat) l)) ∧
                                                                                                      some (Blk.fix (D.arr IntKind.u64 (4 : Nat) m)) = some (Blk.fix (D.arr IntKind.u64 (4 : Nat) m)) ∧
                                                                                                       some (Blk.fix (D.arr IntKind.u64 (4 : Nat) [(0 : Int), (0 : Int), (0 : Int), (0 : Int)])) = some (Blk.fix (D.arr IntKind.u64 (4 : Nat) [(0 : Int), (0 : Int), (0 : Int), (0 : Int)])) ∧
                                                                                                        some (Blk.fix (D.arr IntKind.u64 (4 : Nat) [(0 : Int), (0 : Int), (0 : Int), (0 : Int)])) = some (Blk.fix (D.arr IntKind.u64 (4 : Nat) [(0 : Int), (0 : Int), (0 : Int), (0 : Int)])) ∧
                                                                                                         some
                                                                                                            (Blk.fix
                                                                                                             (D.arr IntKind.u64 (4 : Nat)
                                                                                                              (nB (18446744073709551616 : Nat) (4 : Nat) (dvr (vB (18446744073709551616 : Nat) (l ++ [(0 : Int), (0 : Int), (0 : Int), (0 : Int)])) (vB (18446744073709551616 : Nat) m))))) =
                                                                                                           some
                                                                                                            (Blk.fix
                                                                                                             (D.arr IntKind.u64 (4 : Nat)
                                                                                                              (nB (18446744073709551616 : Nat) (4 : Nat) (dvr (vB (18446744073709551616 : Nat) (l ++ [(0 : Int), (0 : Int), (0 : Int), (0 : Int)])) (vB (18446744073709551616 : Nat) m))))) ∧
                                                                                                          some (Blk.fix (D.arr IntKind.u64 (4 : Nat) (nB (18446744073709551616 : Nat) (4 : Nat) x.snd.fst))) =
                                                                                                            some (Blk.fix (D.arr IntKind.u64 (4 : Nat) (nB (18446744073709551616 : Nat) (4 : Nat) (vB (18446744073709551616 : Nat) (nB (18446744073709551616 : Nat) (4 : Nat) x.snd.fst))))) ∧
                                                                                                           some
                                                                                                              (Blk.fix
                                                                                                               (D.arr IntKind.u64 (4 : Nat)
                                                                                                                (nB (18446744073709551616 : Nat) (4 : Nat)
                                                                                                                 (dvr (vB (18446744073709551616 : Nat) (nB (18446744073709551616 : Nat) (4 : Nat) x.fst ++ [(0 : Int), (0 : Int), (0 : Int), (0 : Int)]))
                                                                                                                  (vB (18446744073709551616 : Nat) (nB (18446744073709551616 : Nat) (4 : Nat) x.snd.fst)))))) =
                                                                                                             some
                                                                                                              (Blk.fix
                                                                                                               (D.arr IntKind.u64 (4 : Nat)
                                                                                                                (nB (18446744073709551616 : Nat) (4 : Nat)
                                                                                                                 (vB (18446744073709551616 : Nat)
                                                                                                                  (nB (18446744073709551616 : Nat) (4 : Nat)
                                                                                                                   (dvr (vB (18446744073709551616 : Nat) (nB (18446744073709551616 : Nat) (4 : Nat) x.fst ++ [(0 : Int), (0 : Int), (0 : Int), (0 : Int)]))
                                                                                                                    (vB (18446744073709551616 : Nat) (nB (18446744073709551616 : Nat) (4 : Nat) x.snd.fst)))))))) ∧
                                                                                                            some (Blk.fix (D.arr IntKind.u64 (4 : Nat) (nB (18446744073709551616 : Nat) (4 : Nat) x.snd.snd.snd))) =
                                                                                                              some (Blk.fix (D.arr IntKind.u64 (4 : Nat) (nB (18446744073709551616 : Nat) (4 : Nat) (vB (18446744073709551616 : Nat) (nB (18446744073709551616 : Nat) (4 : Nat) x.snd.snd.snd))))) ∧
                                                                                                             some
                                                                                                                (Blk.fix
                                                                                                                 (D.arr IntKind.u64 (4 : Nat)
                                                                                                                  (nB (18446744073709551616 : Nat) (4 : Nat)
                                                                                                                   (smN
                                                                                                                    (vB (18446744073709551616 : Nat)
                                                                                                                     (nB (18446744073709551616 : Nat) (4 : Nat)
                                                                                                                      (dif (vB (18446744073709551616 : Nat) (nB (18446744073709551616 : Nat) (4 : Nat) x.snd.snd.fst))
                                                                                                                       (vB (18446744073709551616 : Nat)
                                                                                                                        (nB (18446744073709551616 : Nat) (4 : Nat)
                                                                                                                         (dvr
                                                                                                                          (vB (18446744073709551616 : Nat)
                                                                                                                           (nB (18446744073709551616 : Nat) (8 : Nat)
                                                                                                                            (vB (18446744073709551616 : Nat)
                                                                                                                              (List.take (4 : Nat)
                                                                                                                               (nB (18446744073709551616 : Nat) (8 : Nat)
                                                                                                                                (dvq (vB (18446744073709551616 : Nat) (nB (18446744073709551616 : Nat) (4 : Nat) x.fst ++ [(0 : Int), (0 : Int), (0 : Int), (0 : Int)]))
                                                                                                                                 (vB (18446744073709551616 : Nat) (nB (18446744073709551616 : Nat) (4 : Nat) x.snd.fst))))) *
                                                                                                                             vB (18446744073709551616 : Nat) (nB (18446744073709551616 : Nat) (4 : Nat) x.snd.snd.snd))))
                                                                                                                          (vB (18446744073709551616 : Nat) m)))))))
                                                                                                                    (vB (18446744073709551616 : Nat) m))))) =
                                                                                                               some
                                                                                                                (Blk.fix
                                                                                                                 (D.arr IntKind.u64 (4 : Nat)
                                                                                                                  (nB (18446744073709551616 : Nat) (4 : Nat)
                                                                                                                   (vB (18446744073709551616 : Nat)
                                                                                                                    (nB (18446744073709551616 : Nat) (4 : Nat)
                                                                                                                     (smN
                                                                                                                      (vB (18446744073709551616 : Nat)
                                                                                                                       (nB (18446744073709551616 : Nat) (4 : Nat)
                                                                                                                        (dif (vB (18446744073709551616 : Nat) (nB (18446744073709551616 : Nat) (4 : Nat) x.snd.snd.fst))
                                                                                                                         (vB (18446744073709551616 : Nat)
                                                                                                                          (nB (18446744073709551616 : Nat) (4 : Nat)
                                                                                                                           (dvr
                                                                                                                            (vB (18446744073709551616 : Nat)
                                                                                                                             (nB (18446744073709551616 : Nat) (8 : Nat)
                                                                                                                              (vB (18446744073709551616 : Nat)
                                                                                                                                (List.take (4 : Nat)
                                                                                                                                 (nB (18446744073709551616 : Nat) (8 : Nat)
                                                                                                                                  (dvq (vB (18446744073709551616 : Nat) (nB (18446744073709551616 : Nat) (4 : Nat) x.fst ++ [(0 : Int), (0 : Int), (0 : Int), (0 : Int)]))
                                                                                                                                   (vB (18446744073709551616 : Nat) (nB (18446744073709551616 : Nat) (4 : Nat) x.snd.fst))))) *
                                                                                                                               vB (18446744073709551616 : Nat) (nB (18446744073709551616 : Nat) (4 : Nat) x.snd.snd.snd))))
                                                                                                                            (vB (18446744073709551616 : Nat) m)))))))
                                                                                                                      (vB (18446744073709551616 : Nat) m))))))) ∧
                                                                                                              True) ∧
                                                                                                     true = true) ∧
                                                                                                   InvI (vB (18446744073709551616 : Nat) l) (vB (18446744073709551616 : Nat) m) (vB (18446744073709551616 : Nat) (nB (18446744073709551616 : Nat) (4 : Nat) x.snd.fst))
                                                                                                     (vB (18446744073709551616 : Nat)
                                                                                                      (nB (18446744073709551616 : Nat) (4 : Nat)
                                                                                                       (dvr (vB (18446744073709551616 : Nat) (nB (18446744073709551616 : Nat) (4 : Nat) x.fst ++ [(0 : Int), (0 : Int), (0 : Int), (0 : Int)]))
                                                                                                        (vB (18446744073709551616 : Nat) (nB (18446744073709551616 : Nat) (4 : Nat) x.snd.fst)))))
                                                                                                     (vB (18446744073709551616 : Nat) (nB (18446744073709551616 : Nat) (4 : Nat) x.snd.snd.snd))
                                                                                                     (vB (18446744073709551616 : Nat)
                                                                                                      (nB (18446744073709551616 : Nat) (4 : Nat)
                                                                                                       (smN
                                                                                                        (vB (18446744073709551616 : Nat)
                                                                                                         (nB (18446744073709551616 : Nat) (4 : Nat)
                                                                                                          (dif (vB (18446744073709551616 : Nat) (nB (18446744073709551616 : Nat) (4 : Nat) x.snd.snd.fst))
                                                                                                           (vB (18446744073709551616 : Nat)
                                                                                                            (nB (18446744073709551616 : Nat) (4 : Nat)
                                                                                                             (dvr
                                                                                                              (vB (18446744073709551616 : Nat)
                                                                                                               (nB (18446744073709551616 : Nat) (8 : Nat)
                                                                                                                (vB (18446744073709551616 : Nat)
                                                                                                                  (List.take (4 : Nat)
                                                                                                                   (nB (18446744073709551616 : Nat) (8 : Nat)
                                                                                                                    (dvq (vB (18446744073709551616 : Nat) (nB (18446744073709551616 : Nat) (4 : Nat) x.fst ++ [(0 : Int), (0 : Int), (0 : Int), (0 : Int)]))
                                                                                                                     (vB (18446744073709551616 : Nat) (nB (18446744073709551616 : Nat) (4 : Nat) x.snd.fst))))) *
                                                                                                                 vB (18446744073709551616 : Nat) (nB (18446744073709551616 : Nat) (4 : Nat) x.snd.snd.snd))))
                                                                                                              (vB (18446744073709551616 : Nat) m)))))))
                                                                                                        (vB (18446744073709551616 : Nat) m)))) ∧
                                                                                                    vB (18446744073709551616 : Nat)
                                                                                                      (nB (18446744073709551616 : Nat) (4 : Nat)
                                                                                                       (dvr (vB (18446744073709551616 : Nat) (nB (18446744073709551616 : Nat) (4 : Nat) x.fst ++ [(0 : Int), (0 : Int), (0 : Int), (0 : Int)]))
                                                                                                        (vB (18446744073709551616 : Nat) (nB (18446744073709551616 : Nat) (4 : Nat) x.snd.fst)))) <
                                                                                                     x.snd.fst
                                                                                  | false =>
                                                                                   (true = true ∧ (4 : Nat) ≠ (0 : Nat) ∧ (4 : Nat) = (4 : Nat) ∧ true = true) ∧
                                                                                    (true = true ∧ (4 : Nat) ≠ (0 : Nat) ∧ (4 : Nat) = (4 : Nat) ∧ true = true) ∧
                                                                                     (true = true ∧ (4 : Nat) ≠ (0 : Nat) ∧ (4 : Nat) = (4 : Nat) ∧ true = true) ∧
                                                                                      (true = true ∧ (4 : Nat) ≠ (0 : Nat) ∧ (4 : Nat) = (4 : Nat) ∧ true = true) ∧
                                                                                       (true = true ∧ Sk.arr (4 : Nat) = Sk.arr (4 : Nat) ∧ (4 : Nat) ≠ (0 : Nat) ∧ (4 : Nat) = (4 : Nat) ∧ false = false) ∧
                                                                                        (true = true ∧ Sk.arr (4 : Nat) = Sk.arr (4 : Nat) ∧ (4 : Nat) ≠ (0 : Nat) ∧ (4 : Nat) = (4 : Nat) ∧ false = false) ∧
                                                                                         (true = true ∧ Sk.arr (4 : Nat) = Sk.arr (4 : Nat) ∧ (4 : Nat) ≠ (0 : Nat) ∧ (4 : Nat) = (4 : Nat) ∧ false = false) ∧
                                                                                          (true = true ∧ Sk.arr (4 : Nat) = Sk.arr (4 : Nat) ∧ (4 : Nat) ≠ (0 : Nat) ∧ (4 : Nat) = (4 : Nat) ∧ false = false) ∧
                                                                                           (True ∧
                                                                                             (some (Blk.fix (D.arr IntKind.u64 (4 : Nat) l)) = some (Blk.fix (D.arr IntKind.u64 (4 : Nat) l)) ∧
                                                                                               some (Blk.fix (D.arr IntKind.u64 (4 : Nat) m)) = some (Blk.fix (D.arr IntKind.u64 (4 : Nat) m)) ∧
                                                                                                some (Blk.fix (D.arr IntKind.u64 (4 : Nat) [(0 : Int), (0 : Int), (0 : Int), (0 : Int)])) = some (Blk.fix (D.arr IntKind.u64 (4 : Nat) [(0 : Int), (0 : Int), (0 : Int), (0 : Int)])) ∧
                                                                                                 some (Blk.fix (D.arr IntKind.u64 (4 : Nat) [(0 : Int), (0 : Int), (0 : Int), (0 : Int)])) = some (Blk.fix (D.arr IntKind.u64 (4 : Nat) [(0 : Int), (0 : Int), (0 : Int), (0 : Int)])) ∧
                                                                                                  some
                                                                                                     (Blk.fix
                                                                                                      (D.arr IntKind.u64 (4 : Nat)
                                                                                                       (nB (18446744073709551616 : Nat) (4 : Nat) (dvr (vB (18446744073709551616 : Nat) (l ++ [(0 : Int), (0 : Int), (0 : Int), (0 : Int)])) (vB (18446744073709551616 : Nat) m))))) =
                                                                                                    some
                                                                                                     (Blk.fix
                                                                                                      (D.arr IntKind.u64 (4 : Nat)
                                                                                                       (nB (18446744073709551616 : Nat) (4 : Nat) (dvr (vB (18446744073709551616 : Nat) (l ++ [(0 : Int), (0 : Int), (0 : Int), (0 : Int)])) (vB (18446744073709551616 : Nat) m))))) ∧
                                                                                                   some (Blk.fix (D.arr IntKind.u64 (4 : Nat) (nB (18446744073709551616 : Nat) (4 : Nat) x.snd.fst))) =
                                                                                                     some (Blk.fix (D.arr IntKind.u64 (4 : Nat) (nB (18446744073709551616 : Nat) (4 : Nat) (vB (18446744073709551616 : Nat) (nB (18446744073709551616 : Nat) (4 : Nat) x.snd.fst))))) ∧
                                                                                                    some
                                                                                                       (Blk.fix
                                                                                                        (D.arr IntKind.u64 (4 : Nat)
                                                                                                         (nB (18446744073709551616 : Nat) (4 : Nat)
                                                                                                          (dvr (vB (18446744073709551616 : Nat) (nB (18446744073709551616 : Nat) (4 : Nat) x.fst ++ [(0 : Int), (0 : Int), (0 : Int), (0 : Int)]))
                                                                                                           (vB (18446744073709551616 : Nat) (nB (18446744073709551616 : Nat) (4 : Nat) x.snd.fst)))))) =
                                                                                                      some
                                                                                                       (Blk.fix
                                                                                                        (D.arr IntKind.u64 (4 : Nat)
                                                                                                         (nB (18446744073709551616 : Nat) (4 : Nat)
                                                                                                          (vB (18446744073709551616 : Nat)
                                                                                                           (nB (18446744073709551616 : Nat) (4 : Nat)
                                                                                                            (dvr (vB (18446744073709551616 : Nat) (nB (18446744073709551616 : Nat) (4 : Nat) x.fst ++ [(0 : Int), (0 : Int), (0 : Int), (0 : Int)]))
                                                                                                             (vB (18446744073709551616 : Nat) (nB (18446744073709551616 : Nat) (4 : Nat) x.snd.fst)))))))) ∧
                                                                                                     some (Blk.fix (D.arr IntKind.u64 (4 : Nat) (nB (18446744073709551616 : Nat) (4 : Nat) x.snd.snd.snd))) =
                                                                                                       some (Blk.fix (D.arr IntKind.u64 (4 : Nat) (nB (18446744073709551616 : Nat) (4 : Nat) (vB (18446744073709551616 : Nat) (nB (18446744073709551616 : Nat) (4 : Nat) x.snd.snd.snd))))) ∧
                                                                                                      some
                                                                                                         (Blk.fix
                                                                                                          (D.arr IntKind.u64 (4 : Nat)
                                                                                                           (nB (18446744073709551616 : Nat) (4 : Nat)
                                                                                                            (dif (vB (18446744073709551616 : Nat) (nB (18446744073709551616 : Nat) (4 : Nat) x.snd.snd.fst))
                                                                                                             (vB (18446744073709551616 : Nat)
                                                                                                              (nB (18446744073709551616 : Nat) (4 : Nat)
                                                                                                               (dvr
                                                                                                                (vB (18446744073709551616 : Nat)
                                                                                                                 (nB (18446744073709551616 : Nat) (8 : Nat)
                                                                                                                  (vB (18446744073709551616 : Nat)
                                                                                                                    (List.take (4 : Nat)
                                                                                                                     (nB (18446744073709551616 : Nat) (8 : Nat)
                                                                                                                      (dvq (vB (18446744073709551616 : Nat) (nB (18446744073709551616 : Nat) (4 : Nat) x.fst ++ [(0 : Int), (0 : Int), (0 : Int), (0 : Int)]))
                                                                                                                       (vB (18446744073709551616 : Nat) (nB (18446744073709551616 : Nat) (4 : Nat) x.snd.fst))))) *
                                                                                                                   vB (18446744073709551616 : Nat) (nB (18446744073709551616 : Nat) (4 : Nat) x.snd.snd.snd))))
                                                                                                                (vB (18446744073709551616 : Nat) m)))))))) =
                                                                                                        some
                                                                                                         (Blk.fix
                                                                                                          (D.arr IntKind.u64 (4 : Nat)
                                                                                                           (nB (18446744073709551616 : Nat) (4 : Nat)
                                                                                                            (vB (18446744073709551616 : Nat)
                                                                                                             (nB (18446744073709551616 : Nat) (4 : Nat)
                                                                                                              (dif (vB (18446744073709551616 : Nat) (nB (18446744073709551616 : Nat) (4 : Nat) x.snd.snd.fst))
                                                                                                               (vB (18446744073709551616 : Nat)
                                                                                                                (nB (18446744073709551616 : Nat) (4 : Nat)
                                                                                                                 (dvr
                                                                                                                  (vB (18446744073709551616 : Nat)
                                                                                                                   (nB (18446744073709551616 : Nat) (8 : Nat)
                                                                                                                    (vB (18446744073709551616 : Nat)
                                                                                                                      (List.take (4 : Nat)
                                                                                                                       (nB (18446744073709551616 : Nat) (8 : Nat)
                                                                                                                        (dvq (vB (18446744073709551616 : Nat) (nB (18446744073709551616 : Nat) (4 : Nat) x.fst ++ [(0 : Int), (0 : Int), (0 : Int), (0 : Int)]))
                                                                                                                         (vB (18446744073709551616 : Nat) (nB (18446744073709551616 : Nat) (4 : Nat) x.snd.fst))))) *
                                                                                                                     vB (18446744073709551616 : Nat) (nB (18446744073709551616 : Nat) (4 : Nat) x.snd.snd.snd))))
                                                                                                                  (vB (18446744073709551616 : Nat) m)))))))))) ∧
                                                                                                       True) ∧
                                                                                              true = true) ∧
                                                                                            InvI (vB (18446744073709551616 : Nat) l) (vB (18446744073709551616 : Nat) m) (vB (18446744073709551616 : Nat) (nB (18446744073709551616 : Nat) (4 : Nat) x.snd.fst))
                                                                                              (vB (18446744073709551616 : Nat)
                                                                                               (nB (18446744073709551616 : Nat) (4 : Nat)
                                                                                                (dvr (vB (18446744073709551616 : Nat) (nB (18446744073709551616 : Nat) (4 : Nat) x.fst ++ [(0 : Int), (0 : Int), (0 : Int), (0 : Int)]))
                                                                                                 (vB (18446744073709551616 : Nat) (nB (18446744073709551616 : Nat) (4 : Nat) x.snd.fst)))))
                                                                                              (vB (18446744073709551616 : Nat) (nB (18446744073709551616 : Nat) (4 : Nat) x.snd.snd.snd))
                                                                                              (vB (18446744073709551616 : Nat)
                                                                                               (nB (18446744073709551616 : Nat) (4 : Nat)
                                                                                                (dif (vB (18446744073709551616 : Nat) (nB (18446744073709551616 : Nat) (4 : Nat) x.snd.snd.fst))
                                                                                                 (vB (18446744073709551616 : Nat)
                                                                                                  (nB (18446744073709551616 : Nat) (4 : Nat)
                                                                                                   (dvr
                                                                                                    (vB (18446744073709551616 : Nat)
                                                                                                     (nB (18446744073709551616 : Nat) (8 : Nat)
                                                                                                      (vB (18446744073709551616 : Nat)
                                                                                                        (List.take (4 : Nat)
                                                                                                         (nB (18446744073709551616 : Nat) (8 : Nat)
                                                                                                          (dvq (vB (18446744073709551616 : Nat) (nB (18446744073709551616 : Nat) (4 : Nat) x.fst ++ [(0 : Int), (0 : Int), (0 : Int), (0 : Int)]))
                                                                                                           (vB (18446744073709551616 : Nat) (nB (18446744073709551616 : Nat) (4 : Nat) x.snd.fst))))) *
                                                                                                       vB (18446744073709551616 : Nat) (nB (18446744073709551616 : Nat) (4 : Nat) x.snd.snd.snd))))
                                                                                                    (vB (18446744073709551616 : Nat) m))))))) ∧
                                                                                             vB (18446744073709551616 : Nat)
                                                                                               (nB (18446744073709551616 : Nat) (4 : Nat)
                                                                                                (dvr (vB (18446744073709551616 : Nat) (nB (18446744073709551616 : Nat) (4 : Nat) x.fst ++ [(0 : Int), (0 : Int), (0 : Int), (0 : Int)]))
                                                                                                 (vB (18446744073709551616 : Nat) (nB (18446744073709551616 : Nat) (4 : Nat) x.snd.fst)))) <
                                                                                              x.snd.fst
                                            | false =>
                                             (true = true ∧ (4 : Nat) ≠ (0 : Nat) ∧ (4 : Nat) = (4 : Nat) ∧ true = true) ∧
                                              ((1 : Nat) = (1 : Nat) ∧ false = false ∧ ((0 : Nat) < (4 : Nat) ∧ ([] : List Nat) = [] ∧ true = true) ∧ True) ∧
                                               (IntKind.u64 = IntKind.u64 ∧ IntKind.u64 = IntKind.u64 ∧ (4 : Nat) = (4 : Nat) ∧ (4 : Nat) = (4 : Nat) ∧ (1 : Nat) = (1 : Nat)) ∧
                                                match !eqB (nB (18446744073709551616 : Nat) (4 : Nat) x.fst) [(1 : Int), (0 : Int), (0 : Int), (0 : Int)] with
                                                | true =>
                                                 (true = true ∧ (4 : Nat) ≠ (0 : Nat) ∧ (4 : Nat) = (4 : Nat) ∧ true = true) ∧
                                                  (Sk.arr (4 : Nat) = Sk.arr (4 : Nat) ∧ (4 : Nat) ≠ (0 : Nat) ∧ (4 : Nat) = (4 : Nat) ∧ false = false) ∧
                                                   True ∧ (((4 : Nat) ≠ (0 : Nat) ∧ (4 : Nat) = (4 : Nat) ∧ true = true) ∧ false = false ∧ True) ∧ D.tup [D.arr IntKind.u64 (4 : Nat) [(0 : Int), (0 : Int), (0 : Int), (0 : Int)], D.val (Value.int IntKind.i64 (6 : Int))] = F
                                                | false =>
                                                 (true = true ∧ (4 : Nat) ≠ (0 : Nat) ∧ (4 : Nat) = (4 : Nat) ∧ true = true) ∧
                                                  (Sk.arr (4 : Nat) = Sk.arr (4 : Nat) ∧ (4 : Nat) ≠ (0 : Nat) ∧ (4 : Nat) = (4 : Nat) ∧ false = false) ∧
                                                   True ∧ (((4 : Nat) ≠ (0 : Nat) ∧ (4 : Nat) = (4 : Nat) ∧ true = true) ∧ false = false ∧ True) ∧ D.tup [D.arr IntKind.u64 (4 : Nat) (nB (18446744073709551616 : Nat) (4 : Nat) x.snd.snd.fst), D.val (Value.int IntKind.i64 (0 : Int))] = F) := by kernel_rfl

end Go.Proofs.Ytkicjckhkefnpaa
/- QuotInverts: Euclid's steps (no program in sight). -/
namespace Go.Proofs.Ytkicjckhkefnpaa
open Go Go.Vg

def sNew (M q s0 s1 : Nat) : Nat := if q * s1 % M ≤ s0 then s0 - q * s1 % M else s0 + M - q * s1 % M
theorem sNew_lt {M q s0 s1 : Nat} (hM : 1 < M) (h : s0 < M) : sNew M q s0 s1 < M := by
  have := Nat.mod_lt (q * s1) (show 0 < M by omega)
  unfold sNew
  split <;> omega
theorem sNew_add {M q s0 s1 : Nat} (hM : 1 < M) (h : s0 < M) : ∃ e : Nat, sNew M q s0 s1 + q * s1 % M = s0 + e * M := by
  have := Nat.mod_lt (q * s1) (show 0 < M by omega)
  unfold sNew
  split
  · exact ⟨0, by omega⟩
  · exact ⟨1, by omega⟩
theorem inv_step {A M r0 r1 s0 s1 : Nat} (h : InvI A M r0 r1 s0 s1) (hr : r1 ≠ 0) : InvI A M r1 (r0 % r1) s1 (sNew M (r0 / r1) s0 s1) := by
  obtain ⟨hb, ht, ⟨h1, h2⟩, ⟨h3, h4⟩, hg, ⟨k0, e0⟩, ⟨k1, e1⟩⟩ := h
  refine ⟨hb, ht, ⟨Nat.mod_lt _ (by omega), by omega⟩, ⟨h4, sNew_lt hb h3⟩, ?_, ⟨k1, e1⟩, ?_⟩
  · rw [Nat.gcd_comm, ← Nat.gcd_rec, Nat.gcd_comm, hg]
  · obtain ⟨e, he⟩ := sNew_add (q := r0 / r1) (s1 := s1) hb h3
    generalize sNew M (r0 / r1) s0 s1 = t at he ⊢
    have hdm := Nat.div_add_mod (r0 / r1 * s1) M
    have hr0 := Nat.div_add_mod r0 r1
    generalize r0 % r1 = r at hr0 ⊢
    generalize r0 / r1 = q at *
    generalize q * s1 / M = j at hdm
    generalize q * s1 % M = o at *
    refine ⟨k0 - (q : Int) * k1 + (A : Int) * (j : Int) + (A : Int) * (e : Int), ?_⟩
    have c1 : (A : Int) * (t : Int) + (A : Int) * (o : Int) = (A : Int) * (s0 : Int) + (A : Int) * ((e : Int) * (M : Int)) := by
      rw [← Int.mul_add, ← Int.mul_add]
      congr 1
      have := congrArg (fun z : Nat => (z : Int)) he
      simpa using this
    have c2 : (A : Int) * ((M : Int) * (j : Int)) + (A : Int) * (o : Int) = (q : Int) * ((A : Int) * (s1 : Int)) := by
      rw [← Int.mul_add, Int.mul_left_comm (q : Int)]
      congr 1
      have := congrArg (fun z : Nat => (z : Int)) hdm
      simpa using this
    have c3x : (r1 : Int) * (q : Int) + (r : Int) = (r0 : Int) := by
      have := congrArg (fun z : Nat => (z : Int)) hr0
      simpa using this
    rw [e1, Int.mul_add] at c2
    rw [e0] at c1
    rw [Int.add_mul, Int.add_mul, Int.sub_mul, Int.mul_assoc (q : Int), Int.mul_assoc (A : Int), Int.mul_assoc (A : Int), Int.mul_comm (j : Int)]
    rw [Int.mul_comm (r1 : Int)] at c3x
    omega
theorem inv_start {A M : Nat} (h : 1 < M) (ht : M < 2 ^ 256) : InvI A M M (A % M) 0 1 := by
  refine ⟨h, ht, ⟨Nat.mod_lt _ (by omega), Nat.le_refl _⟩, ⟨by omega, h⟩, ?_, ⟨-1, ?_⟩, ⟨(A / M : Nat), ?_⟩⟩
  · rw [Nat.gcd_comm M, ← Nat.gcd_rec, Nat.gcd_comm]
  · simp
    omega
  · have := congrArg (fun z : Nat => (z : Int)) (Nat.div_add_mod A M)
    simp at this
    have e : ((A / M : Nat) : Int) * (M : Int) = (M : Int) * ((A / M : Nat) : Int) := Int.mul_comm _ _
    rw [e]
    simp
    omega
theorem inv_end {A M r0 s0 s1 : Nat} (h : InvI A M r0 0 s0 s1) : r0 = Nat.gcd A M ∧ (r0 = 1 → A * s0 % M = 1) := by
  obtain ⟨hb, ht, ⟨h1, h2⟩, ⟨h3, h4⟩, hg, ⟨k0, e0⟩, _⟩ := h
  rw [Nat.gcd_zero_right] at hg
  refine ⟨hg, fun e => ?_⟩
  subst e
  have h5 : ((A * s0 : Nat) : Int) % (M : Int) = 1 := by
    rw [Int.natCast_mul, e0, Int.add_mul_emod_self_right]
    exact Int.emod_eq_of_lt (by omega) (by omega)
  have h6 : ((A * s0 % M : Nat) : Int) = 1 := by rw [Int.natCast_emod]; exact h5
  omega
theorem inv_ex {A M : Nat} (n : Nat) : ∀ r0 r1 s0 s1, r1 ≤ n → InvI A M r0 r1 s0 s1 → Nat.gcd A M = 1 → ∃ x, x < M ∧ A * x % M = 1 := by
  induction n with
  | zero =>
    intro r0 r1 s0 s1 hn h hg
    obtain rfl : r1 = 0 := by omega
    obtain ⟨e, f⟩ := inv_end h
    exact ⟨s0, h.s.1, f (by rw [e, hg])⟩
  | succ n ih =>
    intro r0 r1 s0 s1 hn h hg
    by_cases h0 : r1 = 0
    · subst h0
      obtain ⟨e, f⟩ := inv_end h
      exact ⟨s0, h.s.1, f (by rw [e, hg])⟩
    · exact ih _ _ _ _ (by have := Nat.mod_lt r0 (show 0 < r1 by omega); omega) (inv_step h h0) hg
theorem invN_spec {A M : Nat} (h : ∃ x, x < M ∧ A * x % M = 1) : invN A M < M ∧ A * invN A M % M = 1 := by
  unfold invN
  rw [dif_pos h]
  exact Classical.choose_spec h
theorem inv_unique {A M x y : Nat} (hx : x < M) (hy : y < M) (h1 : A * x % M = 1) (h2 : A * y % M = 1) : x = y := by
  have hM : 1 < M := by
    rcases Nat.lt_or_ge 1 M with h | h
    · exact h
    · have : M = 1 := by omega
      subst this
      omega
  have e1 : x * (A * y) % M = x := by rw [Nat.mul_mod, h2, Nat.mul_one, Nat.mod_mod, Nat.mod_eq_of_lt hx]
  have e2 : y * (A * x) % M = y := by rw [Nat.mul_mod, h1, Nat.mul_one, Nat.mod_mod, Nat.mod_eq_of_lt hy]
  have e3 : x * (A * y) = y * (A * x) := by rw [Nat.mul_left_comm, Nat.mul_comm x y, Nat.mul_left_comm y]
  rw [← e1, e3, e2]
theorem invN_eq {A M s : Nat} (h : s < M) (h1 : A * s % M = 1) : s = invN A M := by
  obtain ⟨a, b⟩ := invN_spec ⟨s, h, h1⟩
  exact inv_unique h a h1 b
theorem inv_iv {A M r0 s0 s1 : Nat} (h : InvI A M r0 0 s0 s1) : (r0 = 1 → s0 = ivX A M ∧ ivE A M = 0) ∧ (r0 ≠ 1 → ivX A M = 0 ∧ ivE A M = 6) := by
  obtain ⟨e, f⟩ := inv_end h
  have hb := h.big
  unfold ivX ivE
  rw [if_neg (show ¬ M ≤ 1 by omega), if_neg (show ¬ M = 0 by omega), if_neg (show ¬ M = 1 by omega)]
  rw [e]
  rw [e] at f
  refine ⟨fun e1 => ?_, fun e1 => ?_⟩
  · rw [if_pos e1, if_pos e1]
    exact ⟨invN_eq h.s.1 (f e1), rfl⟩
  · rw [if_neg e1, if_neg e1]
    exact ⟨rfl, rfl⟩
theorem iv_one {A M : Nat} (hM : 0 < M) (ht : M < 2 ^ 256) (hg : Nat.gcd A M = 1) : ivX A M < M ∧ A * ivX A M % M = 1 % M ∧ ivE A M = 0 := by
  unfold ivX ivE
  by_cases h1 : M = 1
  · subst h1
    refine ⟨?_, Nat.mod_one _, ?_⟩
    · rw [if_pos (show (1 : Nat) ≤ 1 by omega)]; omega
    · rw [if_neg (show ¬ (1 : Nat) = 0 by omega), if_pos rfl]
  · rw [if_neg (show ¬ M ≤ 1 by omega), if_neg (show ¬ M = 0 by omega), if_neg h1, if_pos hg, if_pos hg]
    obtain ⟨a, b⟩ := invN_spec (inv_ex (A := A) (M := M) (A % M) _ _ _ _ (Nat.le_refl _) (inv_start (by omega) ht) hg)
    exact ⟨a, by rw [b, Nat.mod_eq_of_lt (by omega)], rfl⟩
end Go.Proofs.Ytkicjckhkefnpaa
/- QuotInverts: Inverse meets. -/
namespace Go.Proofs.Ytkicjckhkefnpaa
open Go Go.Vg

theorem n4v {v : Nat} (h : v < 2 ^ 256) : vB 18446744073709551616 (nB 18446744073709551616 4 v) = v := by
  rw [wv_nB, Nat.mod_eq_of_lt h]
theorem nn4 (v : Nat) : nB 18446744073709551616 4 (vB 18446744073709551616 (nB 18446744073709551616 4 v)) = nB 18446744073709551616 4 v := by
  rw [vB_nB, nB_mod]
theorem addz (l : List Int) : vB 18446744073709551616 (l ++ [0, 0, 0, 0]) = vB 18446744073709551616 l := by
  rw [vB_append, show vB 18446744073709551616 [0, 0, 0, 0] = 0 from rfl, Nat.mul_zero, Nat.add_zero]
theorem n8t {q : Nat} (h : q < 2 ^ 256) : vB 18446744073709551616 (List.take 4 (nB 18446744073709551616 8 q)) = q := by
  rw [vB_take (nB_ok (by decide) 8 q), vB_nB, Nat.mod_eq_of_lt (show q < 18446744073709551616 ^ 8 from Nat.lt_trans h (by decide)), Nat.mod_eq_of_lt (show q < 18446744073709551616 ^ 4 from h)]
theorem n8v {p : Nat} (h : p < 2 ^ 256 * 2 ^ 256) : vB 18446744073709551616 (nB 18446744073709551616 8 p) = p := by
  rw [vB_nB, Nat.mod_eq_of_lt (by rw [show 18446744073709551616 ^ 8 = 2 ^ 256 * 2 ^ 256 from by decide]; exact h)]
theorem wv_one {m : List Int} (hm : isN m) : eqB m [1, 0, 0, 0] = decide (vB 18446744073709551616 m = 1) := by
  by_cases h : m = [1, 0, 0, 0]
  · subst h
    rw [eqB_iff.2 rfl]
    rfl
  · rw [eqB_not.2 h]
    symm
    apply decide_eq_false
    intro h1
    have := num_nB hm
    unfold wv at this
    rw [h1] at this
    exact h this.symm
theorem isN_n4 (v : Nat) : isN (nB 18446744073709551616 4 v) := ⟨nB_okw 4 v, nB_length _ _ _⟩
theorem okw_app {a b : List Int} (ha : okw a) (hb : okw b) : okw (a ++ b) := by
  intro x hx
  rcases List.mem_append.1 hx with h | h
  · exact ha x h
  · exact hb x h
theorem okw_zero : okw [0, 0, 0, 0] := by
  intro x hx
  simp at hx
  omega
theorem eq0_n4 {v : Nat} (h : v < 2 ^ 256) : eqB (nB 18446744073709551616 4 v) [0, 0, 0, 0] = decide (v = 0) := by
  rw [wv_zero (isN_n4 v).1 (isN_n4 v).2, show wv (nB 18446744073709551616 4 v) = v from n4v h]
theorem eq1_n4 {v : Nat} (h : v < 2 ^ 256) : eqB (nB 18446744073709551616 4 v) [1, 0, 0, 0] = decide (v = 1) := by
  rw [wv_one (isN_n4 v), n4v h]

set_option maxRecDepth 100000 in
theorem m96 : Meets Try.prog 96 sp96 := by
  refine meets_of_owed (C := c96) ⟨tab_ok, lkS_ok ⟨m73, m75, m70, m69, m83, m102, m111, trivial⟩⟩ (by kernel_rfl) (by kernel_rfl : Try.prog.funcs[96]? = some Try.f96) (by kernel_rfl) (by kernel_rfl) (by kernel_rfl) _ ?_
  rintro _ ⟨l, m, rfl, hl, hm⟩
  refine ⟨fun _ => rfl, inv96 l m, ?_⟩
  show owed c96 (inv96 l m) Try.f96 [num4 l, num4 m] (.tup [n4 (ivX (wv l) (wv m)), i64n (ivE (wv l) (wv m))])
  rw [vc96]
  have hA := wv_lt hl.1 hl.2
  have hM := wv_lt hm.1 hm.2
  have mm := num_nB hm
  unfold wv at hA hM mm ⊢
  rw [wv_one hm]
  simp (decide := true) only [addz, mm, nn4, eq_self, true_and, and_true, ne_eq, not_false_eq_true]
  have z4 : nB 18446744073709551616 4 0 = [0, 0, 0, 0] := rfl
  have hlz : okw (l ++ [0, 0, 0, 0]) ∧ (l ++ [0, 0, 0, 0]).length = 8 := ⟨okw_app hl.1 okw_zero, by rw [List.length_append, hl.2]; rfl⟩
  refine ⟨⟨l, _, rfl, hl.2, rfl⟩, ⟨_, m, rfl, hlz, hm⟩, ?_⟩
  by_cases h0 : vB 18446744073709551616 m = 0
  · rw [show dve (vB 18446744073709551616 m) = 1 from if_pos h0, show ivX (vB 18446744073709551616 l) (vB 18446744073709551616 m) = 0 from if_pos (by omega), show ivE (vB 18446744073709551616 l) (vB 18446744073709551616 m) = 1 from if_pos h0]
    rfl
  · rw [show dve (vB 18446744073709551616 m) = 0 from if_neg h0]
    show match decide (vB 18446744073709551616 m = 1) with | true => _ | false => _
    by_cases h1 : vB 18446744073709551616 m = 1
    · rw [decide_eq_true h1, show ivX (vB 18446744073709551616 l) (vB 18446744073709551616 m) = 0 from if_pos (by omega)]
      have e2 : ivE (vB 18446744073709551616 l) (vB 18446744073709551616 m) = 0 := by
        unfold ivE
        rw [if_neg h0, if_pos h1]
      rw [e2]
      rfl
    · rw [decide_eq_false h1]
      show _ ∧ _
      have hM1 : 1 < vB 18446744073709551616 m := by omega
      have hAM : vB 18446744073709551616 l % vB 18446744073709551616 m < 2 ^ 256 := Nat.lt_trans (Nat.mod_lt _ (by omega)) hM
      rw [show dvr (vB 18446744073709551616 l) (vB 18446744073709551616 m) = vB 18446744073709551616 l % vB 18446744073709551616 m from if_neg h0, n4v hAM]
      refine ⟨⟨?_, inv_start hM1 hM⟩, ?_⟩
      · and_intros <;> first | rfl | trivial
      rintro ⟨r0, r1, s0, s1⟩ hI
      simp only at hI ⊢
      have hb := hI.r
      have hs := hI.s
      have b0 : r0 < 2 ^ 256 := by omega
      have b1 : r1 < 2 ^ 256 := by omega
      have b2 : s0 < 2 ^ 256 := by omega
      have b3 : s1 < 2 ^ 256 := by omega
      rw [eq0_n4 b1]
      split
      · rename_i h2
        have h2 : r1 ≠ 0 := by simpa using h2
        have bq : r0 / r1 < 2 ^ 256 := Nat.lt_of_le_of_lt (Nat.div_le_self _ _) b0
        have bp : r0 / r1 * s1 < 2 ^ 256 * 2 ^ 256 := Nat.mul_lt_mul'' bq b3
        have bo : r0 / r1 * s1 % vB 18446744073709551616 m < vB 18446744073709551616 m := Nat.mod_lt _ (by omega)
        have br : r0 % r1 < 2 ^ 256 := Nat.lt_trans (Nat.mod_lt _ (by omega)) b1
        have dq : dvq r0 r1 = r0 / r1 := rfl
        have dr : dvr r0 r1 = r0 % r1 := if_neg h2
        have dM : dvr (r0 / r1 * s1) (vB 18446744073709551616 m) = r0 / r1 * s1 % vB 18446744073709551616 m := if_neg h0
        have bo2 : r0 / r1 * s1 % vB 18446744073709551616 m < 2 ^ 256 := by omega
        simp only [n4v b0, n4v b1, n4v b2, n4v b3, dq, dr, n8t bq, n8v bp, dM, n4v bo2, n4v br]
        have hS := inv_step hI h2
        unfold sNew at hS
        generalize hO : r0 / r1 * s1 % vB 18446744073709551616 m = o at *
        have q1 : okw (nB 18446744073709551616 4 r0 ++ [0, 0, 0, 0]) ∧ (nB 18446744073709551616 4 r0 ++ [0, 0, 0, 0]).length = 8 := ⟨okw_app (isN_n4 _).1 okw_zero, by rw [List.length_append, nB_length]; rfl⟩
        have q2 : isN (List.take 4 (nB 18446744073709551616 8 (r0 / r1))) := ⟨fun x hx => nB_okw 8 _ x (List.mem_of_mem_take hx), by rw [List.length_take, nB_length]; rfl⟩
        refine ⟨⟨_, _, rfl, (isN_n4 _).2, rfl⟩, ⟨_, _, rfl, q1, isN_n4 _⟩, ⟨_, rfl, nB_length _ _ _⟩, ⟨_, _, rfl, q2, isN_n4 _⟩, ⟨_, m, rfl, ⟨nB_okw 8 _, nB_length _ _ _⟩, hm⟩, ⟨_, _, rfl, isN_n4 _, isN_n4 _⟩, ?_⟩
        have hrr : r0 % r1 < r1 := Nat.mod_lt _ (by omega)
        by_cases ho : o ≤ s0
        · rw [if_pos ho] at hS
          rw [show bor s0 o = 0 from if_neg (by omega), show dif s0 o = s0 - o by unfold dif; omega, n4v (v := s0 - o) (by omega)]
          exact ⟨hS, hrr⟩
        · rw [if_neg ho] at hS
          have ed : dif s0 o = s0 + 2 ^ 256 - o := by unfold dif; omega
          rw [show bor s0 o = 1 from if_pos (by omega), ed, n4v (v := s0 + 2 ^ 256 - o) (by omega),
            show smN (s0 + 2 ^ 256 - o) (vB 18446744073709551616 m) = s0 + vB 18446744073709551616 m - o by unfold smN; omega, n4v (v := s0 + vB 18446744073709551616 m - o) (by omega)]
          exact ⟨⟨_, m, rfl, isN_n4 _, hm⟩, hS, hrr⟩
      · rename_i h2
        have h2 : r1 = 0 := by simpa using h2
        subst h2
        obtain ⟨f1, f2⟩ := inv_iv hI
        rw [eq1_n4 b0]
        by_cases h3 : r0 = 1
        · obtain ⟨g1, g2⟩ := f1 h3
          rw [decide_eq_true h3, ← g1, g2]
          rfl
        · obtain ⟨g1, g2⟩ := f2 h3
          rw [decide_eq_false h3, g1, g2]
          rfl

end Go.Proofs.Ytkicjckhkefnpaa
/- The numbers of package limb: Bit, Len and Pick; the document's OfBits: what they owe. -/
namespace Go.Proofs.Ytkicjckhkefnpaa
open Go Go.Vg

def bl2 (n : Nat) : Nat := if n = 0 then 0 else Nat.log2 n + 1
def bitN (v : Nat) (i : Int) : Nat := if 0 ≤ i ∧ i ≤ 255 then v / 2 ^ i.toNat % 2 else 0
def pkL (c : Nat) (l m : List Int) : List Int := if c % 2 = 1 then m else l
def isBits (l : List Int) : Prop := (∀ x ∈ l, 0 ≤ x ∧ x < 2) ∧ l.length ≤ 256
def sp82 : Go.Vg.Spec := ⟨fun ds => ∃ l i, ds = [num4 l, i64 i] ∧ isN l ∧ i64ok i, fun ds => u64n (bitN (wv (arrOf (ds.headD default))) (numOf (ds.getD 1 default))), true, [27, 3]⟩
def sp81 : Go.Vg.Spec := ⟨fun ds => ∃ l, ds = [num4 l] ∧ isN l, fun ds => i64n (bl2 (wv (arrOf (ds.headD default)))), true, [27]⟩
def sp105 : Go.Vg.Spec := ⟨fun ds => ∃ x, ds = [u64n x] ∧ x < B64, fun ds => i64n (bl2 (nn (ds.headD default))), true, [25]⟩
def c81 : Ctx := ⟨tab, lkS [(105, sp105)], [], []⟩
def inv81 (l : List Int) : Nat → Option Inv
  | 2 => some ⟨Int, fun i => [(3, .d (i64 i))], fun _ => [], fun s => slotN s 3, fun _ i => (-1 ≤ i ∧ i ≤ 3) ∧ wv (l.drop (i + 1).toNat) = 0, fun i => (i + 1).toNat⟩
  | _ => none
def pkI (c : Nat) (l m : List Int) (i : Nat) : List Int := if c % 2 = 1 then m.take i ++ l.drop i else l
--KEEP Nat.gcd Go.Vg.eqB Go.Vg.vB Go.Vg.nB Go.Vg.okd Go.Vg.okw Go.Vg.dg Go.Vg.dig Go.Vg.trimL okb lenOk lenS len1 sbd sbb dif bor cmpN shf i64ok subL dvq dvr dve sbD adl adc mulL mulH stL stH smN smC addL addK TimI TimJ isN invN ivX ivE InvI bl2 bitN pkL pkI isBits
set_option maxRecDepth 100000 in
theorem vc82  (l : List Int) (i : Int) (F : D)  :
    (owed c76 (fun _ => none) Try.f82 [num4 l, i64 i] F) = (
 (True ∧ false = false) ∧
   True ∧
    True ∧
     True ∧
      True ∧
       match decide (i < (0 : Int)) with
       | true => True ∧ True ∧ (false = false ∧ True) ∧ D.val (Value.int IntKind.u64 (0 : Int)) = F
       | false =>
        True ∧
         True ∧
          True ∧
           match decide (i > (255 : Int)) with
           | true => True ∧ (false = false ∧ True) ∧ D.val (Value.int IntKind.u64 (0 : Int)) = F
           | false =>
            True ∧
             (64 : Int) ≠ (0 : Int) ∧
              ((0 : Int) ≤ IntKind.i64.wrap (i.tdiv (64 : Int)) ∧ IntKind.i64.wrap (i.tdiv (64 : Int)) < (↑(4 : Nat) : Int) ∧ (4 : Nat) = (4 : Nat) ∧ (1 : Nat) = (1 : Nat)) ∧
               ((1 : Nat) ≠ (0 : Nat) ∧ (1 : Nat) = (1 : Nat) ∧ false = false) ∧
                True ∧ (64 : Int) ≠ (0 : Int) ∧ True ∧ (0 : Int) ≤ IntKind.u64.wrap (i.tmod (64 : Int)) ∧ True ∧ True ∧ (false = false ∧ True) ∧ D.val (Value.int IntKind.u64 (iand IntKind.u64 (ishr IntKind.u64 (l.getD (IntKind.i64.wrap (i.tdiv (64 : Int))).toNat (0 : Int)) (IntKind.u64.wrap (i.tmod (64 : Int)))) (1 : Int))) = F) := by kernel_rfl
set_option maxRecDepth 100000 in
theorem vc81  (l : List Int) (F : D)  :
    (owed c81 (inv81 l) Try.f81 [num4 l] F) = (
 (True ∧ false = false) ∧
   True ∧
    True ∧
     (((AV.d (D.val (Value.int IntKind.i64 (3 : Int))) = AV.d (D.val (Value.int IntKind.i64 (3 : Int))) ∧ True) ∧ (some (Blk.fix (D.arr IntKind.u64 (4 : Nat) l)) = some (Blk.fix (D.arr IntKind.u64 (4 : Nat) l)) ∧ True) ∧ true = true) ∧ ((-1 : Int) ≤ (3 : Int) ∧ (3 : Int) ≤ (3 : Int)) ∧ vB (18446744073709551616 : Nat) (List.drop ((3 : Int) + (1 : Int)).toNat l) = (0 : Nat)) ∧
      ∀ (x : Int),
       ((-1 : Int) ≤ x ∧ x ≤ (3 : Int)) ∧ vB (18446744073709551616 : Nat) (List.drop (x + (1 : Int)).toNat l) = (0 : Nat) →
        true = true ∧
         True ∧
          True ∧
           match decide (x ≥ (0 : Int)) with
           | true =>
            True ∧
             ((0 : Int) ≤ x ∧ x < (↑(4 : Nat) : Int) ∧ (4 : Nat) = (4 : Nat) ∧ (1 : Nat) = (1 : Nat)) ∧
              ((1 : Nat) ≠ (0 : Nat) ∧ (1 : Nat) = (1 : Nat) ∧ false = false) ∧
               True ∧
                match l.getD x.toNat (0 : Int) != (0 : Int) with
                | true =>
                 True ∧
                  True ∧
                   True ∧
                    ((0 : Int) ≤ x ∧ x < (↑(4 : Nat) : Int) ∧ (4 : Nat) = (4 : Nat) ∧ (1 : Nat) = (1 : Nat)) ∧
                     ((1 : Nat) ≠ (0 : Nat) ∧ (1 : Nat) = (1 : Nat) ∧ false = false) ∧
                      (∃ (x_1 : Nat), [D.val (Value.int IntKind.u64 (l.getD x.toNat (0 : Int)))] = [D.val (Value.int IntKind.u64 (↑x_1 : Int))] ∧ x_1 < (18446744073709551616 : Nat)) ∧ True ∧ True ∧ (false = false ∧ True) ∧ D.val (Value.int IntKind.i64 (IntKind.i64.wrap (IntKind.i64.wrap ((64 : Int) * x) + (↑(bl2 (l.getD x.toNat (0 : Int)).toNat) : Int)))) = F
                | false =>
                 True ∧
                  True ∧
                   True ∧
                    ((AV.d (D.val (Value.int IntKind.i64 (IntKind.i64.wrap (x - (1 : Int))))) = AV.d (D.val (Value.int IntKind.i64 (IntKind.i64.wrap (x - (1 : Int))))) ∧ True) ∧ (some (Blk.fix (D.arr IntKind.u64 (4 : Nat) l)) = some (Blk.fix (D.arr IntKind.u64 (4 : Nat) l)) ∧ True) ∧ true = true) ∧
                     (((-1 : Int) ≤ IntKind.i64.wrap (x - (1 : Int)) ∧ IntKind.i64.wrap (x - (1 : Int)) ≤ (3 : Int)) ∧ vB (18446744073709551616 : Nat) (List.drop (IntKind.i64.wrap (x - (1 : Int)) + (1 : Int)).toNat l) = (0 : Nat)) ∧ (IntKind.i64.wrap (x - (1 : Int)) + (1 : Int)).toNat < (x + (1 : Int)).toNat
           | false => True ∧ (false = false ∧ True) ∧ D.val (Value.int IntKind.i64 (0 : Int)) = F) := by kernel_rfl
set_option maxRecDepth 100000 in
theorem vc105  (x : Nat) (F : D)  :
    (owed c76 (fun _ => none) Try.f105 [u64n x] F) = (
 True ∧
   True ∧
    True ∧
     match decide ((↑x : Int) ≥ (4294967296 : Int)) with
     | true =>
      True ∧
       (0 : Int) ≤ (32 : Int) ∧
        True ∧
         True ∧
          True ∧
           True ∧
            match decide (ishr IntKind.u64 (↑x : Int) (32 : Int) ≥ (65536 : Int)) with
            | true =>
             True ∧
              (0 : Int) ≤ (16 : Int) ∧
               True ∧
                True ∧
                 True ∧
                  True ∧
                   True ∧
                    True ∧
                     match decide (ishr IntKind.u64 (ishr IntKind.u64 (↑x : Int) (32 : Int)) (16 : Int) ≥ (256 : Int)) with
                     | true =>
                      True ∧
                       (0 : Int) ≤ (8 : Int) ∧
                        True ∧
                         True ∧
                          True ∧
                           True ∧
                            True ∧
                             True ∧
                              True ∧
                               ((0 : Int) ≤ IntKind.u8.wrap (ishr IntKind.u64 (ishr IntKind.u64 (ishr IntKind.u64 (↑x : Int) (32 : Int)) (16 : Int)) (8 : Int)) ∧
                                 IntKind.u8.wrap (ishr IntKind.u64 (ishr IntKind.u64 (ishr IntKind.u64 (↑x : Int) (32 : Int)) (16 : Int)) (8 : Int)) <
                                  (↑(ints
                                      {
                                       data :=
                                        {
                                         toList :=
                                          [(0 : UInt8), (1 : UInt8), (2 : UInt8), (2 : UInt8), (3 : UInt8), (3 : UInt8), (3 : UInt8), (3 : UInt8), (4 : UInt8), (4 : UInt8), (4 : UInt8), (4 : UInt8), (4 : UInt8), (4 : UInt8), (4 : UInt8), (4 : UInt8), (5 : UInt8), (5 : UInt8), (5 : UInt8), (5 : UInt8), (5 : UInt8), (5 : UInt8), (5 : UInt8), (5 : UInt8),
                                           (5 : UInt8), (5 : UInt8), (5 : UInt8), (5 : UInt8), (5 : UInt8), (5 : UInt8), (5 : UInt8), (5 : UInt8), (6 : UInt8), (6 : UInt8), (6 : UInt8), (6 : UInt8), (6 : UInt8), (6 : UInt8), (6 : UInt8), (6 : UInt8), (6 : UInt8), (6 : UInt8), (6 : UInt8), (6 : UInt8), (6 : UInt8), (6 : UInt8), (6 : UInt8), (6 : UInt8),
                                           (6 : UInt8), (6 : UInt8), (6 : UInt8), (6 : UInt8), (6 : UInt8), (6 : UInt8), (6 : UInt8), (6 : UInt8), (6 : UInt8), (6 : UInt8), (6 : UInt8), (6 : UInt8), (6 : UInt8), (6 : UInt8), (6 : UInt8), (6 : UInt8), (7 : UInt8), (7 : UInt8), (7 : UInt8), (7 : UInt8), (7 : UInt8), (7 : UInt8), (7 : UInt8), (7 : UInt8),
                                           (7 : UInt8), (7 : UInt8), (7 : UInt8), (7 : UInt8), (7 : UInt8), (7 : UInt8), (7 : UInt8), (7 : UInt8), (7 : UInt8), (7 : UInt8), (7 : UInt8), (7 : UInt8), (7 : UInt8), (7 : UInt8), (7 : UInt8), (7 : UInt8), (7 : UInt8), (7 : UInt8), (7 : UInt8), (7 : UInt8), (7 : UInt8), (7 : UInt8), (7 : UInt8), (7 : UInt8),
                                           (7 : UInt8), (7 : UInt8), (7 : UInt8), (7 : UInt8), (7 : UInt8), (7 : UInt8), (7 : UInt8), (7 : UInt8), (7 : UInt8), (7 : UInt8), (7 : UInt8), (7 : UInt8), (7 : UInt8), (7 : UInt8), (7 : UInt8), (7 : UInt8), (7 : UInt8), (7 : UInt8), (7 : UInt8), (7 : UInt8), (7 : UInt8), (7 : UInt8), (7 : UInt8), (7 : UInt8),
                                           (7 : UInt8), (7 : UInt8), (7 : UInt8), (7 : UInt8), (7 : UInt8), (7 : UInt8), (7 : UInt8), (7 : UInt8), (8 : UInt8), (8 : UInt8), (8 : UInt8), (8 : UInt8), (8 : UInt8), (8 : UInt8), (8 : UInt8), (8 : UInt8), (8 : UInt8), (8 : UInt8), (8 : UInt8), (8 : UInt8), (8 : UInt8), (8 : UInt8), (8 : UInt8), (8 : UInt8),
                                           (8 : UInt8), (8 : UInt8), (8 : UInt8), (8 : UInt8), (8 : UInt8), (8 : UInt8), (8 : UInt8), (8 : UInt8), (8 : UInt8), (8 : UInt8), (8 : UInt8), (8 : UInt8), (8 : UInt8), (8 : UInt8), (8 : UInt8), (8 : UInt8), (8 : UInt8), (8 : UInt8), (8 : UInt8), (8 : UInt8), (8 : UInt8), (8 : UInt8), (8 : UInt8), (8 : UInt8),
                                           (8 : UInt8), (8 : UInt8), (8 : UInt8), (8 : UInt8), (8 : UInt8), (8 : UInt8), (8 : UInt8), (8 : UInt8), (8 : UInt8), (8 : UInt8), (8 : UInt8), (8 : UInt8), (8 : UInt8), (8 : UInt8), (8 : UInt8), (8 : UInt8), (8 : UInt8), (8 : UInt8), (8 : UInt8), (8 : UInt8), (8 : UInt8), (8 : UInt8), (8 : UInt8), (8 : UInt8),
                                           (8 : UInt8), (8 : UInt8), (8 : UInt8), (8 : UInt8), (8 : UInt8), (8 : UInt8), (8 : UInt8), (8 : UInt8), (8 : UInt8), (8 : UInt8), (8 : UInt8), (8 : UInt8), (8 : UInt8), (8 : UInt8), (8 : UInt8), (8 : UInt8), (8 : UInt8), (8 : UInt8), (8 : UInt8), (8 : UInt8), (8 : UInt8), (8 : UInt8), (8 : UInt8), (8 : UInt8),
                                           (8 : UInt8), (8 : UInt8), (8 : UInt8), (8 : UInt8), (8 : UInt8), (8 : UInt8), (8 : UInt8), (8 : UInt8), (8 : UInt8), (8 : UInt8), (8 : UInt8), (8 : UInt8), (8 : UInt8), (8 : UInt8), (8 : UInt8), (8 : UInt8), (8 : UInt8), (8 : UInt8), (8 : UInt8), (8 : UInt8), (8 : UInt8), (8 : UInt8), (8 : UInt8), (8 : UInt8),
                                           (8 : UInt8), (8 : UInt8), (8 : UInt8), (8 : UInt8), (8 : UInt8), (8 : UInt8), (8 : UInt8), (8 : UInt8), (8 : UInt8), (8 : UInt8), (8 : UInt8), (8 : UInt8), (8 : UInt8), (8 : UInt8), (8 : UInt8), (8 : UInt8)] } }).length :
                                   Int)) ∧
                                True ∧
                                 True ∧
                                  True ∧
                                   (false = false ∧ True) ∧
                                    D.val
                                      (Value.int IntKind.i64
                                       (IntKind.i64.wrap
                                        (IntKind.i64.wrap (IntKind.i64.wrap ((32 : Int) + (16 : Int)) + (8 : Int)) +
                                         IntKind.i64.wrap
                                          ((ints
                                             {
                                              data :=
                                               {
                                                toList :=
                                                 [(0 : UInt8), (1 : UInt8), (2 : UInt8), (2 : UInt8), (3 : UInt8), (3 : UInt8), (3 : UInt8), (3 : UInt8), (4 : UInt8), (4 : UInt8), (4 : UInt8), (4 : UInt8), (4 : UInt8), (4 : UInt8), (4 : UInt8), (4 : UInt8), (5 : UInt8), (5 : UInt8), (5 : UInt8), (5 : UInt8), (5 : UInt8), (5 : UInt8), (5 : UInt8),
                                                  (5 : UInt8), (5 : UInt8), (5 : UInt8), (5 : UInt8), (5 : UInt8), (5 : UInt8), (5 : UInt8), (5 : UInt8), (5 : UInt8), (6 : UInt8), (6 : UInt8), (6 : UInt8), (6 : UInt8), (6 : UInt8), (6 : UInt8), (6 : UInt8), (6 : UInt8), (6 : UInt8), (6 : UInt8), (6 : UInt8), (6 : UInt8), (6 : UInt8), (6 : UInt8),
                                                  (6 : UInt8), (6 : UInt8), (6 : UInt8), (6 : UInt8), (6 : UInt8), (6 : UInt8), (6 : UInt8), (6 : UInt8), (6 : UInt8), (6 : UInt8), (6 : UInt8), (6 : UInt8), (6 : UInt8), (6 : UInt8), (6 : UInt8), (6 : UInt8), (6 : UInt8), (6 : UInt8), (7 : UInt8), (7 : UInt8), (7 : UInt8), (7 : UInt8), (7 : UInt8),
                                                  (7 : UInt8), (7 : UInt8), (7 : UInt8), (7 : UInt8), (7 : UInt8), (7 : UInt8), (7 : UInt8), (7 : UInt8), (7 : UInt8), (7 : UInt8), (7 : UInt8), (7 : UInt8), (7 : UInt8), (7 : UInt8), (7 : UInt8), (7 : UInt8), (7 : UInt8), (7 : UInt8), (7 : UInt8), (7 : UInt8), (7 : UInt8), (7 : UInt8), (7 : UInt8),
                                                  (7 : UInt8), (7 : UInt8), (7 : UInt8), (7 : UInt8), (7 : UInt8), (7 : UInt8), (7 : UInt8), (7 : UInt8), (7 : UInt8), (7 : UInt8), (7 : UInt8), (7 : UInt8), (7 : UInt8), (7 : UInt8), (7 : UInt8), (7 : UInt8), (7 : UInt8), (7 : UInt8), (7 : UInt8), (7 : UInt8), (7 : UInt8), (7 : UInt8), (7 : UInt8),
                                                  (7 : UInt8), (7 : UInt8), (7 : UInt8), (7 : UInt8), (7 : UInt8), (7 : UInt8), (7 : UInt8), (7 : UInt8), (7 : UInt8), (7 : UInt8), (7 : UInt8), (7 : UInt8), (7 : UInt8), (8 : UInt8), (8 : UInt8), (8 : UInt8), (8 : UInt8), (8 : UInt8), (8 : UInt8), (8 : UInt8), (8 : UInt8), (8 : UInt8), (8 : UInt8),
                                                  (8 : UInt8), (8 : UInt8), (8 : UInt8), (8 : UInt8), (8 : UInt8), (8 : UInt8), (8 : UInt8), (8 : UInt8), (8 : UInt8), (8 : UInt8), (8 : UInt8), (8 : UInt8), (8 : UInt8), (8 : UInt8), (8 : UInt8), (8 : UInt8), (8 : UInt8), (8 : UInt8), (8 : UInt8), (8 : UInt8), (8 : UInt8), (8 : UInt8), (8 : UInt8),
                                                  (8 : UInt8), (8 : UInt8), (8 : UInt8), (8 : UInt8), (8 : UInt8), (8 : UInt8), (8 : UInt8), (8 : UInt8), (8 : UInt8), (8 : UInt8), (8 : UInt8), (8 : UInt8), (8 : UInt8), (8 : UInt8), (8 : UInt8), (8 : UInt8), (8 : UInt8), (8 : UInt8), (8 : UInt8), (8 : UInt8), (8 : UInt8), (8 : UInt8), (8 : UInt8),
                                                  (8 : UInt8), (8 : UInt8), (8 : UInt8), (8 : UInt8), (8 : UInt8), (8 : UInt8), (8 : UInt8), (8 : UInt8), (8 : UInt8), (8 : UInt8), (8 : UInt8), (8 : UInt8), (8 : UInt8), (8 : UInt8), (8 : UInt8), (8 : UInt8), (8 : UInt8), (8 : UInt8), (8 : UInt8), (8 : UInt8), (8 : UInt8), (8 : UInt8), (8 : UInt8),
                                                  (8 : UInt8), (8 : UInt8), (8 : UInt8), (8 : UInt8), (8 : UInt8), (8 : UInt8), (8 : UInt8), (8 : UInt8), (8 : UInt8), (8 : UInt8), (8 : UInt8), (8 : UInt8), (8 : UInt8), (8 : UInt8), (8 : UInt8), (8 : UInt8), (8 : UInt8), (8 : UInt8), (8 : UInt8), (8 : UInt8), (8 : UInt8), (8 : UInt8), (8 : UInt8),
                                                  (8 : UInt8), (8 : UInt8), (8 : UInt8), (8 : UInt8), (8 : UInt8), (8 : UInt8), (8 : UInt8), (8 : UInt8), (8 : UInt8), (8 : UInt8), (8 : UInt8), (8 : UInt8), (8 : UInt8), (8 : UInt8), (8 : UInt8), (8 : UInt8), (8 : UInt8), (8 : UInt8), (8 : UInt8), (8 : UInt8), (8 : UInt8), (8 : UInt8), (8 : UInt8),
                                                  (8 : UInt8), (8 : UInt8), (8 : UInt8)] } }).getD
                                           (IntKind.u8.wrap (ishr IntKind.u64 (ishr IntKind.u64 (ishr IntKind.u64 (↑x : Int) (32 : Int)) (16 : Int)) (8 : Int))).toNat (0 : Int))))) =
                                     F
                     | false =>
                      True ∧
                       True ∧
                        True ∧
                         ((0 : Int) ≤ IntKind.u8.wrap (ishr IntKind.u64 (ishr IntKind.u64 (↑x : Int) (32 : Int)) (16 : Int)) ∧
                           IntKind.u8.wrap (ishr IntKind.u64 (ishr IntKind.u64 (↑x : Int) (32 : Int)) (16 : Int)) <
                            (↑(ints
                                {
                                 data :=
                                  {
                                   toList :=
                                    [(0 : UInt8), (1 : UInt8), (2 : UInt8), (2 : UInt8), (3 : UInt8), (3 : UInt8), (3 : UInt8), (3 : UInt8), (4 : UInt8), (4 : UInt8), (4 : UInt8), (4 : UInt8), (4 : UInt8), (4 : UInt8), (4 : UInt8), (4 : UInt8), (5 : UInt8), (5 : UInt8), (5 : UInt8), (5 : UInt8), (5 : UInt8), (5 : UInt8), (5 : UInt8), (5 : UInt8), (5 : UInt8),
                                     (5 : UInt8), (5 : UInt8), (5 : UInt8), (5 : UInt8), (5 : UInt8), (5 : UInt8), (5 : UInt8), (6 : UInt8), (6 : UInt8), (6 : UInt8), (6 : UInt8), (6 : UInt8), (6 : UInt8), (6 : UInt8), (6 : UInt8), (6 : UInt8), (6 : UInt8), (6 : UInt8), (6 : UInt8), (6 : UInt8), (6 : UInt8), (6 : UInt8), (6 : UInt8), (6 : UInt8), (6 : UInt8),
                                     (6 : UInt8), (6 : UInt8), (6 : UInt8), (6 : UInt8), (6 : UInt8), (6 : UInt8), (6 : UInt8), (6 : UInt8), (6 : UInt8), (6 : UInt8), (6 : UInt8), (6 : UInt8), (6 : UInt8), (6 : UInt8), (7 : UInt8), (7 : UInt8), (7 : UInt8), (7 : UInt8), (7 : UInt8), (7 : UInt8), (7 : UInt8), (7 : UInt8), (7 : UInt8), (7 : UInt8), (7 : UInt8),
                                     (7 : UInt8), (7 : UInt8), (7 : UInt8), (7 : UInt8), (7 : UInt8), (7 : UInt8), (7 : UInt8), (7 : UInt8), (7 : UInt8), (7 : UInt8), (7 : UInt8), (7 : UInt8), (7 : UInt8), (7 : UInt8), (7 : UInt8), (7 : UInt8), (7 : UInt8), (7 : UInt8), (7 : UInt8), (7 : UInt8), (7 : UInt8), (7 : UInt8), (7 : UInt8), (7 : UInt8), (7 : UInt8),
                                     (7 : UInt8), (7 : UInt8), (7 : UInt8), (7 : UInt8), (7 : UInt8), (7 : UInt8), (7 : UInt8), (7 : UInt8), (7 : UInt8), (7 : UInt8), (7 : UInt8), (7 : UInt8), (7 : UInt8), (7 : UInt8), (7 : UInt8), (7 : UInt8), (7 : UInt8), (7 : UInt8), (7 : UInt8), (7 : UInt8), (7 : UInt8), (7 : UInt8), (7 : UInt8), (7 : UInt8), (7 : UInt8),
                                     (7 : UInt8), (7 : UInt8), (7 : UInt8), (8 : UInt8), (8 : UInt8), (8 : UInt8), (8 : UInt8), (8 : UInt8), (8 : UInt8), (8 : UInt8), (8 : UInt8), (8 : UInt8), (8 : UInt8), (8 : UInt8), (8 : UInt8), (8 : UInt8), (8 : UInt8), (8 : UInt8), (8 : UInt8), (8 : UInt8), (8 : UInt8), (8 : UInt8), (8 : UInt8), (8 : UInt8), (8 : UInt8),
                                     (8 : UInt8), (8 : UInt8), (8 : UInt8), (8 : UInt8), (8 : UInt8), (8 : UInt8), (8 : UInt8), (8 : UInt8), (8 : UInt8), (8 : UInt8), (8 : UInt8), (8 : UInt8), (8 : UInt8), (8 : UInt8), (8 : UInt8), (8 : UInt8), (8 : UInt8), (8 : UInt8), (8 : UInt8), (8 : UInt8), (8 : UInt8), (8 : UInt8), (8 : UInt8), (8 : UInt8), (8 : UInt8),
                                     (8 : UInt8), (8 : UInt8), (8 : UInt8), (8 : UInt8), (8 : UInt8), (8 : UInt8), (8 : UInt8), (8 : UInt8), (8 : UInt8), (8 : UInt8), (8 : UInt8), (8 : UInt8), (8 : UInt8), (8 : UInt8), (8 : UInt8), (8 : UInt8), (8 : UInt8), (8 : UInt8), (8 : UInt8), (8 : UInt8), (8 : UInt8), (8 : UInt8), (8 : UInt8), (8 : UInt8), (8 : UInt8),
                                     (8 : UInt8), (8 : UInt8), (8 : UInt8), (8 : UInt8), (8 : UInt8), (8 : UInt8), (8 : UInt8), (8 : UInt8), (8 : UInt8), (8 : UInt8), (8 : UInt8), (8 : UInt8), (8 : UInt8), (8 : UInt8), (8 : UInt8), (8 : UInt8), (8 : UInt8), (8 : UInt8), (8 : UInt8), (8 : UInt8), (8 : UInt8), (8 : UInt8), (8 : UInt8), (8 : UInt8), (8 : UInt8),
                                     (8 : UInt8), (8 : UInt8), (8 : UInt8), (8 : UInt8), (8 : UInt8), (8 : UInt8), (8 : UInt8), (8 : UInt8), (8 : UInt8), (8 : UInt8), (8 : UInt8), (8 : UInt8), (8 : UInt8), (8 : UInt8), (8 : UInt8), (8 : UInt8), (8 : UInt8), (8 : UInt8), (8 : UInt8), (8 : UInt8), (8 : UInt8), (8 : UInt8), (8 : UInt8), (8 : UInt8), (8 : UInt8),
                                     (8 : UInt8), (8 : UInt8), (8 : UInt8), (8 : UInt8), (8 : UInt8), (8 : UInt8)] } }).length :
                             Int)) ∧
                          True ∧
                           True ∧
                            True ∧
                             (false = false ∧ True) ∧
                              D.val
                                (Value.int IntKind.i64
                                 (IntKind.i64.wrap
                                  (IntKind.i64.wrap ((32 : Int) + (16 : Int)) +
                                   IntKind.i64.wrap
                                    ((ints
                                       {
                                        data :=
                                         {
                                          toList :=
                                           [(0 : UInt8), (1 : UInt8), (2 : UInt8), (2 : UInt8), (3 : UInt8), (3 : UInt8), (3 : UInt8), (3 : UInt8), (4 : UInt8), (4 : UInt8), (4 : UInt8), (4 : UInt8), (4 : UInt8), (4 : UInt8), (4 : UInt8), (4 : UInt8), (5 : UInt8), (5 : UInt8), (5 : UInt8), (5 : UInt8), (5 : UInt8), (5 : UInt8), (5 : UInt8), (5 : UInt8),
                                            (5 : UInt8), (5 : UInt8), (5 : UInt8), (5 : UInt8), (5 : UInt8), (5 : UInt8), (5 : UInt8), (5 : UInt8), (6 : UInt8), (6 : UInt8), (6 : UInt8), (6 : UInt8), (6 : UInt8), (6 : UInt8), (6 : UInt8), (6 : UInt8), (6 : UInt8), (6 : UInt8), (6 : UInt8), (6 : UInt8), (6 : UInt8), (6 : UInt8), (6 : UInt8), (6 : UInt8),
                                            (6 : UInt8), (6 : UInt8), (6 : UInt8), (6 : UInt8), (6 : UInt8), (6 : UInt8), (6 : UInt8), (6 : UInt8), (6 : UInt8), (6 : UInt8), (6 : UInt8), (6 : UInt8), (6 : UInt8), (6 : UInt8), (6 : UInt8), (6 : UInt8), (7 : UInt8), (7 : UInt8), (7 : UInt8), (7 : UInt8), (7 : UInt8), (7 : UInt8), (7 : UInt8), (7 : UInt8),
                                            (7 : UInt8), (7 : UInt8), (7 : UInt8), (7 : UInt8), (7 : UInt8), (7 : UInt8), (7 : UInt8), (7 : UInt8), (7 : UInt8), (7 : UInt8), (7 : UInt8), (7 : UInt8), (7 : UInt8), (7 : UInt8), (7 : UInt8), (7 : UInt8), (7 : UInt8), (7 : UInt8), (7 : UInt8), (7 : UInt8), (7 : UInt8), (7 : UInt8), (7 : UInt8), (7 : UInt8),
                                            (7 : UInt8), (7 : UInt8), (7 : UInt8), (7 : UInt8), (7 : UInt8), (7 : UInt8), (7 : UInt8), (7 : UInt8), (7 : UInt8), (7 : UInt8), (7 : UInt8), (7 : UInt8), (7 : UInt8), (7 : UInt8), (7 : UInt8), (7 : UInt8), (7 : UInt8), (7 : UInt8), (7 : UInt8), (7 : UInt8), (7 : UInt8), (7 : UInt8), (7 : UInt8), (7 : UInt8),
                                            (7 : UInt8), (7 : UInt8), (7 : UInt8), (7 : UInt8), (7 : UInt8), (7 : UInt8), (7 : UInt8), (7 : UInt8), (8 : UInt8), (8 : UInt8), (8 : UInt8), (8 : UInt8), (8 : UInt8), (8 : UInt8), (8 : UInt8), (8 : UInt8), (8 : UInt8), (8 : UInt8), (8 : UInt8), (8 : UInt8), (8 : UInt8), (8 : UInt8), (8 : UInt8), (8 : UInt8),
                                            (8 : UInt8), (8 : UInt8), (8 : UInt8), (8 : UInt8), (8 : UInt8), (8 : UInt8), (8 : UInt8), (8 : UInt8), (8 : UInt8), (8 : UInt8), (8 : UInt8), (8 : UInt8), (8 : UInt8), (8 : UInt8), (8 : UInt8), (8 : UInt8), (8 : UInt8), (8 : UInt8), (8 : UInt8), (8 : UInt8), (8 : UInt8), (8 : UInt8), (8 : UInt8), (8 : UInt8),
                                            (8 : UInt8), (8 : UInt8), (8 : UInt8), (8 : UInt8), (8 : UInt8), (8 : UInt8), (8 : UInt8), (8 : UInt8), (8 : UInt8), (8 : UInt8), (8 : UInt8), (8 : UInt8), (8 : UInt8), (8 : UInt8), (8 : UInt8), (8 : UInt8), (8 : UInt8), (8 : UInt8), (8 : UInt8), (8 : UInt8), (8 : UInt8), (8 : UInt8), (8 : UInt8), (8 : UInt8),
                                            (8 : UInt8), (8 : UInt8), (8 : UInt8), (8 : UInt8), (8 : UInt8), (8 : UInt8), (8 : UInt8), (8 : UInt8), (8 : UInt8), (8 : UInt8), (8 : UInt8), (8 : UInt8), (8 : UInt8), (8 : UInt8), (8 : UInt8), (8 : UInt8), (8 : UInt8), (8 : UInt8), (8 : UInt8), (8 : UInt8), (8 : UInt8), (8 : UInt8), (8 : UInt8), (8 : UInt8),
                                            (8 : UInt8), (8 : UInt8), (8 : UInt8), (8 : UInt8), (8 : UInt8), (8 : UInt8), (8 : UInt8), (8 : UInt8), (8 : UInt8), (8 : UInt8), (8 : UInt8), (8 : UInt8), (8 : UInt8), (8 : UInt8), (8 : UInt8), (8 : UInt8), (8 : UInt8), (8 : UInt8), (8 : UInt8), (8 : UInt8), (8 : UInt8), (8 : UInt8), (8 : UInt8), (8 : UInt8),
                                            (8 : UInt8), (8 : UInt8), (8 : UInt8), (8 : UInt8), (8 : UInt8), (8 : UInt8), (8 : UInt8), (8 : UInt8), (8 : UInt8), (8 : UInt8), (8 : UInt8), (8 : UInt8), (8 : UInt8), (8 : UInt8), (8 : UInt8), (8 : UInt8)] } }).getD
                                     (IntKind.u8.wrap (ishr IntKind.u64 (ishr IntKind.u64 (↑x : Int) (32 : Int)) (16 : Int))).toNat (0 : Int))))) =
                               F
            | false =>
             True ∧
              True ∧
               match decide (ishr IntKind.u64 (↑x : Int) (32 : Int) ≥ (256 : Int)) with
               | true =>
                True ∧
                 (0 : Int) ≤ (8 : Int) ∧
                  True ∧
                   True ∧
                    True ∧
                     True ∧
                      True ∧
                       True ∧
                        True ∧
                         ((0 : Int) ≤ IntKind.u8.wrap (ishr IntKind.u64 (ishr IntKind.u64 (↑x : Int) (32 : Int)) (8 : Int)) ∧
                           IntKind.u8.wrap (ishr IntKind.u64 (ishr IntKind.u64 (↑x : Int) (32 : Int)) (8 : Int)) <
                            (↑(ints
                                {
                                 data :=
                                  {
                                   toList :=
                                    [(0 : UInt8), (1 : UInt8), (2 : UInt8), (2 : UInt8), (3 : UInt8), (3 : UInt8), (3 : UInt8), (3 : UInt8), (4 : UInt8), (4 : UInt8), (4 : UInt8), (4 : UInt8), (4 : UInt8), (4 : UInt8), (4 : UInt8), (4 : UInt8), (5 : UInt8), (5 : UInt8), (5 : UInt8), (5 : UInt8), (5 : UInt8), (5 : UInt8), (5 : UInt8), (5 : UInt8), (5 : UInt8),
                                     (5 : UInt8), (5 : UInt8), (5 : UInt8), (5 : UInt8), (5 : UInt8), (5 : UInt8), (5 : UInt8), (6 : UInt8), (6 : UInt8), (6 : UInt8), (6 : UInt8), (6 : UInt8), (6 : UInt8), (6 : UInt8), (6 : UInt8), (6 : UInt8), (6 : UInt8), (6 : UInt8), (6 : UInt8), (6 : UInt8), (6 : UInt8), (6 : UInt8), (6 : UInt8), (6 : UInt8), (6 : UInt8),
                                     (6 : UInt8), (6 : UInt8), (6 : UInt8), (6 : UInt8), (6 : UInt8), (6 : UInt8), (6 : UInt8), (6 : UInt8), (6 : UInt8), (6 : UInt8), (6 : UInt8), (6 : UInt8), (6 : UInt8), (6 : UInt8), (7 : UInt8), (7 : UInt8), (7 : UInt8), (7 : UInt8), (7 : UInt8), (7 : UInt8), (7 : UInt8), (7 : UInt8), (7 : UInt8), (7 : UInt8), (7 : UInt8),
                                     (7 : UInt8), (7 : UInt8), (7 : UInt8), (7 : UInt8), (7 : UInt8), (7 : UInt8), (7 : UInt8), (7 : UInt8), (7 : UInt8), (7 : UInt8), (7 : UInt8), (7 : UInt8), (7 : UInt8), (7 : UInt8), (7 : UInt8), (7 : UInt8), (7 : UInt8), (7 : UInt8), (7 : UInt8), (7 : UInt8), (7 : UInt8), (7 : UInt8), (7 : UInt8), (7 : UInt8), (7 : UInt8),
                                     (7 : UInt8), (7 : UInt8), (7 : UInt8), (7 : UInt8), (7 : UInt8), (7 : UInt8), (7 : UInt8), (7 : UInt8), (7 : UInt8), (7 : UInt8), (7 : UInt8), (7 : UInt8), (7 : UInt8), (7 : UInt8), (7 : UInt8), (7 : UInt8), (7 : UInt8), (7 : UInt8), (7 : UInt8), (7 : UInt8), (7 : UInt8), (7 : UInt8), (7 : UInt8), (7 : UInt8), (7 : UInt8),
                                     (7 : UInt8), (7 : UInt8), (7 : UInt8), (8 : UInt8), (8 : UInt8), (8 : UInt8), (8 : UInt8), (8 : UInt8), (8 : UInt8), (8 : UInt8), (8 : UInt8), (8 : UInt8), (8 : UInt8), (8 : UInt8), (8 : UInt8), (8 : UInt8), (8 : UInt8), (8 : UInt8), (8 : UInt8), (8 : UInt8), (8 : UInt8), (8 : UInt8), (8 : UInt8), (8 : UInt8), (8 : UInt8),
                                     (8 : UInt8), (8 : UInt8), (8 : UInt8), (8 : UInt8), (8 : UInt8), (8 : UInt8), (8 : UInt8), (8 : UInt8), (8 : UInt8), (8 : UInt8), (8 : UInt8), (8 : UInt8), (8 : UInt8), (8 : UInt8), (8 : UInt8), (8 : UInt8), (8 : UInt8), (8 : UInt8), (8 : UInt8), (8 : UInt8), (8 : UInt8), (8 : UInt8), (8 : UInt8), (8 : UInt8), (8 : UInt8),
                                     (8 : UInt8), (8 : UInt8), (8 : UInt8), (8 : UInt8), (8 : UInt8), (8 : UInt8), (8 : UInt8), (8 : UInt8), (8 : UInt8), (8 : UInt8), (8 : UInt8), (8 : UInt8), (8 : UInt8), (8 : UInt8), (8 : UInt8), (8 : UInt8), (8 : UInt8), (8 : UInt8), (8 : UInt8), (8 : UInt8), (8 : UInt8), (8 : UInt8), (8 : UInt8), (8 : UInt8), (8 : UInt8),
                                     (8 : UInt8), (8 : UInt8), (8 : UInt8), (8 : UInt8), (8 : UInt8), (8 : UInt8), (8 : UInt8), (8 : UInt8), (8 : UInt8), (8 : UInt8), (8 : UInt8), (8 : UInt8), (8 : UInt8), (8 : UInt8), (8 : UInt8), (8 : UInt8), (8 : UInt8), (8 : UInt8), (8 : UInt8), (8 : UInt8), (8 : UInt8), (8 : UInt8), (8 : UInt8), (8 : UInt8), (8 : UInt8),
                                     (8 : UInt8), (8 : UInt8), (8 : UInt8), (8 : UInt8), (8 : UInt8), (8 : UInt8), (8 : UInt8), (8 : UInt8), (8 : UInt8), (8 : UInt8), (8 : UInt8), (8 : UInt8), (8 : UInt8), (8 : UInt8), (8 : UInt8), (8 : UInt8), (8 : UInt8), (8 : UInt8), (8 : UInt8), (8 : UInt8), (8 : UInt8), (8 : UInt8), (8 : UInt8), (8 : UInt8), (8 : UInt8),
                                     (8 : UInt8), (8 : UInt8), (8 : UInt8), (8 : UInt8), (8 : UInt8), (8 : UInt8)] } }).length :
                             Int)) ∧
                          True ∧
                           True ∧
                            True ∧
                             (false = false ∧ True) ∧
                              D.val
                                (Value.int IntKind.i64
                                 (IntKind.i64.wrap
                                  (IntKind.i64.wrap ((32 : Int) + (8 : Int)) +
                                   IntKind.i64.wrap
                                    ((ints
                                       {
                                        data :=
                                         {
                                          toList :=
                                           [(0 : UInt8), (1 : UInt8), (2 : UInt8), (2 : UInt8), (3 : UInt8), (3 : UInt8), (3 : UInt8), (3 : UInt8), (4 : UInt8), (4 : UInt8), (4 : UInt8), (4 : UInt8), (4 : UInt8), (4 : UInt8), (4 : UInt8), (4 : UInt8), (5 : UInt8), (5 : UInt8), (5 : UInt8), (5 : UInt8), (5 : UInt8), (5 : UInt8), (5 : UInt8), (5 : UInt8),
                                            (5 : UInt8), (5 : UInt8), (5 : UInt8), (5 : UInt8), (5 : UInt8), (5 : UInt8), (5 : UInt8), (5 : UInt8), (6 : UInt8), (6 : UInt8), (6 : UInt8), (6 : UInt8), (6 : UInt8), (6 : UInt8), (6 : UInt8), (6 : UInt8), (6 : UInt8), (6 : UInt8), (6 : UInt8), (6 : UInt8), (6 : UInt8), (6 : UInt8), (6 : UInt8), (6 : UInt8),
                                            (6 : UInt8), (6 : UInt8), (6 : UInt8), (6 : UInt8), (6 : UInt8), (6 : UInt8), (6 : UInt8), (6 : UInt8), (6 : UInt8), (6 : UInt8), (6 : UInt8), (6 : UInt8), (6 : UInt8), (6 : UInt8), (6 : UInt8), (6 : UInt8), (7 : UInt8), (7 : UInt8), (7 : UInt8), (7 : UInt8), (7 : UInt8), (7 : UInt8), (7 : UInt8), (7 : UInt8),
                                            (7 : UInt8), (7 : UInt8), (7 : UInt8), (7 : UInt8), (7 : UInt8), (7 : UInt8), (7 : UInt8), (7 : UInt8), (7 : UInt8), (7 : UInt8), (7 : UInt8), (7 : UInt8), (7 : UInt8), (7 : UInt8), (7 : UInt8), (7 : UInt8), (7 : UInt8), (7 : UInt8), (7 : UInt8), (7 : UInt8), (7 : UInt8), (7 : UInt8), (7 : UInt8), (7 : UInt8),
                                            (7 : UInt8), (7 : UInt8), (7 : UInt8), (7 : UInt8), (7 : UInt8), (7 : UInt8), (7 : UInt8), (7 : UInt8), (7 : UInt8), (7 : UInt8), (7 : UInt8), (7 : UInt8), (7 : UInt8), (7 : UInt8), (7 : UInt8), (7 : UInt8), (7 : UInt8), (7 : UInt8), (7 : UInt8), (7 : UInt8), (7 : UInt8), (7 : UInt8), (7 : UInt8), (7 : UInt8),
                                            (7 : UInt8), (7 : UInt8), (7 : UInt8), (7 : UInt8), (7 : UInt8), (7 : UInt8), (7 : UInt8), (7 : UInt8), (8 : UInt8), (8 : UInt8), (8 : UInt8), (8 : UInt8), (8 : UInt8), (8 : UInt8), (8 : UInt8), (8 : UInt8), (8 : UInt8), (8 : UInt8), (8 : UInt8), (8 : UInt8), (8 : UInt8), (8 : UInt8), (8 : UInt8), (8 : UInt8),
                                            (8 : UInt8), (8 : UInt8), (8 : UInt8), (8 : UInt8), (8 : UInt8), (8 : UInt8), (8 : UInt8), (8 : UInt8), (8 : UInt8), (8 : UInt8), (8 : UInt8), (8 : UInt8), (8 : UInt8), (8 : UInt8), (8 : UInt8), (8 : UInt8), (8 : UInt8), (8 : UInt8), (8 : UInt8), (8 : UInt8), (8 : UInt8), (8 : UInt8), (8 : UInt8), (8 : UInt8),
                                            (8 : UInt8), (8 : UInt8), (8 : UInt8), (8 : UInt8), (8 : UInt8), (8 : UInt8), (8 : UInt8), (8 : UInt8), (8 : UInt8), (8 : UInt8), (8 : UInt8), (8 : UInt8), (8 : UInt8), (8 : UInt8), (8 : UInt8), (8 : UInt8), (8 : UInt8), (8 : UInt8), (8 : UInt8), (8 : UInt8), (8 : UInt8), (8 : UInt8), (8 : UInt8), (8 : UInt8),
                                            (8 : UInt8), (8 : UInt8), (8 : UInt8), (8 : UInt8), (8 : UInt8), (8 : UInt8), (8 : UInt8), (8 : UInt8), (8 : UInt8), (8 : UInt8), (8 : UInt8), (8 : UInt8), (8 : UInt8), (8 : UInt8), (8 : UInt8), (8 : UInt8), (8 : UInt8), (8 : UInt8), (8 : UInt8), (8 : UInt8), (8 : UInt8), (8 : UInt8), (8 : UInt8), (8 : UInt8),
                                            (8 : UInt8), (8 : UInt8), (8 : UInt8), (8 : UInt8), (8 : UInt8), (8 : UInt8), (8 : UInt8), (8 : UInt8), (8 : UInt8), (8 : UInt8), (8 : UInt8), (8 : UInt8), (8 : UInt8), (8 : UInt8), (8 : UInt8), (8 : UInt8), (8 : UInt8), (8 : UInt8), (8 : UInt8), (8 : UInt8), (8 : UInt8), (8 : UInt8), (8 : UInt8), (8 : UInt8),
                                            (8 : UInt8), (8 : UInt8), (8 : UInt8), (8 : UInt8), (8 : UInt8), (8 : UInt8), (8 : UInt8), (8 : UInt8), (8 : UInt8), (8 : UInt8), (8 : UInt8), (8 : UInt8), (8 : UInt8), (8 : UInt8), (8 : UInt8), (8 : UInt8)] } }).getD
                                     (IntKind.u8.wrap (ishr IntKind.u64 (ishr IntKind.u64 (↑x : Int) (32 : Int)) (8 : Int))).toNat (0 : Int))))) =
                               F
               | false =>
                True ∧
                 True ∧
                  True ∧
                   ((0 : Int) ≤ IntKind.u8.wrap (ishr IntKind.u64 (↑x : Int) (32 : Int)) ∧
                     IntKind.u8.wrap (ishr IntKind.u64 (↑x : Int) (32 : Int)) <
                      (↑(ints
                          {
                           data :=
                            {
                             toList :=
                              [(0 : UInt8), (1 : UInt8), (2 : UInt8), (2 : UInt8), (3 : UInt8), (3 : UInt8), (3 : UInt8), (3 : UInt8), (4 : UInt8), (4 : UInt8), (4 : UInt8), (4 : UInt8), (4 : UInt8), (4 : UInt8), (4 : UInt8), (4 : UInt8), (5 : UInt8), (5 : UInt8), (5 : UInt8), (5 : UInt8), (5 : UInt8), (5 : UInt8), (5 : UInt8), (5 : UInt8), (5 : UInt8), (5 : UInt8),
                               (5 : UInt8), (5 : UInt8), (5 : UInt8), (5 : UInt8), (5 : UInt8), (5 : UInt8), (6 : UInt8), (6 : UInt8), (6 : UInt8), (6 : UInt8), (6 : UInt8), (6 : UInt8), (6 : UInt8), (6 : UInt8), (6 : UInt8), (6 : UInt8), (6 : UInt8), (6 : UInt8), (6 : UInt8), (6 : UInt8), (6 : UInt8), (6 : UInt8), (6 : UInt8), (6 : UInt8), (6 : UInt8), (6 : UInt8),
                               (6 : UInt8), (6 : UInt8), (6 : UInt8), (6 : UInt8), (6 : UInt8), (6 : UInt8), (6 : UInt8), (6 : UInt8), (6 : UInt8), (6 : UInt8), (6 : UInt8), (6 : UInt8), (7 : UInt8), (7 : UInt8), (7 : UInt8), (7 : UInt8), (7 : UInt8), (7 : UInt8), (7 : UInt8), (7 : UInt8), (7 : UInt8), (7 : UInt8), (7 : UInt8), (7 : UInt8), (7 : UInt8), (7 : UInt8),
                               (7 : UInt8), (7 : UInt8), (7 : UInt8), (7 : UInt8), (7 : UInt8), (7 : UInt8), (7 : UInt8), (7 : UInt8), (7 : UInt8), (7 : UInt8), (7 : UInt8), (7 : UInt8), (7 : UInt8), (7 : UInt8), (7 : UInt8), (7 : UInt8), (7 : UInt8), (7 : UInt8), (7 : UInt8), (7 : UInt8), (7 : UInt8), (7 : UInt8), (7 : UInt8), (7 : UInt8), (7 : UInt8), (7 : UInt8),
                               (7 : UInt8), (7 : UInt8), (7 : UInt8), (7 : UInt8), (7 : UInt8), (7 : UInt8), (7 : UInt8), (7 : UInt8), (7 : UInt8), (7 : UInt8), (7 : UInt8), (7 : UInt8), (7 : UInt8), (7 : UInt8), (7 : UInt8), (7 : UInt8), (7 : UInt8), (7 : UInt8), (7 : UInt8), (7 : UInt8), (7 : UInt8), (7 : UInt8), (7 : UInt8), (7 : UInt8), (8 : UInt8), (8 : UInt8),
                               (8 : UInt8), (8 : UInt8), (8 : UInt8), (8 : UInt8), (8 : UInt8), (8 : UInt8), (8 : UInt8), (8 : UInt8), (8 : UInt8), (8 : UInt8), (8 : UInt8), (8 : UInt8), (8 : UInt8), (8 : UInt8), (8 : UInt8), (8 : UInt8), (8 : UInt8), (8 : UInt8), (8 : UInt8), (8 : UInt8), (8 : UInt8), (8 : UInt8), (8 : UInt8), (8 : UInt8), (8 : UInt8), (8 : UInt8),
                               (8 : UInt8), (8 : UInt8), (8 : UInt8), (8 : UInt8), (8 : UInt8), (8 : UInt8), (8 : UInt8), (8 : UInt8), (8 : UInt8), (8 : UInt8), (8 : UInt8), (8 : UInt8), (8 : UInt8), (8 : UInt8), (8 : UInt8), (8 : UInt8), (8 : UInt8), (8 : UInt8), (8 : UInt8), (8 : UInt8), (8 : UInt8), (8 : UInt8), (8 : UInt8), (8 : UInt8), (8 : UInt8), (8 : UInt8),
                               (8 : UInt8), (8 : UInt8), (8 : UInt8), (8 : UInt8), (8 : UInt8), (8 : UInt8), (8 : UInt8), (8 : UInt8), (8 : UInt8), (8 : UInt8), (8 : UInt8), (8 : UInt8), (8 : UInt8), (8 : UInt8), (8 : UInt8), (8 : UInt8), (8 : UInt8), (8 : UInt8), (8 : UInt8), (8 : UInt8), (8 : UInt8), (8 : UInt8), (8 : UInt8), (8 : UInt8), (8 : UInt8), (8 : UInt8),
                               (8 : UInt8), (8 : UInt8), (8 : UInt8), (8 : UInt8), (8 : UInt8), (8 : UInt8), (8 : UInt8), (8 : UInt8), (8 : UInt8), (8 : UInt8), (8 : UInt8), (8 : UInt8), (8 : UInt8), (8 : UInt8), (8 : UInt8), (8 : UInt8), (8 : UInt8), (8 : UInt8), (8 : UInt8), (8 : UInt8), (8 : UInt8), (8 : UInt8), (8 : UInt8), (8 : UInt8), (8 : UInt8), (8 : UInt8),
                               (8 : UInt8), (8 : UInt8), (8 : UInt8), (8 : UInt8), (8 : UInt8), (8 : UInt8), (8 : UInt8), (8 : UInt8), (8 : UInt8), (8 : UInt8), (8 : UInt8), (8 : UInt8), (8 : UInt8), (8 : UInt8), (8 : UInt8), (8 : UInt8), (8 : UInt8), (8 : UInt8), (8 : UInt8), (8 : UInt8), (8 : UInt8), (8 : UInt8)] } }).length :
                       Int)) ∧
                    True ∧
                     True ∧
                      True ∧
                       (false = false ∧ True) ∧
                        D.val
                          (Value.int IntKind.i64
                           (IntKind.i64.wrap
                            ((32 : Int) +
                             IntKind.i64.wrap
                              ((ints
                                 {
                                  data :=
                                   {
                                    toList :=
                                     [(0 : UInt8), (1 : UInt8), (2 : UInt8), (2 : UInt8), (3 : UInt8), (3 : UInt8), (3 : UInt8), (3 : UInt8), (4 : UInt8), (4 : UInt8), (4 : UInt8), (4 : UInt8), (4 : UInt8), (4 : UInt8), (4 : UInt8), (4 : UInt8), (5 : UInt8), (5 : UInt8), (5 : UInt8), (5 : UInt8), (5 : UInt8), (5 : UInt8), (5 : UInt8), (5 : UInt8), (5 : UInt8),
                                      (5 : UInt8), (5 : UInt8), (5 : UInt8), (5 : UInt8), (5 : UInt8), (5 : UInt8), (5 : UInt8), (6 : UInt8), (6 : UInt8), (6 : UInt8), (6 : UInt8), (6 : UInt8), (6 : UInt8), (6 : UInt8), (6 : UInt8), (6 : UInt8), (6 : UInt8), (6 : UInt8), (6 : UInt8), (6 : UInt8), (6 : UInt8), (6 : UInt8), (6 : UInt8), (6 : UInt8), (6 : UInt8),
                                      (6 : UInt8), (6 : UInt8), (6 : UInt8), (6 : UInt8), (6 : UInt8), (6 : UInt8), (6 : UInt8), (6 : UInt8), (6 : UInt8), (6 : UInt8), (6 : UInt8), (6 : UInt8), (6 : UInt8), (6 : UInt8), (7 : UInt8), (7 : UInt8), (7 : UInt8), (7 : UInt8), (7 : UInt8), (7 : UInt8), (7 : UInt8), (7 : UInt8), (7 : UInt8), (7 : UInt8), (7 : UInt8),
                                      (7 : UInt8), (7 : UInt8), (7 : UInt8), (7 : UInt8), (7 : UInt8), (7 : UInt8), (7 : UInt8), (7 : UInt8), (7 : UInt8), (7 : UInt8), (7 : UInt8), (7 : UInt8), (7 : UInt8), (7 : UInt8), (7 : UInt8), (7 : UInt8), (7 : UInt8), (7 : UInt8), (7 : UInt8), (7 : UInt8), (7 : UInt8), (7 : UInt8), (7 : UInt8), (7 : UInt8), (7 : UInt8),
                                      (7 : UInt8), (7 : UInt8), (7 : UInt8), (7 : UInt8), (7 : UInt8), (7 : UInt8), (7 : UInt8), (7 : UInt8), (7 : UInt8), (7 : UInt8), (7 : UInt8), (7 : UInt8), (7 : UInt8), (7 : UInt8), (7 : UInt8), (7 : UInt8), (7 : UInt8), (7 : UInt8), (7 : UInt8), (7 : UInt8), (7 : UInt8), (7 : UInt8), (7 : UInt8), (7 : UInt8), (7 : UInt8),
                                      (7 : UInt8), (7 : UInt8), (7 : UInt8), (8 : UInt8), (8 : UInt8), (8 : UInt8), (8 : UInt8), (8 : UInt8), (8 : UInt8), (8 : UInt8), (8 : UInt8), (8 : UInt8), (8 : UInt8), (8 : UInt8), (8 : UInt8), (8 : UInt8), (8 : UInt8), (8 : UInt8), (8 : UInt8), (8 : UInt8), (8 : UInt8), (8 : UInt8), (8 : UInt8), (8 : UInt8), (8 : UInt8),
                                      (8 : UInt8), (8 : UInt8), (8 : UInt8), (8 : UInt8), (8 : UInt8), (8 : UInt8), (8 : UInt8), (8 : UInt8), (8 : UInt8), (8 : UInt8), (8 : UInt8), (8 : UInt8), (8 : UInt8), (8 : UInt8), (8 : UInt8), (8 : UInt8), (8 : UInt8), (8 : UInt8), (8 : UInt8), (8 : UInt8), (8 : UInt8), (8 : UInt8), (8 : UInt8), (8 : UInt8), (8 : UInt8),
                                      (8 : UInt8), (8 : UInt8), (8 : UInt8), (8 : UInt8), (8 : UInt8), (8 : UInt8), (8 : UInt8), (8 : UInt8), (8 : UInt8), (8 : UInt8), (8 : UInt8), (8 : UInt8), (8 : UInt8), (8 : UInt8), (8 : UInt8), (8 : UInt8), (8 : UInt8), (8 : UInt8), (8 : UInt8), (8 : UInt8), (8 : UInt8), (8 : UInt8), (8 : UInt8), (8 : UInt8), (8 : UInt8),
                                      (8 : UInt8), (8 : UInt8), (8 : UInt8), (8 : UInt8), (8 : UInt8), (8 : UInt8), (8 : UInt8), (8 : UInt8), (8 : UInt8), (8 : UInt8), (8 : UInt8), (8 : UInt8), (8 : UInt8), (8 : UInt8), (8 : UInt8), (8 : UInt8), (8 : UInt8), (8 : UInt8), (8 : UInt8), (8 : UInt8), (8 : UInt8), (8 : UInt8), (8 : UInt8), (8 : UInt8), (8 : UInt8),
                                      (8 : UInt8), (8 : UInt8), (8 : UInt8), (8 : UInt8), (8 : UInt8), (8 : UInt8), (8 : UInt8), (8 : UInt8), (8 : UInt8), (8 : UInt8), (8 : UInt8), (8 : UInt8), (8 : UInt8), (8 : UInt8), (8 : UInt8), (8 : UInt8), (8 : UInt8), (8 : UInt8), (8 : UInt8), (8 : UInt8), (8 : UInt8), (8 : UInt8), (8 : UInt8), (8 : UInt8), (8 : UInt8),
                                      (8 : UInt8), (8 : UInt8), (8 : UInt8), (8 : UInt8), (8 : UInt8), (8 : UInt8)] } }).getD
                               (IntKind.u8.wrap (ishr IntKind.u64 (↑x : Int) (32 : Int))).toNat (0 : Int))))) =
                         F
     | false =>
      True ∧
       True ∧
        match decide ((↑x : Int) ≥ (65536 : Int)) with
        | true =>
         True ∧
          (0 : Int) ≤ (16 : Int) ∧
           True ∧
            True ∧
             True ∧
              True ∧
               True ∧
                True ∧
                 match decide (ishr IntKind.u64 (↑x : Int) (16 : Int) ≥ (256 : Int)) with
                 | true =>
                  True ∧
                   (0 : Int) ≤ (8 : Int) ∧
                    True ∧
                     True ∧
                      True ∧
                       True ∧
                        True ∧
                         True ∧
                          True ∧
                           ((0 : Int) ≤ IntKind.u8.wrap (ishr IntKind.u64 (ishr IntKind.u64 (↑x : Int) (16 : Int)) (8 : Int)) ∧
                             IntKind.u8.wrap (ishr IntKind.u64 (ishr IntKind.u64 (↑x : Int) (16 : Int)) (8 : Int)) <
                              (↑(ints
                                  {
                                   data :=
                                    {
                                     toList :=
                                      [(0 : UInt8), (1 : UInt8), (2 : UInt8), (2 : UInt8), (3 : UInt8), (3 : UInt8), (3 : UInt8), (3 : UInt8), (4 : UInt8), (4 : UInt8), (4 : UInt8), (4 : UInt8), (4 : UInt8), (4 : UInt8), (4 : UInt8), (4 : UInt8), (5 : UInt8), (5 : UInt8), (5 : UInt8), (5 : UInt8), (5 : UInt8), (5 : UInt8), (5 : UInt8), (5 : UInt8), (5 : UInt8),
                                       (5 : UInt8), (5 : UInt8), (5 : UInt8), (5 : UInt8), (5 : UInt8), (5 : UInt8), (5 : UInt8), (6 : UInt8), (6 : UInt8), (6 : UInt8), (6 : UInt8), (6 : UInt8), (6 : UInt8), (6 : UInt8), (6 : UInt8), (6 : UInt8), (6 : UInt8), (6 : UInt8), (6 : UInt8), (6 : UInt8), (6 : UInt8), (6 : UInt8), (6 : UInt8), (6 : UInt8), (6 : UInt8),
                                       (6 : UInt8), (6 : UInt8), (6 : UInt8), (6 : UInt8), (6 : UInt8), (6 : UInt8), (6 : UInt8), (6 : UInt8), (6 : UInt8), (6 : UInt8), (6 : UInt8), (6 : UInt8), (6 : UInt8), (6 : UInt8), (7 : UInt8), (7 : UInt8), (7 : UInt8), (7 : UInt8), (7 : UInt8), (7 : UInt8), (7 : UInt8), (7 : UInt8), (7 : UInt8), (7 : UInt8), (7 : UInt8),
                                       (7 : UInt8), (7 : UInt8), (7 : UInt8), (7 : UInt8), (7 : UInt8), (7 : UInt8), (7 : UInt8), (7 : UInt8), (7 : UInt8), (7 : UInt8), (7 : UInt8), (7 : UInt8), (7 : UInt8), (7 : UInt8), (7 : UInt8), (7 : UInt8), (7 : UInt8), (7 : UInt8), (7 : UInt8), (7 : UInt8), (7 : UInt8), (7 : UInt8), (7 : UInt8), (7 : UInt8), (7 : UInt8),
                                       (7 : UInt8), (7 : UInt8), (7 : UInt8), (7 : UInt8), (7 : UInt8), (7 : UInt8), (7 : UInt8), (7 : UInt8), (7 : UInt8), (7 : UInt8), (7 : UInt8), (7 : UInt8), (7 : UInt8), (7 : UInt8), (7 : UInt8), (7 : UInt8), (7 : UInt8), (7 : UInt8), (7 : UInt8), (7 : UInt8), (7 : UInt8), (7 : UInt8), (7 : UInt8), (7 : UInt8), (7 : UInt8),
                                       (7 : UInt8), (7 : UInt8), (7 : UInt8), (8 : UInt8), (8 : UInt8), (8 : UInt8), (8 : UInt8), (8 : UInt8), (8 : UInt8), (8 : UInt8), (8 : UInt8), (8 : UInt8), (8 : UInt8), (8 : UInt8), (8 : UInt8), (8 : UInt8), (8 : UInt8), (8 : UInt8), (8 : UInt8), (8 : UInt8), (8 : UInt8), (8 : UInt8), (8 : UInt8), (8 : UInt8), (8 : UInt8),
                                       (8 : UInt8), (8 : UInt8), (8 : UInt8), (8 : UInt8), (8 : UInt8), (8 : UInt8), (8 : UInt8), (8 : UInt8), (8 : UInt8), (8 : UInt8), (8 : UInt8), (8 : UInt8), (8 : UInt8), (8 : UInt8), (8 : UInt8), (8 : UInt8), (8 : UInt8), (8 : UInt8), (8 : UInt8), (8 : UInt8), (8 : UInt8), (8 : UInt8), (8 : UInt8), (8 : UInt8), (8 : UInt8),
                                       (8 : UInt8), (8 : UInt8), (8 : UInt8), (8 : UInt8), (8 : UInt8), (8 : UInt8), (8 : UInt8), (8 : UInt8), (8 : UInt8), (8 : UInt8), (8 : UInt8), (8 : UInt8), (8 : UInt8), (8 : UInt8), (8 : UInt8), (8 : UInt8), (8 : UInt8), (8 : UInt8), (8 : UInt8), (8 : UInt8), (8 : UInt8), (8 : UInt8), (8 : UInt8), (8 : UInt8), (8 : UInt8),
                                       (8 : UInt8), (8 : UInt8), (8 : UInt8), (8 : UInt8), (8 : UInt8), (8 : UInt8), (8 : UInt8), (8 : UInt8), (8 : UInt8), (8 : UInt8), (8 : UInt8), (8 : UInt8), (8 : UInt8), (8 : UInt8), (8 : UInt8), (8 : UInt8), (8 : UInt8), (8 : UInt8), (8 : UInt8), (8 : UInt8), (8 : UInt8), (8 : UInt8), (8 : UInt8), (8 : UInt8), (8 : UInt8),
                                       (8 : UInt8), (8 : UInt8), (8 : UInt8), (8 : UInt8), (8 : UInt8), (8 : UInt8), (8 : UInt8), (8 : UInt8), (8 : UInt8), (8 : UInt8), (8 : UInt8), (8 : UInt8), (8 : UInt8), (8 : UInt8), (8 : UInt8), (8 : UInt8), (8 : UInt8), (8 : UInt8), (8 : UInt8), (8 : UInt8), (8 : UInt8), (8 : UInt8), (8 : UInt8), (8 : UInt8), (8 : UInt8),
                                       (8 : UInt8), (8 : UInt8), (8 : UInt8), (8 : UInt8), (8 : UInt8), (8 : UInt8)] } }).length :
                               Int)) ∧
                            True ∧
                             True ∧
                              True ∧
                               (false = false ∧ True) ∧
                                D.val
                                  (Value.int IntKind.i64
                                   (IntKind.i64.wrap
                                    (IntKind.i64.wrap (IntKind.i64.wrap ((0 : Int) + (16 : Int)) + (8 : Int)) +
                                     IntKind.i64.wrap
                                      ((ints
                                         {
                                          data :=
                                           {
                                            toList :=
                                             [(0 : UInt8), (1 : UInt8), (2 : UInt8), (2 : UInt8), (3 : UInt8), (3 : UInt8), (3 : UInt8), (3 : UInt8), (4 : UInt8), (4 : UInt8), (4 : UInt8), (4 : UInt8), (4 : UInt8), (4 : UInt8), (4 : UInt8), (4 : UInt8), (5 : UInt8), (5 : UInt8), (5 : UInt8), (5 : UInt8), (5 : UInt8), (5 : UInt8), (5 : UInt8), (5 : UInt8),
                                              (5 : UInt8), (5 : UInt8), (5 : UInt8), (5 : UInt8), (5 : UInt8), (5 : UInt8), (5 : UInt8), (5 : UInt8), (6 : UInt8), (6 : UInt8), (6 : UInt8), (6 : UInt8), (6 : UInt8), (6 : UInt8), (6 : UInt8), (6 : UInt8), (6 : UInt8), (6 : UInt8), (6 : UInt8), (6 : UInt8), (6 : UInt8), (6 : UInt8), (6 : UInt8),
                                              (6 : UInt8), (6 : UInt8), (6 : UInt8), (6 : UInt8), (6 : UInt8), (6 : UInt8), (6 : UInt8), (6 : UInt8), (6 : UInt8), (6 : UInt8), (6 : UInt8), (6 : UInt8), (6 : UInt8), (6 : UInt8), (6 : UInt8), (6 : UInt8), (6 : UInt8), (7 : UInt8), (7 : UInt8), (7 : UInt8), (7 : UInt8), (7 : UInt8), (7 : UInt8),
                                              (7 : UInt8), (7 : UInt8), (7 : UInt8), (7 : UInt8), (7 : UInt8), (7 : UInt8), (7 : UInt8), (7 : UInt8), (7 : UInt8), (7 : UInt8), (7 : UInt8), (7 : UInt8), (7 : UInt8), (7 : UInt8), (7 : UInt8), (7 : UInt8), (7 : UInt8), (7 : UInt8), (7 : UInt8), (7 : UInt8), (7 : UInt8), (7 : UInt8), (7 : UInt8),
                                              (7 : UInt8), (7 : UInt8), (7 : UInt8), (7 : UInt8), (7 : UInt8), (7 : UInt8), (7 : UInt8), (7 : UInt8), (7 : UInt8), (7 : UInt8), (7 : UInt8), (7 : UInt8), (7 : UInt8), (7 : UInt8), (7 : UInt8), (7 : UInt8), (7 : UInt8), (7 : UInt8), (7 : UInt8), (7 : UInt8), (7 : UInt8), (7 : UInt8), (7 : UInt8),
                                              (7 : UInt8), (7 : UInt8), (7 : UInt8), (7 : UInt8), (7 : UInt8), (7 : UInt8), (7 : UInt8), (7 : UInt8), (7 : UInt8), (7 : UInt8), (7 : UInt8), (7 : UInt8), (8 : UInt8), (8 : UInt8), (8 : UInt8), (8 : UInt8), (8 : UInt8), (8 : UInt8), (8 : UInt8), (8 : UInt8), (8 : UInt8), (8 : UInt8), (8 : UInt8),
                                              (8 : UInt8), (8 : UInt8), (8 : UInt8), (8 : UInt8), (8 : UInt8), (8 : UInt8), (8 : UInt8), (8 : UInt8), (8 : UInt8), (8 : UInt8), (8 : UInt8), (8 : UInt8), (8 : UInt8), (8 : UInt8), (8 : UInt8), (8 : UInt8), (8 : UInt8), (8 : UInt8), (8 : UInt8), (8 : UInt8), (8 : UInt8), (8 : UInt8), (8 : UInt8),
                                              (8 : UInt8), (8 : UInt8), (8 : UInt8), (8 : UInt8), (8 : UInt8), (8 : UInt8), (8 : UInt8), (8 : UInt8), (8 : UInt8), (8 : UInt8), (8 : UInt8), (8 : UInt8), (8 : UInt8), (8 : UInt8), (8 : UInt8), (8 : UInt8), (8 : UInt8), (8 : UInt8), (8 : UInt8), (8 : UInt8), (8 : UInt8), (8 : UInt8), (8 : UInt8),
                                              (8 : UInt8), (8 : UInt8), (8 : UInt8), (8 : UInt8), (8 : UInt8), (8 : UInt8), (8 : UInt8), (8 : UInt8), (8 : UInt8), (8 : UInt8), (8 : UInt8), (8 : UInt8), (8 : UInt8), (8 : UInt8), (8 : UInt8), (8 : UInt8), (8 : UInt8), (8 : UInt8), (8 : UInt8), (8 : UInt8), (8 : UInt8), (8 : UInt8), (8 : UInt8),
                                              (8 : UInt8), (8 : UInt8), (8 : UInt8), (8 : UInt8), (8 : UInt8), (8 : UInt8), (8 : UInt8), (8 : UInt8), (8 : UInt8), (8 : UInt8), (8 : UInt8), (8 : UInt8), (8 : UInt8), (8 : UInt8), (8 : UInt8), (8 : UInt8), (8 : UInt8), (8 : UInt8), (8 : UInt8), (8 : UInt8), (8 : UInt8), (8 : UInt8), (8 : UInt8),
                                              (8 : UInt8), (8 : UInt8), (8 : UInt8), (8 : UInt8), (8 : UInt8), (8 : UInt8), (8 : UInt8), (8 : UInt8), (8 : UInt8), (8 : UInt8), (8 : UInt8), (8 : UInt8), (8 : UInt8), (8 : UInt8), (8 : UInt8), (8 : UInt8), (8 : UInt8), (8 : UInt8), (8 : UInt8), (8 : UInt8), (8 : UInt8), (8 : UInt8), (8 : UInt8),
                                              (8 : UInt8), (8 : UInt8)] } }).getD
                                       (IntKind.u8.wrap (ishr IntKind.u64 (ishr IntKind.u64 (↑x : Int) (16 : Int)) (8 : Int))).toNat (0 : Int))))) =
                                 F
                 | false =>
                  True ∧
                   True ∧
                    True ∧
                     ((0 : Int) ≤ IntKind.u8.wrap (ishr IntKind.u64 (↑x : Int) (16 : Int)) ∧
                       IntKind.u8.wrap (ishr IntKind.u64 (↑x : Int) (16 : Int)) <
                        (↑(ints
                            {
                             data :=
                              {
                               toList :=
                                [(0 : UInt8), (1 : UInt8), (2 : UInt8), (2 : UInt8), (3 : UInt8), (3 : UInt8), (3 : UInt8), (3 : UInt8), (4 : UInt8), (4 : UInt8), (4 : UInt8), (4 : UInt8), (4 : UInt8), (4 : UInt8), (4 : UInt8), (4 : UInt8), (5 : UInt8), (5 : UInt8), (5 : UInt8), (5 : UInt8), (5 : UInt8), (5 : UInt8), (5 : UInt8), (5 : UInt8), (5 : UInt8), (5 : UInt8),
                                 (5 : UInt8), (5 : UInt8), (5 : UInt8), (5 : UInt8), (5 : UInt8), (5 : UInt8), (6 : UInt8), (6 : UInt8), (6 : UInt8), (6 : UInt8), (6 : UInt8), (6 : UInt8), (6 : UInt8), (6 : UInt8), (6 : UInt8), (6 : UInt8), (6 : UInt8), (6 : UInt8), (6 : UInt8), (6 : UInt8), (6 : UInt8), (6 : UInt8), (6 : UInt8), (6 : UInt8), (6 : UInt8),
                                 (6 : UInt8), (6 : UInt8), (6 : UInt8), (6 : UInt8), (6 : UInt8), (6 : UInt8), (6 : UInt8), (6 : UInt8), (6 : UInt8), (6 : UInt8), (6 : UInt8), (6 : UInt8), (6 : UInt8), (7 : UInt8), (7 : UInt8), (7 : UInt8), (7 : UInt8), (7 : UInt8), (7 : UInt8), (7 : UInt8), (7 : UInt8), (7 : UInt8), (7 : UInt8), (7 : UInt8), (7 : UInt8),
                                 (7 : UInt8), (7 : UInt8), (7 : UInt8), (7 : UInt8), (7 : UInt8), (7 : UInt8), (7 : UInt8), (7 : UInt8), (7 : UInt8), (7 : UInt8), (7 : UInt8), (7 : UInt8), (7 : UInt8), (7 : UInt8), (7 : UInt8), (7 : UInt8), (7 : UInt8), (7 : UInt8), (7 : UInt8), (7 : UInt8), (7 : UInt8), (7 : UInt8), (7 : UInt8), (7 : UInt8), (7 : UInt8),
                                 (7 : UInt8), (7 : UInt8), (7 : UInt8), (7 : UInt8), (7 : UInt8), (7 : UInt8), (7 : UInt8), (7 : UInt8), (7 : UInt8), (7 : UInt8), (7 : UInt8), (7 : UInt8), (7 : UInt8), (7 : UInt8), (7 : UInt8), (7 : UInt8), (7 : UInt8), (7 : UInt8), (7 : UInt8), (7 : UInt8), (7 : UInt8), (7 : UInt8), (7 : UInt8), (7 : UInt8), (7 : UInt8),
                                 (7 : UInt8), (7 : UInt8), (8 : UInt8), (8 : UInt8), (8 : UInt8), (8 : UInt8), (8 : UInt8), (8 : UInt8), (8 : UInt8), (8 : UInt8), (8 : UInt8), (8 : UInt8), (8 : UInt8), (8 : UInt8), (8 : UInt8), (8 : UInt8), (8 : UInt8), (8 : UInt8), (8 : UInt8), (8 : UInt8), (8 : UInt8), (8 : UInt8), (8 : UInt8), (8 : UInt8), (8 : UInt8),
                                 (8 : UInt8), (8 : UInt8), (8 : UInt8), (8 : UInt8), (8 : UInt8), (8 : UInt8), (8 : UInt8), (8 : UInt8), (8 : UInt8), (8 : UInt8), (8 : UInt8), (8 : UInt8), (8 : UInt8), (8 : UInt8), (8 : UInt8), (8 : UInt8), (8 : UInt8), (8 : UInt8), (8 : UInt8), (8 : UInt8), (8 : UInt8), (8 : UInt8), (8 : UInt8), (8 : UInt8), (8 : UInt8),
                                 (8 : UInt8), (8 : UInt8), (8 : UInt8), (8 : UInt8), (8 : UInt8), (8 : UInt8), (8 : UInt8), (8 : UInt8), (8 : UInt8), (8 : UInt8), (8 : UInt8), (8 : UInt8), (8 : UInt8), (8 : UInt8), (8 : UInt8), (8 : UInt8), (8 : UInt8), (8 : UInt8), (8 : UInt8), (8 : UInt8), (8 : UInt8), (8 : UInt8), (8 : UInt8), (8 : UInt8), (8 : UInt8),
                                 (8 : UInt8), (8 : UInt8), (8 : UInt8), (8 : UInt8), (8 : UInt8), (8 : UInt8), (8 : UInt8), (8 : UInt8), (8 : UInt8), (8 : UInt8), (8 : UInt8), (8 : UInt8), (8 : UInt8), (8 : UInt8), (8 : UInt8), (8 : UInt8), (8 : UInt8), (8 : UInt8), (8 : UInt8), (8 : UInt8), (8 : UInt8), (8 : UInt8), (8 : UInt8), (8 : UInt8), (8 : UInt8),
                                 (8 : UInt8), (8 : UInt8), (8 : UInt8), (8 : UInt8), (8 : UInt8), (8 : UInt8), (8 : UInt8), (8 : UInt8), (8 : UInt8), (8 : UInt8), (8 : UInt8), (8 : UInt8), (8 : UInt8), (8 : UInt8), (8 : UInt8), (8 : UInt8), (8 : UInt8), (8 : UInt8), (8 : UInt8), (8 : UInt8), (8 : UInt8), (8 : UInt8), (8 : UInt8), (8 : UInt8), (8 : UInt8),
                                 (8 : UInt8), (8 : UInt8), (8 : UInt8), (8 : UInt8), (8 : UInt8)] } }).length :
                         Int)) ∧
                      True ∧
                       True ∧
                        True ∧
                         (false = false ∧ True) ∧
                          D.val
                            (Value.int IntKind.i64
                             (IntKind.i64.wrap
                              (IntKind.i64.wrap ((0 : Int) + (16 : Int)) +
                               IntKind.i64.wrap
                                ((ints
                                   {
                                    data :=
                                     {
                                      toList :=
                                       [(0 : UInt8), (1 : UInt8), (2 : UInt8), (2 : UInt8), (3 : UInt8), (3 : UInt8), (3 : UInt8), (3 : UInt8), (4 : UInt8), (4 : UInt8), (4 : UInt8), (4 : UInt8), (4 : UInt8), (4 : UInt8), (4 : UInt8), (4 : UInt8), (5 : UInt8), (5 : UInt8), (5 : UInt8), (5 : UInt8), (5 : UInt8), (5 : UInt8), (5 : UInt8), (5 : UInt8),
                                        (5 : UInt8), (5 : UInt8), (5 : UInt8), (5 : UInt8), (5 : UInt8), (5 : UInt8), (5 : UInt8), (5 : UInt8), (6 : UInt8), (6 : UInt8), (6 : UInt8), (6 : UInt8), (6 : UInt8), (6 : UInt8), (6 : UInt8), (6 : UInt8), (6 : UInt8), (6 : UInt8), (6 : UInt8), (6 : UInt8), (6 : UInt8), (6 : UInt8), (6 : UInt8), (6 : UInt8),
                                        (6 : UInt8), (6 : UInt8), (6 : UInt8), (6 : UInt8), (6 : UInt8), (6 : UInt8), (6 : UInt8), (6 : UInt8), (6 : UInt8), (6 : UInt8), (6 : UInt8), (6 : UInt8), (6 : UInt8), (6 : UInt8), (6 : UInt8), (6 : UInt8), (7 : UInt8), (7 : UInt8), (7 : UInt8), (7 : UInt8), (7 : UInt8), (7 : UInt8), (7 : UInt8), (7 : UInt8),
                                        (7 : UInt8), (7 : UInt8), (7 : UInt8), (7 : UInt8), (7 : UInt8), (7 : UInt8), (7 : UInt8), (7 : UInt8), (7 : UInt8), (7 : UInt8), (7 : UInt8), (7 : UInt8), (7 : UInt8), (7 : UInt8), (7 : UInt8), (7 : UInt8), (7 : UInt8), (7 : UInt8), (7 : UInt8), (7 : UInt8), (7 : UInt8), (7 : UInt8), (7 : UInt8), (7 : UInt8),
                                        (7 : UInt8), (7 : UInt8), (7 : UInt8), (7 : UInt8), (7 : UInt8), (7 : UInt8), (7 : UInt8), (7 : UInt8), (7 : UInt8), (7 : UInt8), (7 : UInt8), (7 : UInt8), (7 : UInt8), (7 : UInt8), (7 : UInt8), (7 : UInt8), (7 : UInt8), (7 : UInt8), (7 : UInt8), (7 : UInt8), (7 : UInt8), (7 : UInt8), (7 : UInt8), (7 : UInt8),
                                        (7 : UInt8), (7 : UInt8), (7 : UInt8), (7 : UInt8), (7 : UInt8), (7 : UInt8), (7 : UInt8), (7 : UInt8), (8 : UInt8), (8 : UInt8), (8 : UInt8), (8 : UInt8), (8 : UInt8), (8 : UInt8), (8 : UInt8), (8 : UInt8), (8 : UInt8), (8 : UInt8), (8 : UInt8), (8 : UInt8), (8 : UInt8), (8 : UInt8), (8 : UInt8), (8 : UInt8),
                                        (8 : UInt8), (8 : UInt8), (8 : UInt8), (8 : UInt8), (8 : UInt8), (8 : UInt8), (8 : UInt8), (8 : UInt8), (8 : UInt8), (8 : UInt8), (8 : UInt8), (8 : UInt8), (8 : UInt8), (8 : UInt8), (8 : UInt8), (8 : UInt8), (8 : UInt8), (8 : UInt8), (8 : UInt8), (8 : UInt8), (8 : UInt8), (8 : UInt8), (8 : UInt8), (8 : UInt8),
                                        (8 : UInt8), (8 : UInt8), (8 : UInt8), (8 : UInt8), (8 : UInt8), (8 : UInt8), (8 : UInt8), (8 : UInt8), (8 : UInt8), (8 : UInt8), (8 : UInt8), (8 : UInt8), (8 : UInt8), (8 : UInt8), (8 : UInt8), (8 : UInt8), (8 : UInt8), (8 : UInt8), (8 : UInt8), (8 : UInt8), (8 : UInt8), (8 : UInt8), (8 : UInt8), (8 : UInt8),
                                        (8 : UInt8), (8 : UInt8), (8 : UInt8), (8 : UInt8), (8 : UInt8), (8 : UInt8), (8 : UInt8), (8 : UInt8), (8 : UInt8), (8 : UInt8), (8 : UInt8), (8 : UInt8), (8 : UInt8), (8 : UInt8), (8 : UInt8), (8 : UInt8), (8 : UInt8), (8 : UInt8), (8 : UInt8), (8 : UInt8), (8 : UInt8), (8 : UInt8), (8 : UInt8), (8 : UInt8),
                                        (8 : UInt8), (8 : UInt8), (8 : UInt8), (8 : UInt8), (8 : UInt8), (8 : UInt8), (8 : UInt8), (8 : UInt8), (8 : UInt8), (8 : UInt8), (8 : UInt8), (8 : UInt8), (8 : UInt8), (8 : UInt8), (8 : UInt8), (8 : UInt8), (8 : UInt8), (8 : UInt8), (8 : UInt8), (8 : UInt8), (8 : UInt8), (8 : UInt8), (8 : UInt8), (8 : UInt8),
                                        (8 : UInt8), (8 : UInt8), (8 : UInt8), (8 : UInt8), (8 : UInt8), (8 : UInt8), (8 : UInt8), (8 : UInt8), (8 : UInt8), (8 : UInt8), (8 : UInt8), (8 : UInt8), (8 : UInt8), (8 : UInt8), (8 : UInt8), (8 : UInt8)] } }).getD
                                 (IntKind.u8.wrap (ishr IntKind.u64 (↑x : Int) (16 : Int))).toNat (0 : Int))))) =
                           F
        | false =>
         True ∧
          True ∧
           match decide ((↑x : Int) ≥ (256 : Int)) with
           | true =>
            True ∧
             (0 : Int) ≤ (8 : Int) ∧
              True ∧
               True ∧
                True ∧
                 True ∧
                  True ∧
                   True ∧
                    True ∧
                     ((0 : Int) ≤ IntKind.u8.wrap (ishr IntKind.u64 (↑x : Int) (8 : Int)) ∧
                       IntKind.u8.wrap (ishr IntKind.u64 (↑x : Int) (8 : Int)) <
                        (↑(ints
                            {
                             data :=
                              {
                               toList :=
                                [(0 : UInt8), (1 : UInt8), (2 : UInt8), (2 : UInt8), (3 : UInt8), (3 : UInt8), (3 : UInt8), (3 : UInt8), (4 : UInt8), (4 : UInt8), (4 : UInt8), (4 : UInt8), (4 : UInt8), (4 : UInt8), (4 : UInt8), (4 : UInt8), (5 : UInt8), (5 : UInt8), (5 : UInt8), (5 : UInt8), (5 : UInt8), (5 : UInt8), (5 : UInt8), (5 : UInt8), (5 : UInt8), (5 : UInt8),
                                 (5 : UInt8), (5 : UInt8), (5 : UInt8), (5 : UInt8), (5 : UInt8), (5 : UInt8), (6 : UInt8), (6 : UInt8), (6 : UInt8), (6 : UInt8), (6 : UInt8), (6 : UInt8), (6 : UInt8), (6 : UInt8), (6 : UInt8), (6 : UInt8), (6 : UInt8), (6 : UInt8), (6 : UInt8), (6 : UInt8), (6 : UInt8), (6 : UInt8), (6 : UInt8), (6 : UInt8), (6 : UInt8),
                                 (6 : UInt8), (6 : UInt8), (6 : UInt8), (6 : UInt8), (6 : UInt8), (6 : UInt8), (6 : UInt8), (6 : UInt8), (6 : UInt8), (6 : UInt8), (6 : UInt8), (6 : UInt8), (6 : UInt8), (7 : UInt8), (7 : UInt8), (7 : UInt8), (7 : UInt8), (7 : UInt8), (7 : UInt8), (7 : UInt8), (7 : UInt8), (7 : UInt8), (7 : UInt8), (7 : UInt8), (7 : UInt8),
                                 (7 : UInt8), (7 : UInt8), (7 : UInt8), (7 : UInt8), (7 : UInt8), (7 : UInt8), (7 : UInt8), (7 : UInt8), (7 : UInt8), (7 : UInt8), (7 : UInt8), (7 : UInt8), (7 : UInt8), (7 : UInt8), (7 : UInt8), (7 : UInt8), (7 : UInt8), (7 : UInt8), (7 : UInt8), (7 : UInt8), (7 : UInt8), (7 : UInt8), (7 : UInt8), (7 : UInt8), (7 : UInt8),
                                 (7 : UInt8), (7 : UInt8), (7 : UInt8), (7 : UInt8), (7 : UInt8), (7 : UInt8), (7 : UInt8), (7 : UInt8), (7 : UInt8), (7 : UInt8), (7 : UInt8), (7 : UInt8), (7 : UInt8), (7 : UInt8), (7 : UInt8), (7 : UInt8), (7 : UInt8), (7 : UInt8), (7 : UInt8), (7 : UInt8), (7 : UInt8), (7 : UInt8), (7 : UInt8), (7 : UInt8), (7 : UInt8),
                                 (7 : UInt8), (7 : UInt8), (8 : UInt8), (8 : UInt8), (8 : UInt8), (8 : UInt8), (8 : UInt8), (8 : UInt8), (8 : UInt8), (8 : UInt8), (8 : UInt8), (8 : UInt8), (8 : UInt8), (8 : UInt8), (8 : UInt8), (8 : UInt8), (8 : UInt8), (8 : UInt8), (8 : UInt8), (8 : UInt8), (8 : UInt8), (8 : UInt8), (8 : UInt8), (8 : UInt8), (8 : UInt8),
                                 (8 : UInt8), (8 : UInt8), (8 : UInt8), (8 : UInt8), (8 : UInt8), (8 : UInt8), (8 : UInt8), (8 : UInt8), (8 : UInt8), (8 : UInt8), (8 : UInt8), (8 : UInt8), (8 : UInt8), (8 : UInt8), (8 : UInt8), (8 : UInt8), (8 : UInt8), (8 : UInt8), (8 : UInt8), (8 : UInt8), (8 : UInt8), (8 : UInt8), (8 : UInt8), (8 : UInt8), (8 : UInt8),
                                 (8 : UInt8), (8 : UInt8), (8 : UInt8), (8 : UInt8), (8 : UInt8), (8 : UInt8), (8 : UInt8), (8 : UInt8), (8 : UInt8), (8 : UInt8), (8 : UInt8), (8 : UInt8), (8 : UInt8), (8 : UInt8), (8 : UInt8), (8 : UInt8), (8 : UInt8), (8 : UInt8), (8 : UInt8), (8 : UInt8), (8 : UInt8), (8 : UInt8), (8 : UInt8), (8 : UInt8), (8 : UInt8),
                                 (8 : UInt8), (8 : UInt8), (8 : UInt8), (8 : UInt8), (8 : UInt8), (8 : UInt8), (8 : UInt8), (8 : UInt8), (8 : UInt8), (8 : UInt8), (8 : UInt8), (8 : UInt8), (8 : UInt8), (8 : UInt8), (8 : UInt8), (8 : UInt8), (8 : UInt8), (8 : UInt8), (8 : UInt8), (8 : UInt8), (8 : UInt8), (8 : UInt8), (8 : UInt8), (8 : UInt8), (8 : UInt8),
                                 (8 : UInt8), (8 : UInt8), (8 : UInt8), (8 : UInt8), (8 : UInt8), (8 : UInt8), (8 : UInt8), (8 : UInt8), (8 : UInt8), (8 : UInt8), (8 : UInt8), (8 : UInt8), (8 : UInt8), (8 : UInt8), (8 : UInt8), (8 : UInt8), (8 : UInt8), (8 : UInt8), (8 : UInt8), (8 : UInt8), (8 : UInt8), (8 : UInt8), (8 : UInt8), (8 : UInt8), (8 : UInt8),
                                 (8 : UInt8), (8 : UInt8), (8 : UInt8), (8 : UInt8), (8 : UInt8)] } }).length :
                         Int)) ∧
                      True ∧
                       True ∧
                        True ∧
                         (false = false ∧ True) ∧
                          D.val
                            (Value.int IntKind.i64
                             (IntKind.i64.wrap
                              (IntKind.i64.wrap ((0 : Int) + (8 : Int)) +
                               IntKind.i64.wrap
                                ((ints
                                   {
                                    data :=
                                     {
                                      toList :=
                                       [(0 : UInt8), (1 : UInt8), (2 : UInt8), (2 : UInt8), (3 : UInt8), (3 : UInt8), (3 : UInt8), (3 : UInt8), (4 : UInt8), (4 : UInt8), (4 : UInt8), (4 : UInt8), (4 : UInt8), (4 : UInt8), (4 : UInt8), (4 : UInt8), (5 : UInt8), (5 : UInt8), (5 : UInt8), (5 : UInt8), (5 : UInt8), (5 : UInt8), (5 : UInt8), (5 : UInt8),
                                        (5 : UInt8), (5 : UInt8), (5 : UInt8), (5 : UInt8), (5 : UInt8), (5 : UInt8), (5 : UInt8), (5 : UInt8), (6 : UInt8), (6 : UInt8), (6 : UInt8), (6 : UInt8), (6 : UInt8), (6 : UInt8), (6 : UInt8), (6 : UInt8), (6 : UInt8), (6 : UInt8), (6 : UInt8), (6 : UInt8), (6 : UInt8), (6 : UInt8), (6 : UInt8), (6 : UInt8),
                                        (6 : UInt8), (6 : UInt8), (6 : UInt8), (6 : UInt8), (6 : UInt8), (6 : UInt8), (6 : UInt8), (6 : UInt8), (6 : UInt8), (6 : UInt8), (6 : UInt8), (6 : UInt8), (6 : UInt8), (6 : UInt8), (6 : UInt8), (6 : UInt8), (7 : UInt8), (7 : UInt8), (7 : UInt8), (7 : UInt8), (7 : UInt8), (7 : UInt8), (7 : UInt8), (7 : UInt8),
                                        (7 : UInt8), (7 : UInt8), (7 : UInt8), (7 : UInt8), (7 : UInt8), (7 : UInt8), (7 : UInt8), (7 : UInt8), (7 : UInt8), (7 : UInt8), (7 : UInt8), (7 : UInt8), (7 : UInt8), (7 : UInt8), (7 : UInt8), (7 : UInt8), (7 : UInt8), (7 : UInt8), (7 : UInt8), (7 : UInt8), (7 : UInt8), (7 : UInt8), (7 : UInt8), (7 : UInt8),
                                        (7 : UInt8), (7 : UInt8), (7 : UInt8), (7 : UInt8), (7 : UInt8), (7 : UInt8), (7 : UInt8), (7 : UInt8), (7 : UInt8), (7 : UInt8), (7 : UInt8), (7 : UInt8), (7 : UInt8), (7 : UInt8), (7 : UInt8), (7 : UInt8), (7 : UInt8), (7 : UInt8), (7 : UInt8), (7 : UInt8), (7 : UInt8), (7 : UInt8), (7 : UInt8), (7 : UInt8),
                                        (7 : UInt8), (7 : UInt8), (7 : UInt8), (7 : UInt8), (7 : UInt8), (7 : UInt8), (7 : UInt8), (7 : UInt8), (8 : UInt8), (8 : UInt8), (8 : UInt8), (8 : UInt8), (8 : UInt8), (8 : UInt8), (8 : UInt8), (8 : UInt8), (8 : UInt8), (8 : UInt8), (8 : UInt8), (8 : UInt8), (8 : UInt8), (8 : UInt8), (8 : UInt8), (8 : UInt8),
                                        (8 : UInt8), (8 : UInt8), (8 : UInt8), (8 : UInt8), (8 : UInt8), (8 : UInt8), (8 : UInt8), (8 : UInt8), (8 : UInt8), (8 : UInt8), (8 : UInt8), (8 : UInt8), (8 : UInt8), (8 : UInt8), (8 : UInt8), (8 : UInt8), (8 : UInt8), (8 : UInt8), (8 : UInt8), (8 : UInt8), (8 : UInt8), (8 : UInt8), (8 : UInt8), (8 : UInt8),
                                        (8 : UInt8), (8 : UInt8), (8 : UInt8), (8 : UInt8), (8 : UInt8), (8 : UInt8), (8 : UInt8), (8 : UInt8), (8 : UInt8), (8 : UInt8), (8 : UInt8), (8 : UInt8), (8 : UInt8), (8 : UInt8), (8 : UInt8), (8 : UInt8), (8 : UInt8), (8 : UInt8), (8 : UInt8), (8 : UInt8), (8 : UInt8), (8 : UInt8), (8 : UInt8), (8 : UInt8),
                                        (8 : UInt8), (8 : UInt8), (8 : UInt8), (8 : UInt8), (8 : UInt8), (8 : UInt8), (8 : UInt8), (8 : UInt8), (8 : UInt8), (8 : UInt8), (8 : UInt8), (8 : UInt8), (8 : UInt8), (8 : UInt8), (8 : UInt8), (8 : UInt8), (8 : UInt8), (8 : UInt8), (8 : UInt8), (8 : UInt8), (8 : UInt8), (8 : UInt8), (8 : UInt8), (8 : UInt8),
                                        (8 : UInt8), (8 : UInt8), (8 : UInt8), (8 : UInt8), (8 : UInt8), (8 : UInt8), (8 : UInt8), (8 : UInt8), (8 : UInt8), (8 : UInt8), (8 : UInt8), (8 : UInt8), (8 : UInt8), (8 : UInt8), (8 : UInt8), (8 : UInt8), (8 : UInt8), (8 : UInt8), (8 : UInt8), (8 : UInt8), (8 : UInt8), (8 : UInt8), (8 : UInt8), (8 : UInt8),
                                        (8 : UInt8), (8 : UInt8), (8 : UInt8), (8 : UInt8), (8 : UInt8), (8 : UInt8), (8 : UInt8), (8 : UInt8), (8 : UInt8), (8 : UInt8), (8 : UInt8), (8 : UInt8), (8 : UInt8), (8 : UInt8), (8 : UInt8), (8 : UInt8)] } }).getD
                                 (IntKind.u8.wrap (ishr IntKind.u64 (↑x : Int) (8 : Int))).toNat (0 : Int))))) =
                           F
           | false =>
            True ∧
             True ∧
              True ∧
               ((0 : Int) ≤ IntKind.u8.wrap (↑x : Int) ∧
                 IntKind.u8.wrap (↑x : Int) <
                  (↑(ints
                      {
                       data :=
                        {
                         toList :=
                          [(0 : UInt8), (1 : UInt8), (2 : UInt8), (2 : UInt8), (3 : UInt8), (3 : UInt8), (3 : UInt8), (3 : UInt8), (4 : UInt8), (4 : UInt8), (4 : UInt8), (4 : UInt8), (4 : UInt8), (4 : UInt8), (4 : UInt8), (4 : UInt8), (5 : UInt8), (5 : UInt8), (5 : UInt8), (5 : UInt8), (5 : UInt8), (5 : UInt8), (5 : UInt8), (5 : UInt8), (5 : UInt8), (5 : UInt8),
                           (5 : UInt8), (5 : UInt8), (5 : UInt8), (5 : UInt8), (5 : UInt8), (5 : UInt8), (6 : UInt8), (6 : UInt8), (6 : UInt8), (6 : UInt8), (6 : UInt8), (6 : UInt8), (6 : UInt8), (6 : UInt8), (6 : UInt8), (6 : UInt8), (6 : UInt8), (6 : UInt8), (6 : UInt8), (6 : UInt8), (6 : UInt8), (6 : UInt8), (6 : UInt8), (6 : UInt8), (6 : UInt8), (6 : UInt8),
                           (6 : UInt8), (6 : UInt8), (6 : UInt8), (6 : UInt8), (6 : UInt8), (6 : UInt8), (6 : UInt8), (6 : UInt8), (6 : UInt8), (6 : UInt8), (6 : UInt8), (6 : UInt8), (7 : UInt8), (7 : UInt8), (7 : UInt8), (7 : UInt8), (7 : UInt8), (7 : UInt8), (7 : UInt8), (7 : UInt8), (7 : UInt8), (7 : UInt8), (7 : UInt8), (7 : UInt8), (7 : UInt8), (7 : UInt8),
                           (7 : UInt8), (7 : UInt8), (7 : UInt8), (7 : UInt8), (7 : UInt8), (7 : UInt8), (7 : UInt8), (7 : UInt8), (7 : UInt8), (7 : UInt8), (7 : UInt8), (7 : UInt8), (7 : UInt8), (7 : UInt8), (7 : UInt8), (7 : UInt8), (7 : UInt8), (7 : UInt8), (7 : UInt8), (7 : UInt8), (7 : UInt8), (7 : UInt8), (7 : UInt8), (7 : UInt8), (7 : UInt8), (7 : UInt8),
                           (7 : UInt8), (7 : UInt8), (7 : UInt8), (7 : UInt8), (7 : UInt8), (7 : UInt8), (7 : UInt8), (7 : UInt8), (7 : UInt8), (7 : UInt8), (7 : UInt8), (7 : UInt8), (7 : UInt8), (7 : UInt8), (7 : UInt8), (7 : UInt8), (7 : UInt8), (7 : UInt8), (7 : UInt8), (7 : UInt8), (7 : UInt8), (7 : UInt8), (7 : UInt8), (7 : UInt8), (8 : UInt8), (8 : UInt8),
                           (8 : UInt8), (8 : UInt8), (8 : UInt8), (8 : UInt8), (8 : UInt8), (8 : UInt8), (8 : UInt8), (8 : UInt8), (8 : UInt8), (8 : UInt8), (8 : UInt8), (8 : UInt8), (8 : UInt8), (8 : UInt8), (8 : UInt8), (8 : UInt8), (8 : UInt8), (8 : UInt8), (8 : UInt8), (8 : UInt8), (8 : UInt8), (8 : UInt8), (8 : UInt8), (8 : UInt8), (8 : UInt8), (8 : UInt8),
                           (8 : UInt8), (8 : UInt8), (8 : UInt8), (8 : UInt8), (8 : UInt8), (8 : UInt8), (8 : UInt8), (8 : UInt8), (8 : UInt8), (8 : UInt8), (8 : UInt8), (8 : UInt8), (8 : UInt8), (8 : UInt8), (8 : UInt8), (8 : UInt8), (8 : UInt8), (8 : UInt8), (8 : UInt8), (8 : UInt8), (8 : UInt8), (8 : UInt8), (8 : UInt8), (8 : UInt8), (8 : UInt8), (8 : UInt8),
                           (8 : UInt8), (8 : UInt8), (8 : UInt8), (8 : UInt8), (8 : UInt8), (8 : UInt8), (8 : UInt8), (8 : UInt8), (8 : UInt8), (8 : UInt8), (8 : UInt8), (8 : UInt8), (8 : UInt8), (8 : UInt8), (8 : UInt8), (8 : UInt8), (8 : UInt8), (8 : UInt8), (8 : UInt8), (8 : UInt8), (8 : UInt8), (8 : UInt8), (8 : UInt8), (8 : UInt8), (8 : UInt8), (8 : UInt8),
                           (8 : UInt8), (8 : UInt8), (8 : UInt8), (8 : UInt8), (8 : UInt8), (8 : UInt8), (8 : UInt8), (8 : UInt8), (8 : UInt8), (8 : UInt8), (8 : UInt8), (8 : UInt8), (8 : UInt8), (8 : UInt8), (8 : UInt8), (8 : UInt8), (8 : UInt8), (8 : UInt8), (8 : UInt8), (8 : UInt8), (8 : UInt8), (8 : UInt8), (8 : UInt8), (8 : UInt8), (8 : UInt8), (8 : UInt8),
                           (8 : UInt8), (8 : UInt8), (8 : UInt8), (8 : UInt8), (8 : UInt8), (8 : UInt8), (8 : UInt8), (8 : UInt8), (8 : UInt8), (8 : UInt8), (8 : UInt8), (8 : UInt8), (8 : UInt8), (8 : UInt8), (8 : UInt8), (8 : UInt8), (8 : UInt8), (8 : UInt8), (8 : UInt8), (8 : UInt8), (8 : UInt8), (8 : UInt8)] } }).length :
                   Int)) ∧
                True ∧
                 True ∧
                  True ∧
                   (false = false ∧ True) ∧
                    D.val
                      (Value.int IntKind.i64
                       (IntKind.i64.wrap
                        ((0 : Int) +
                         IntKind.i64.wrap
                          ((ints
                             {
                              data :=
                               {
                                toList :=
                                 [(0 : UInt8), (1 : UInt8), (2 : UInt8), (2 : UInt8), (3 : UInt8), (3 : UInt8), (3 : UInt8), (3 : UInt8), (4 : UInt8), (4 : UInt8), (4 : UInt8), (4 : UInt8), (4 : UInt8), (4 : UInt8), (4 : UInt8), (4 : UInt8), (5 : UInt8), (5 : UInt8), (5 : UInt8), (5 : UInt8), (5 : UInt8), (5 : UInt8), (5 : UInt8), (5 : UInt8), (5 : UInt8),
                                  (5 : UInt8), (5 : UInt8), (5 : UInt8), (5 : UInt8), (5 : UInt8), (5 : UInt8), (5 : UInt8), (6 : UInt8), (6 : UInt8), (6 : UInt8), (6 : UInt8), (6 : UInt8), (6 : UInt8), (6 : UInt8), (6 : UInt8), (6 : UInt8), (6 : UInt8), (6 : UInt8), (6 : UInt8), (6 : UInt8), (6 : UInt8), (6 : UInt8), (6 : UInt8), (6 : UInt8), (6 : UInt8),
                                  (6 : UInt8), (6 : UInt8), (6 : UInt8), (6 : UInt8), (6 : UInt8), (6 : UInt8), (6 : UInt8), (6 : UInt8), (6 : UInt8), (6 : UInt8), (6 : UInt8), (6 : UInt8), (6 : UInt8), (6 : UInt8), (7 : UInt8), (7 : UInt8), (7 : UInt8), (7 : UInt8), (7 : UInt8), (7 : UInt8), (7 : UInt8), (7 : UInt8), (7 : UInt8), (7 : UInt8), (7 : UInt8),
                                  (7 : UInt8), (7 : UInt8), (7 : UInt8), (7 : UInt8), (7 : UInt8), (7 : UInt8), (7 : UInt8), (7 : UInt8), (7 : UInt8), (7 : UInt8), (7 : UInt8), (7 : UInt8), (7 : UInt8), (7 : UInt8), (7 : UInt8), (7 : UInt8), (7 : UInt8), (7 : UInt8), (7 : UInt8), (7 : UInt8), (7 : UInt8), (7 : UInt8), (7 : UInt8), (7 : UInt8), (7 : UInt8),
                                  (7 : UInt8), (7 : UInt8), (7 : UInt8), (7 : UInt8), (7 : UInt8), (7 : UInt8), (7 : UInt8), (7 : UInt8), (7 : UInt8), (7 : UInt8), (7 : UInt8), (7 : UInt8), (7 : UInt8), (7 : UInt8), (7 : UInt8), (7 : UInt8), (7 : UInt8), (7 : UInt8), (7 : UInt8), (7 : UInt8), (7 : UInt8), (7 : UInt8), (7 : UInt8), (7 : UInt8), (7 : UInt8),
                                  (7 : UInt8), (7 : UInt8), (7 : UInt8), (8 : UInt8), (8 : UInt8), (8 : UInt8), (8 : UInt8), (8 : UInt8), (8 : UInt8), (8 : UInt8), (8 : UInt8), (8 : UInt8), (8 : UInt8), (8 : UInt8), (8 : UInt8), (8 : UInt8), (8 : UInt8), (8 : UInt8), (8 : UInt8), (8 : UInt8), (8 : UInt8), (8 : UInt8), (8 : UInt8), (8 : UInt8), (8 : UInt8),
                                  (8 : UInt8), (8 : UInt8), (8 : UInt8), (8 : UInt8), (8 : UInt8), (8 : UInt8), (8 : UInt8), (8 : UInt8), (8 : UInt8), (8 : UInt8), (8 : UInt8), (8 : UInt8), (8 : UInt8), (8 : UInt8), (8 : UInt8), (8 : UInt8), (8 : UInt8), (8 : UInt8), (8 : UInt8), (8 : UInt8), (8 : UInt8), (8 : UInt8), (8 : UInt8), (8 : UInt8), (8 : UInt8),
                                  (8 : UInt8), (8 : UInt8), (8 : UInt8), (8 : UInt8), (8 : UInt8), (8 : UInt8), (8 : UInt8), (8 : UInt8), (8 : UInt8), (8 : UInt8), (8 : UInt8), (8 : UInt8), (8 : UInt8), (8 : UInt8), (8 : UInt8), (8 : UInt8), (8 : UInt8), (8 : UInt8), (8 : UInt8), (8 : UInt8), (8 : UInt8), (8 : UInt8), (8 : UInt8), (8 : UInt8), (8 : UInt8),
                                  (8 : UInt8), (8 : UInt8), (8 : UInt8), (8 : UInt8), (8 : UInt8), (8 : UInt8), (8 : UInt8), (8 : UInt8), (8 : UInt8), (8 : UInt8), (8 : UInt8), (8 : UInt8), (8 : UInt8), (8 : UInt8), (8 : UInt8), (8 : UInt8), (8 : UInt8), (8 : UInt8), (8 : UInt8), (8 : UInt8), (8 : UInt8), (8 : UInt8), (8 : UInt8), (8 : UInt8), (8 : UInt8),
                                  (8 : UInt8), (8 : UInt8), (8 : UInt8), (8 : UInt8), (8 : UInt8), (8 : UInt8), (8 : UInt8), (8 : UInt8), (8 : UInt8), (8 : UInt8), (8 : UInt8), (8 : UInt8), (8 : UInt8), (8 : UInt8), (8 : UInt8), (8 : UInt8), (8 : UInt8), (8 : UInt8), (8 : UInt8), (8 : UInt8), (8 : UInt8), (8 : UInt8), (8 : UInt8), (8 : UInt8), (8 : UInt8),
                                  (8 : UInt8), (8 : UInt8), (8 : UInt8), (8 : UInt8), (8 : UInt8), (8 : UInt8)] } }).getD
                           (IntKind.u8.wrap (↑x : Int)).toNat (0 : Int))))) =
                     F) := by kernel_rfl
end Go.Proofs.Ytkicjckhkefnpaa
/- The numbers of package limb: Bit, Len and Pick; the document's OfBits: the proofs. -/
namespace Go.Proofs.Ytkicjckhkefnpaa
open Go Go.Vg

theorem bl2_log {x n : Nat} (h1 : 2 ^ n ≤ x) (h2 : x < 2 ^ (n + 1)) : bl2 x = n + 1 := by
  have h0 : x ≠ 0 := by have := Nat.two_pow_pos n; omega
  unfold bl2
  rw [if_neg h0, (Nat.log2_eq_iff h0).2 ⟨h1, h2⟩]
theorem bl2_up {lo y k : Nat} (hlo : lo < 2 ^ k) (hy : y ≠ 0) : bl2 (lo + 2 ^ k * y) = k + bl2 y := by
  have h1 := Nat.log2_self_le hy
  have h2 := Nat.lt_log2_self (n := y)
  have e : bl2 y = Nat.log2 y + 1 := if_neg hy
  rw [e, ← Nat.add_assoc]
  apply bl2_log
  · rw [Nat.pow_add]
    have := Nat.mul_le_mul_left (2 ^ k) h1
    omega
  · rw [Nat.add_assoc, Nat.pow_add]
    have := Nat.mul_le_mul_left (2 ^ k) (show y + 1 ≤ 2 ^ (Nat.log2 y + 1) from h2)
    rw [Nat.mul_add, Nat.mul_one] at this
    omega
theorem bl2_div {x k : Nat} (h : 2 ^ k ≤ x) : bl2 x = k + bl2 (x / 2 ^ k) := by
  have hp : 0 < 2 ^ k := Nat.two_pow_pos k
  have h1 : x / 2 ^ k ≠ 0 := by
    have := Nat.div_pos h hp
    omega
  have h2 := bl2_up (Nat.mod_lt x hp) h1
  rw [Nat.mod_add_div] at h2
  exact h2
def lenTab : List Int := (List.range 256).map fun n => (bl2 n : Int)
theorem tab_eq : ints { data := { toList := [(0 : UInt8), (1 : UInt8), (2 : UInt8), (2 : UInt8), (3 : UInt8), (3 : UInt8), (3 : UInt8), (3 : UInt8), (4 : UInt8), (4 : UInt8), (4 : UInt8), (4 : UInt8), (4 : UInt8), (4 : UInt8), (4 : UInt8), (4 : UInt8), (5 : UInt8), (5 : UInt8), (5 : UInt8), (5 : UInt8), (5 : UInt8), (5 : UInt8), (5 : UInt8), (5 : UInt8), (5 : UInt8), (5 : UInt8), (5 : UInt8), (5 : UInt8), (5 : UInt8), (5 : UInt8), (5 : UInt8), (5 : UInt8), (6 : UInt8), (6 : UInt8), (6 : UInt8), (6 : UInt8), (6 : UInt8), (6 : UInt8), (6 : UInt8), (6 : UInt8), (6 : UInt8), (6 : UInt8), (6 : UInt8), (6 : UInt8), (6 : UInt8), (6 : UInt8), (6 : UInt8), (6 : UInt8), (6 : UInt8), (6 : UInt8), (6 : UInt8), (6 : UInt8), (6 : UInt8), (6 : UInt8), (6 : UInt8), (6 : UInt8), (6 : UInt8), (6 : UInt8), (6 : UInt8), (6 : UInt8), (6 : UInt8), (6 : UInt8), (6 : UInt8), (6 : UInt8), (7 : UInt8), (7 : UInt8), (7 : UInt8), (7 : UInt8), (7 : UInt8), (7 : UInt8), (7 : UInt8), (7 : UInt8), (7 : UInt8), (7 : UInt8), (7 : UInt8), (7 : UInt8), (7 : UInt8), (7 : UInt8), (7 : UInt8), (7 : UInt8), (7 : UInt8), (7 : UInt8), (7 : UInt8), (7 : UInt8), (7 : UInt8), (7 : UInt8), (7 : UInt8), (7 : UInt8), (7 : UInt8), (7 : UInt8), (7 : UInt8), (7 : UInt8), (7 : UInt8), (7 : UInt8), (7 : UInt8), (7 : UInt8), (7 : UInt8), (7 : UInt8), (7 : UInt8), (7 : UInt8), (7 : UInt8), (7 : UInt8), (7 : UInt8), (7 : UInt8), (7 : UInt8), (7 : UInt8), (7 : UInt8), (7 : UInt8), (7 : UInt8), (7 : UInt8), (7 : UInt8), (7 : UInt8), (7 : UInt8), (7 : UInt8), (7 : UInt8), (7 : UInt8), (7 : UInt8), (7 : UInt8), (7 : UInt8), (7 : UInt8), (7 : UInt8), (7 : UInt8), (7 : UInt8), (7 : UInt8), (7 : UInt8), (7 : UInt8), (7 : UInt8), (7 : UInt8), (8 : UInt8), (8 : UInt8), (8 : UInt8), (8 : UInt8), (8 : UInt8), (8 : UInt8), (8 : UInt8), (8 : UInt8), (8 : UInt8), (8 : UInt8), (8 : UInt8), (8 : UInt8), (8 : UInt8), (8 : UInt8), (8 : UInt8), (8 : UInt8), (8 : UInt8), (8 : UInt8), (8 : UInt8), (8 : UInt8), (8 : UInt8), (8 : UInt8), (8 : UInt8), (8 : UInt8), (8 : UInt8), (8 : UInt8), (8 : UInt8), (8 : UInt8), (8 : UInt8), (8 : UInt8), (8 : UInt8), (8 : UInt8), (8 : UInt8), (8 : UInt8), (8 : UInt8), (8 : UInt8), (8 : UInt8), (8 : UInt8), (8 : UInt8), (8 : UInt8), (8 : UInt8), (8 : UInt8), (8 : UInt8), (8 : UInt8), (8 : UInt8), (8 : UInt8), (8 : UInt8), (8 : UInt8), (8 : UInt8), (8 : UInt8), (8 : UInt8), (8 : UInt8), (8 : UInt8), (8 : UInt8), (8 : UInt8), (8 : UInt8), (8 : UInt8), (8 : UInt8), (8 : UInt8), (8 : UInt8), (8 : UInt8), (8 : UInt8), (8 : UInt8), (8 : UInt8), (8 : UInt8), (8 : UInt8), (8 : UInt8), (8 : UInt8), (8 : UInt8), (8 : UInt8), (8 : UInt8), (8 : UInt8), (8 : UInt8), (8 : UInt8), (8 : UInt8), (8 : UInt8), (8 : UInt8), (8 : UInt8), (8 : UInt8), (8 : UInt8), (8 : UInt8), (8 : UInt8), (8 : UInt8), (8 : UInt8), (8 : UInt8), (8 : UInt8), (8 : UInt8), (8 : UInt8), (8 : UInt8), (8 : UInt8), (8 : UInt8), (8 : UInt8), (8 : UInt8), (8 : UInt8), (8 : UInt8), (8 : UInt8), (8 : UInt8), (8 : UInt8), (8 : UInt8), (8 : UInt8), (8 : UInt8), (8 : UInt8), (8 : UInt8), (8 : UInt8), (8 : UInt8), (8 : UInt8), (8 : UInt8), (8 : UInt8), (8 : UInt8), (8 : UInt8), (8 : UInt8), (8 : UInt8), (8 : UInt8), (8 : UInt8), (8 : UInt8), (8 : UInt8), (8 : UInt8), (8 : UInt8), (8 : UInt8), (8 : UInt8), (8 : UInt8), (8 : UInt8), (8 : UInt8), (8 : UInt8), (8 : UInt8), (8 : UInt8), (8 : UInt8), (8 : UInt8)] } } = lenTab := by decide +kernel
theorem tab_get {y : Nat} (h : y < 256) : lenTab.getD y 0 = ((bl2 y : Nat) : Int) := by
  unfold lenTab
  rw [List.getD_eq_getElem?_getD, List.getElem?_map, List.getElem?_range h]
  rfl
theorem bl2_small {y : Nat} (h : y < 256) : bl2 y ≤ 8 := by
  unfold bl2
  split
  · omega
  · have := (Nat.log2_lt (k := 8) (by omega)).2 h
    omega
theorem leaf {y : Nat} (h : y < 256) (n : Int) (h0 : 0 ≤ n) (h1 : n ≤ 56) : (0 ≤ IntKind.u8.wrap (y : Int) ∧ IntKind.u8.wrap (y : Int) < (lenTab.length : Int)) ∧
    IntKind.i64.wrap (n + IntKind.i64.wrap (lenTab.getD (IntKind.u8.wrap (y : Int)).toNat 0)) = n + ((bl2 y : Nat) : Int) := by
  have hl : lenTab.length = 256 := by unfold lenTab; rw [List.length_map, List.length_range]
  have hs := bl2_small h
  rw [wN8, Nat.mod_eq_of_lt h, Int.toNat_natCast, tab_get h, hl, wi (n := ((bl2 y : Nat) : Int)) (by omega) (by omega), wi (by omega) (by omega)]
  omega
theorem i64e {a b : Int} (h : a = b) : D.val (Value.int .i64 a) = D.val (Value.int .i64 b) := by rw [h]

set_option maxRecDepth 100000 in
theorem m105 : Meets Try.prog 105 sp105 := by
  refine meets_of_owed (C := c76) ⟨tab_ok, fun f s h => by cases h⟩ (by kernel_rfl) (by kernel_rfl : Try.prog.funcs[105]? = some Try.f105) (by kernel_rfl) (by kernel_rfl) (by kernel_rfl) _ ?_
  rintro _ ⟨x, rfl, hx⟩
  refine ⟨fun _ => rfl, fun _ => none, ?_⟩
  show owed c76 (fun _ => none) Try.f105 [u64n x] (i64n (bl2 x))
  rw [vc105]
  have hx : x < 18446744073709551616 := hx
  have s32 : ∀ y : Nat, ishr .u64 (y : Int) 32 = ((y / 4294967296 : Nat) : Int) := fun y => ishrN .u64 (a := y) (m := 32) (by decide)
  have s16 : ∀ y : Nat, ishr .u64 (y : Int) 16 = ((y / 65536 : Nat) : Int) := fun y => ishrN .u64 (a := y) (m := 16) (by decide)
  have s8 : ∀ y : Nat, ishr .u64 (y : Int) 8 = ((y / 256 : Nat) : Int) := fun y => ishrN .u64 (a := y) (m := 8) (by decide)
  have c1 : IntKind.i64.wrap (32 + 16) = 48 := by decide
  have c2 : IntKind.i64.wrap (48 + 8) = 56 := by decide
  have c3x : IntKind.i64.wrap (32 + 8) = 40 := by decide
  have c4x : IntKind.i64.wrap (0 + 16) = 16 := by decide
  have c5x : IntKind.i64.wrap (16 + 8) = 24 := by decide
  have c6x : IntKind.i64.wrap (0 + 8) = 8 := by decide
  have d32 : ∀ {y : Nat}, 4294967296 ≤ y → bl2 y = 32 + bl2 (y / 4294967296) := fun {y} h => bl2_div (k := 32) h
  have d16 : ∀ {y : Nat}, 65536 ≤ y → bl2 y = 16 + bl2 (y / 65536) := fun {y} h => bl2_div (k := 16) h
  have d8 : ∀ {y : Nat}, 256 ≤ y → bl2 y = 8 + bl2 (y / 256) := fun {y} h => bl2_div (k := 8) h
  simp (decide := true) only [tab_eq, s32, s16, s8, c1, c2, c3x, c4x, c5x, c6x, eq_self, true_and, and_true, ne_eq, not_false_eq_true]
  split
  · rename_i h1
    have h1 : 4294967296 ≤ x := by have := of_decide_eq_true h1; omega
    rw [d32 h1]
    split
    · rename_i h2
      have h2 : 65536 ≤ x / 4294967296 := by have := of_decide_eq_true h2; omega
      rw [d16 h2]
      split
      · rename_i h3
        have h3 : 256 ≤ x / 4294967296 / 65536 := by have := of_decide_eq_true h3; omega
        rw [d8 h3]
        obtain ⟨l1, l2⟩ := leaf (y := x / 4294967296 / 65536 / 256) (by omega) 56 (by omega) (by omega)
        exact ⟨l1, i64e (by rw [l2]; omega)⟩
      · rename_i h3
        have h3 := of_decide_eq_false h3
        obtain ⟨l1, l2⟩ := leaf (y := x / 4294967296 / 65536) (by omega) 48 (by omega) (by omega)
        exact ⟨l1, i64e (by rw [l2]; omega)⟩
    · rename_i h2
      have h2 := of_decide_eq_false h2
      split
      · rename_i h3
        have h3 : 256 ≤ x / 4294967296 := by have := of_decide_eq_true h3; omega
        rw [d8 h3]
        obtain ⟨l1, l2⟩ := leaf (y := x / 4294967296 / 256) (by omega) 40 (by omega) (by omega)
        exact ⟨l1, i64e (by rw [l2]; omega)⟩
      · rename_i h3
        have h3 := of_decide_eq_false h3
        obtain ⟨l1, l2⟩ := leaf (y := x / 4294967296) (by omega) 32 (by omega) (by omega)
        exact ⟨l1, i64e (by rw [l2]; omega)⟩
  · rename_i h1
    have h1 := of_decide_eq_false h1
    split
    · rename_i h2
      have h2 : 65536 ≤ x := by have := of_decide_eq_true h2; omega
      rw [d16 h2]
      split
      · rename_i h3
        have h3 : 256 ≤ x / 65536 := by have := of_decide_eq_true h3; omega
        rw [d8 h3]
        obtain ⟨l1, l2⟩ := leaf (y := x / 65536 / 256) (by omega) 24 (by omega) (by omega)
        exact ⟨l1, i64e (by rw [l2]; omega)⟩
      · rename_i h3
        have h3 := of_decide_eq_false h3
        obtain ⟨l1, l2⟩ := leaf (y := x / 65536) (by omega) 16 (by omega) (by omega)
        exact ⟨l1, i64e (by rw [l2]; omega)⟩
    · rename_i h2
      have h2 := of_decide_eq_false h2
      split
      · rename_i h3
        have h3 : 256 ≤ x := by have := of_decide_eq_true h3; omega
        rw [d8 h3]
        obtain ⟨l1, l2⟩ := leaf (y := x / 256) (by omega) 8 (by omega) (by omega)
        exact ⟨l1, i64e (by rw [l2]; omega)⟩
      · rename_i h3
        have h3 := of_decide_eq_false h3
        obtain ⟨l1, l2⟩ := leaf (y := x) (by omega) 0 (by omega) (by omega)
        exact ⟨l1, i64e (by rw [l2]; omega)⟩

set_option maxRecDepth 100000 in
theorem m82 : Meets Try.prog 82 sp82 := by
  refine meets_of_owed (C := c76) ⟨tab_ok, fun f s h => by cases h⟩ (by kernel_rfl) (by kernel_rfl : Try.prog.funcs[82]? = some Try.f82) (by kernel_rfl) (by kernel_rfl) (by kernel_rfl) _ ?_
  rintro _ ⟨l, i, rfl, hl, hi1, hi2⟩
  refine ⟨fun _ => rfl, fun _ => none, ?_⟩
  show owed c76 (fun _ => none) Try.f82 [num4 l, i64 i] (u64n (bitN (wv l) i))
  rw [vc82]
  simp (decide := true) only [eq_self, true_and, and_true, ne_eq, not_false_eq_true]
  split
  · rename_i h
    have h := of_decide_eq_true h
    rw [show bitN (wv l) i = 0 from if_neg (by omega)]
    rfl
  · rename_i h
    have h := of_decide_eq_false h
    split
    · rename_i h2
      have h2 := of_decide_eq_true h2
      rw [show bitN (wv l) i = 0 from if_neg (by omega)]
      rfl
    · rename_i h2
      have h2 := of_decide_eq_false h2
      obtain ⟨n, rfl⟩ := Int.eq_ofNat_of_zero_le (a := i) (by omega)
      have e : bitN (wv l) (n : Int) = wv l / 2 ^ n % 2 := by
        unfold bitN
        rw [if_pos ⟨by omega, by omega⟩, Int.toNat_natCast]
      have d1 : ((n : Nat) : Int).tdiv 64 = ((n / 64 : Nat) : Int) := tdivN _ 64
      have d2 : ((n : Nat) : Int).tmod 64 = ((n % 64 : Nat) : Int) := tmodN _ 64
      rw [e, d1, d2, wi (n := ((n / 64 : Nat) : Int)) (by omega) (by omega), wB (n := n % 64) (by omega), Int.toNat_natCast]
      have hg := vB_get (b := 18446744073709551616) hl.1 (i := n / 64) (by rw [hl.2]; omega)
      rw [hg, ishrN .u64 (m := n % 64) (show n % 64 ≤ 64 by omega)]
      have hs := sub_at 2 64 (wv l) n (by decide)
      have hB : (2 : Nat) ^ 64 = 18446744073709551616 := rfl
      rw [hB] at hs
      have hw : wv l / 18446744073709551616 ^ (n / 64) % 18446744073709551616 / 2 ^ (n % 64) < 18446744073709551616 := Nat.lt_of_le_of_lt (Nat.div_le_self _ _) (Nat.mod_lt _ (by decide))
      have ha : iand .u64 ((wv l / 18446744073709551616 ^ (n / 64) % 18446744073709551616 / 2 ^ (n % 64) : Nat) : Int) 1 = ((wv l / 18446744073709551616 ^ (n / 64) % 18446744073709551616 / 2 ^ (n % 64) % 2 : Nat) : Int) := by
        rw [show (1 : Int) = ((1 : Nat) : Int) from rfl, iandN .u64 (show _ < 18446744073709551616 from hw) (show 1 < 18446744073709551616 by decide), Nat.and_one_is_mod]
      rw [ha, hs]
      and_intros <;> first | rfl | omega

set_option maxRecDepth 100000 in
theorem m81 : Meets Try.prog 81 sp81 := by
  refine meets_of_owed (C := c81) ⟨tab_ok, lkS_ok ⟨m105, trivial⟩⟩ (by kernel_rfl) (by kernel_rfl : Try.prog.funcs[81]? = some Try.f81) (by kernel_rfl) (by kernel_rfl) (by kernel_rfl) _ ?_
  rintro _ ⟨l, rfl, hl⟩
  refine ⟨fun _ => rfl, inv81 l, ?_⟩
  show owed c81 (inv81 l) Try.f81 [num4 l] (i64n (bl2 (wv l)))
  rw [vc81]
  have hl4 := hl.2
  have h4 : List.drop (Int.toNat (3 + 1)) l = [] := List.drop_of_length_le (by rw [hl4]; decide)
  rw [h4]
  simp (decide := true) only [eq_self, true_and, and_true, ne_eq, not_false_eq_true]
  rintro i ⟨⟨hi1, hi2⟩, hz⟩
  split
  · rename_i h
    have h := of_decide_eq_true h
    obtain ⟨n, rfl⟩ := Int.eq_ofNat_of_zero_le (a := i) (by omega)
    have e1 : (((n : Nat) : Int) + 1).toNat = n + 1 := by omega
    rw [e1] at hz
    obtain ⟨x, ex, hx⟩ := okw_get hl.1 (i := n) (by omega)
    obtain ⟨A, hA, hV⟩ := vB_cut hl.1 (i := n) (by omega) ex
    rw [hz, Nat.mul_zero, Nat.add_zero] at hV
    rw [Int.toNat_natCast, ex]
    split
    · rename_i h2
      have h2 : x ≠ 0 := by
        rintro rfl
        cases h2
      have hb := bl2_up (lo := A) (y := x) (k := 64 * n) (by rw [← B_pow]; exact hA) h2
      rw [← B_pow, ← hV] at hb
      have hx2 : bl2 x ≤ 64 := by
        have := (Nat.log2_lt (n := x) (k := 64) h2).2 hx
        unfold bl2
        rw [if_neg h2]
        omega
      rw [Int.toNat_natCast, hb, wi (n := 64 * ((n : Nat) : Int)) (by omega) (by omega), wi (by omega) (by omega)]
      refine ⟨by omega, by omega, ⟨x, rfl, hx⟩, i64e (by omega)⟩
    · rename_i h2
      have h2 : x = 0 := by
        have := bne_eq_false_iff_eq.1 h2
        omega
      subst h2
      have e2 : IntKind.i64.wrap (((n : Nat) : Int) - 1) = ((n : Nat) : Int) - 1 := wi (by omega) (by omega)
      have e3 : (((n : Nat) : Int) - 1 + 1).toNat = n := by omega
      rw [e2, e3, e1]
      have hz2 : vB 18446744073709551616 (l.drop n) = 0 := by
        rw [vB_dropS 18446744073709551616 n (by omega), hz, ex]
        rfl
      refine ⟨by omega, ⟨⟨by omega, by omega⟩, hz2⟩, by omega⟩
  · rename_i h
    have h := of_decide_eq_false h
    obtain rfl : i = -1 := by omega
    have hz : wv l = 0 := hz
    rw [hz]
    rfl

theorem bits_lt {l : List Int} (h : isBits l) : vB 2 l < 2 ^ 256 := by
  have := vB_lt (b := 2) h.1
  exact Nat.lt_of_lt_of_le this (Nat.pow_le_pow_right (by decide) h.2)
theorem bits_drop {l : List Int} (h : isBits l) (n : Nat) : isBits (l.drop n) := ⟨fun x hx => h.1 x (List.mem_of_mem_drop hx), by rw [List.length_drop]; have := h.2; omega⟩
theorem len_256 {n : Nat} (h : n < 2 * 2 ^ 256) : lenS (dg n) ∧ lenOk (dg n) := len_ok (k := 17) (Nat.lt_trans h (by decide)) (by decide)

theorem xor_back (x y : Nat) : x ^^^ (x ^^^ y) = y := by rw [← Nat.xor_assoc, Nat.xor_self, Nat.zero_xor]
theorem mixW_get {L P : List Int} {x : Nat} (hL : L.length = P.length) (h : x < P.length) : (L.take x ++ P.drop x).getD x 0 = P.getD x 0 := by
  rw [List.getD_eq_getElem?_getD, List.getElem?_append_right (by rw [List.length_take]; omega), List.length_take, List.getElem?_drop, List.getD_eq_getElem?_getD]
  congr 2
  omega
theorem mixW_set {L P : List Int} {x : Nat} (hL : L.length = P.length) (h : x < P.length) : (L.take x ++ P.drop x).set x (L.getD x 0) = L.take (x + 1) ++ P.drop (x + 1) := by
  have e : (L.take x).length = x := by rw [List.length_take]; omega
  rw [List.set_append_right _ _ (by omega), e, Nat.sub_self, List.drop_eq_getElem_cons h, List.set_cons_zero, take_push (by omega), List.append_assoc]
  rfl

end Go.Proofs.Ytkicjckhkefnpaa
/- The ring of package ring: what Out and its helpers owe. -/
namespace Go.Proofs.Ytkicjckhkefnpaa
open Go Go.Vg

def rgO (M : Nat) : List Int := nB 18446744073709551616 4 (2 ^ 256 % M)
def rgS (M : Nat) : List Int := nB 18446744073709551616 4 (2 ^ 512 % M)
noncomputable def rgI (M : Nat) : Nat := (B64 - invN (M % B64) B64) % B64
noncomputable abbrev ringD (l : List Int) : D := .st [num4 l, num4 (rgO (wv l)), num4 (rgS (wv l)), u64n (rgI (wv l))]
def mdOf : D → List Int
  | .ref (.st (.arr _ _ l :: _)) => l
  | _ => []
def rgOk (l : List Int) : Prop := isN l ∧ wv l % 2 = 1 ∧ 1 < wv l
def is8 (l : List Int) : Prop := okw l ∧ l.length = 8
/-- t / 2^256 modulo M. -/
noncomputable def redc (T M : Nat) : Nat := T * invN (2 ^ 256 % M) M % M
def inM (A M : Nat) : Nat := A * 2 ^ 256 % M
def sp80 : Go.Vg.Spec := ⟨fun ds => ∃ l, ds = [num8 l] ∧ l.length = 8, fun ds => num4 ((arrOf (ds.headD default)).drop 4), true, [50]⟩
def sp26 : Go.Vg.Spec := ⟨fun ds => ∃ l, ds = [.ref (ringD l)] ∧ rgOk l, fun ds => num4 (mdOf (ds.headD default)), true, [51]⟩
def sp74 : Go.Vg.Spec := ⟨fun ds => ∃ l a, ds = [.ref (ringD l), num4 a] ∧ rgOk l ∧ isN a, fun ds => num4 (nB 18446744073709551616 4 (wv (arrOf (ds.getD 1 default)) % wv (mdOf (ds.headD default)))), true, [51, 27]⟩
noncomputable def sp33 : Go.Vg.Spec := ⟨fun ds => ∃ l t, ds = [.ref (ringD l), num8 t] ∧ rgOk l ∧ is8 t, fun ds => num4 (nB 18446744073709551616 4 (redc (wv (arrOf (ds.getD 1 default))) (wv (mdOf (ds.headD default))))), true, [51, 50]⟩
def sp36 : Go.Vg.Spec := ⟨fun ds => ∃ l a, ds = [.ref (ringD l), num4 a] ∧ rgOk l ∧ isN a, fun ds => num4 (nB 18446744073709551616 4 (inM (wv (arrOf (ds.getD 1 default))) (wv (mdOf (ds.headD default))))), true, [51, 27]⟩
noncomputable def c74 : Ctx := ⟨tab, lkS [(92, sp92), (83, sp83), (69, sp69)], [], []⟩
noncomputable def c33 : Ctx := ⟨tab, lkS [(78, sp78), (79, sp79), (80, sp80), (75, sp75), (74, sp74)], [], []⟩
noncomputable def c36 : Ctx := ⟨tab, lkS [(70, sp70), (33, sp33)], [], []⟩
structure OutI (l t : List Int) (i o : Nat) (L : List Int) : Prop where
  len : L.length = 8
  ok : okw L
  val : ∃ Q, Q < 18446744073709551616 ^ i ∧ wv L + o * 18446744073709551616 ^ 8 = wv t + Q * wv l
  low : 18446744073709551616 ^ i ∣ wv L
structure OutJ (l : List Int) (i k : Nat) (L0 : List Int) (j c : Nat) (L : List Int) : Prop where
  len : L.length = 8
  ok : okw L
  car : c < 18446744073709551616
  val : wv L + 18446744073709551616 ^ (i + j) * c = wv L0 + 18446744073709551616 ^ i * (k * wv (l.take j))
structure OutK (j0 c0 : Nat) (L0 : List Int) (j c : Nat) (L : List Int) : Prop where
  len : L.length = 8
  ok : okw L
  car : c < 18446744073709551616
  le : j0 ≤ j ∧ j ≤ 8
  val : wv L + 18446744073709551616 ^ j * c = wv L0 + 18446744073709551616 ^ j0 * c0
def inv33 (l t : List Int) : Nat → Option Inv
  | 3 => some ⟨Nat × Nat × List Int, fun x => [(16, .d (i64 x.1)), (5, .d (u64n x.2.1))], fun x => [(3, .fix (num8 x.2.2))], fun s => ((slotN s 16).toNat, (slotN s 5).toNat, rowD s 3), fun _ x => x.1 ≤ 4 ∧ OutI l t x.1 x.2.1 x.2.2, fun x => 4 - x.1⟩
  | 8 => some ⟨Nat × Nat × List Int, fun x => [(31, .d (i64 x.1)), (8, .d (u64n x.2.1))], fun x => [(3, .fix (num8 x.2.2))], fun s => ((slotN s 31).toNat, (slotN s 8).toNat, rowD s 3), fun s x => x.1 ≤ 4 ∧ OutJ l (slotN s 6).toNat (slotN s 7).toNat (rowD s 3) x.1 x.2.1 x.2.2, fun x => 4 - x.1⟩
  | 18 => some ⟨Nat × Nat × List Int, fun x => [(14, .d (i64 x.1)), (8, .d (u64n x.2.1))], fun x => [(3, .fix (num8 x.2.2))], fun s => ((slotN s 14).toNat, (slotN s 8).toNat, rowD s 3), fun s x => OutK (slotN s 14).toNat (slotN s 8).toNat (rowD s 3) x.1 x.2.1 x.2.2, fun x => 8 - x.1⟩
  | _ => none
--KEEP Nat.gcd Go.Vg.eqB Go.Vg.vB Go.Vg.nB Go.Vg.okd Go.Vg.okw Go.Vg.dg Go.Vg.dig Go.Vg.trimL lenOk lenS len1 sbd sbb dif bor cmpN shf i64ok subL dvq dvr dve sbD adl adc mulL mulH stL stH smN smC addL addK TimI TimJ isN invN ivX ivE bl2 bitN rgO rgS rgI rgOk is8 redc OutI OutJ OutK
set_option maxRecDepth 100000 in
theorem vc80  (l : List Int) (F : D)  :
    (owed c76 (fun _ => none) Try.f80 [num8 l] F) = (
 (True ∧ false = false) ∧
   (True ∧ (4 : Nat) ≠ (0 : Nat)) ∧
    ((0 : Int) ≤ (4 : Int) ∧ (4 : Int) < (↑(8 : Nat) : Int) ∧ (8 : Nat) = (8 : Nat) ∧ (1 : Nat) = (1 : Nat)) ∧
     ((1 : Nat) ≠ (0 : Nat) ∧ (1 : Nat) = (1 : Nat) ∧ false = false) ∧
      ((0 : Int) ≤ (5 : Int) ∧ (5 : Int) < (↑(8 : Nat) : Int) ∧ (8 : Nat) = (8 : Nat) ∧ (1 : Nat) = (1 : Nat)) ∧
       ((1 : Nat) ≠ (0 : Nat) ∧ (1 : Nat) = (1 : Nat) ∧ false = false) ∧
        ((0 : Int) ≤ (6 : Int) ∧ (6 : Int) < (↑(8 : Nat) : Int) ∧ (8 : Nat) = (8 : Nat) ∧ (1 : Nat) = (1 : Nat)) ∧
         ((1 : Nat) ≠ (0 : Nat) ∧ (1 : Nat) = (1 : Nat) ∧ false = false) ∧
          ((0 : Int) ≤ (7 : Int) ∧ (7 : Int) < (↑(8 : Nat) : Int) ∧ (8 : Nat) = (8 : Nat) ∧ (1 : Nat) = (1 : Nat)) ∧
           ((1 : Nat) ≠ (0 : Nat) ∧ (1 : Nat) = (1 : Nat) ∧ false = false) ∧
            ((1 : Nat) = (1 : Nat) ∧ false = false ∧ ((0 : Nat) < (4 : Nat) ∧ ([] : List Nat) = [] ∧ true = true) ∧ false = false ∧ ((1 : Nat) < (4 : Nat) ∧ ([] : List Nat) = [] ∧ true = true) ∧ false = false ∧ ((2 : Nat) < (4 : Nat) ∧ ([] : List Nat) = [] ∧ true = true) ∧ false = false ∧ ((3 : Nat) < (4 : Nat) ∧ ([] : List Nat) = [] ∧ true = true) ∧ True) ∧
             (Sk.arr (4 : Nat) = Sk.arr (4 : Nat) ∧ (4 : Nat) ≠ (0 : Nat) ∧ (4 : Nat) = (4 : Nat) ∧ false = false) ∧ (((4 : Nat) ≠ (0 : Nat) ∧ (4 : Nat) = (4 : Nat) ∧ true = true) ∧ True) ∧ D.arr IntKind.u64 (4 : Nat) [l.getD (4 : Nat) (0 : Int), l.getD (5 : Nat) (0 : Int), l.getD (6 : Nat) (0 : Int), l.getD (7 : Nat) (0 : Int)] = F) := by kernel_rfl
set_option maxRecDepth 100000 in
theorem vc26  (l : List Int) (F : D)  :
    (owed c76 (fun _ => none) Try.f26 [.ref (ringD l)] F) = (
 (True ∧ (4 : Nat) ≠ (0 : Nat)) ∧
   True ∧
    True ∧
     (Sk.st [Sk.arr (4 : Nat), Sk.arr (4 : Nat), Sk.arr (4 : Nat), Sk.one] = Sk.st [Sk.arr (4 : Nat), Sk.arr (4 : Nat), Sk.arr (4 : Nat), Sk.one] ∧ (0 : Nat) < (4 : Nat)) ∧
      ((4 : Nat) ≠ (0 : Nat) ∧ (4 : Nat) = (4 : Nat) ∧ true = true) ∧ (Sk.arr (4 : Nat) = Sk.arr (4 : Nat) ∧ (4 : Nat) ≠ (0 : Nat) ∧ (4 : Nat) = (4 : Nat) ∧ false = false) ∧ (((4 : Nat) ≠ (0 : Nat) ∧ (4 : Nat) = (4 : Nat) ∧ true = true) ∧ True) ∧ D.arr IntKind.u64 (4 : Nat) l = F) := by kernel_rfl
set_option maxRecDepth 100000 in
theorem vc74  (l a : List Int) (F : D)  :
    (owed c74 (fun _ => none) Try.f74 [.ref (ringD l), num4 a] F) = (
 (True ∧ false = false) ∧
   (True ∧ (4 : Nat) ≠ (0 : Nat)) ∧
    ((4 : Nat) ≠ (0 : Nat) ∧ (4 : Nat) = (4 : Nat) ∧ true = true) ∧
     True ∧
      True ∧
       (Sk.st [Sk.arr (4 : Nat), Sk.arr (4 : Nat), Sk.arr (4 : Nat), Sk.one] = Sk.st [Sk.arr (4 : Nat), Sk.arr (4 : Nat), Sk.arr (4 : Nat), Sk.one] ∧ (0 : Nat) < (4 : Nat)) ∧
        ((4 : Nat) ≠ (0 : Nat) ∧ (4 : Nat) = (4 : Nat) ∧ true = true) ∧
         (∃ (l_1 : List Int), ∃ (m : List Int), [D.arr IntKind.u64 (4 : Nat) a, D.arr IntKind.u64 (4 : Nat) l] = [D.arr IntKind.u64 (4 : Nat) l_1, D.arr IntKind.u64 (4 : Nat) m] ∧ (okw l_1 ∧ l_1.length = (4 : Nat)) ∧ okw m ∧ m.length = (4 : Nat)) ∧
          True ∧
           match decide (cmpN (vB (18446744073709551616 : Nat) a) (vB (18446744073709551616 : Nat) l) < (0 : Int)) with
           | true => ((4 : Nat) ≠ (0 : Nat) ∧ (4 : Nat) = (4 : Nat) ∧ true = true) ∧ (Sk.arr (4 : Nat) = Sk.arr (4 : Nat) ∧ (4 : Nat) ≠ (0 : Nat) ∧ (4 : Nat) = (4 : Nat) ∧ false = false) ∧ (((4 : Nat) ≠ (0 : Nat) ∧ (4 : Nat) = (4 : Nat) ∧ true = true) ∧ True) ∧ D.arr IntKind.u64 (4 : Nat) a = F
           | false =>
            ((4 : Nat) ≠ (0 : Nat) ∧ (4 : Nat) = (4 : Nat) ∧ true = true) ∧
             ((1 : Nat) = (1 : Nat) ∧ True) ∧
              (∃ (l : List Int), ∃ (m : List Int), [D.arr IntKind.u64 (4 : Nat) a, D.arr IntKind.u64 (4 : Nat) [(0 : Int), (0 : Int), (0 : Int), (0 : Int)]] = [D.arr IntKind.u64 (4 : Nat) l, D.arr IntKind.u64 (4 : Nat) m] ∧ l.length = (4 : Nat) ∧ m.length = (4 : Nat)) ∧
               True ∧
                True ∧
                 (Sk.st [Sk.arr (4 : Nat), Sk.arr (4 : Nat), Sk.arr (4 : Nat), Sk.one] = Sk.st [Sk.arr (4 : Nat), Sk.arr (4 : Nat), Sk.arr (4 : Nat), Sk.one] ∧ (0 : Nat) < (4 : Nat)) ∧
                  ((4 : Nat) ≠ (0 : Nat) ∧ (4 : Nat) = (4 : Nat) ∧ true = true) ∧
                   (∃ (a_1 : List Int), ∃ (m : List Int), [D.arr IntKind.u64 (8 : Nat) (a ++ [(0 : Int), (0 : Int), (0 : Int), (0 : Int)]), D.arr IntKind.u64 (4 : Nat) l] = [D.arr IntKind.u64 (8 : Nat) a_1, D.arr IntKind.u64 (4 : Nat) m] ∧ (okw a_1 ∧ a_1.length = (8 : Nat)) ∧ okw m ∧ m.length = (4 : Nat)) ∧
                    True ∧
                     ((0 : Nat) < (2 : Nat) ∧ false = false) ∧
                      ((1 : Nat) < (2 : Nat) ∧ false = false) ∧
                       (Sk.arr (4 : Nat) = Sk.arr (4 : Nat) ∧ (4 : Nat) ≠ (0 : Nat) ∧ (4 : Nat) = (4 : Nat) ∧ false = false) ∧
                        ((4 : Nat) ≠ (0 : Nat) ∧ (4 : Nat) = (4 : Nat) ∧ true = true) ∧
                         (Sk.arr (4 : Nat) = Sk.arr (4 : Nat) ∧ (4 : Nat) ≠ (0 : Nat) ∧ (4 : Nat) = (4 : Nat) ∧ false = false) ∧
                          (((4 : Nat) ≠ (0 : Nat) ∧ (4 : Nat) = (4 : Nat) ∧ true = true) ∧ True) ∧ D.arr IntKind.u64 (4 : Nat) (nB (18446744073709551616 : Nat) (4 : Nat) (dvr (vB (18446744073709551616 : Nat) (a ++ [(0 : Int), (0 : Int), (0 : Int), (0 : Int)])) (vB (18446744073709551616 : Nat) l))) = F) := by kernel_rfl
set_option maxRecDepth 100000 in
theorem vc36  (l a : List Int) (F : D)  :
    (owed c36 (fun _ => none) Try.f36 [.ref (ringD l), num4 a] F) = (
 (True ∧ false = false) ∧
   (True ∧ (4 : Nat) ≠ (0 : Nat)) ∧
    True ∧
     ((4 : Nat) ≠ (0 : Nat) ∧ (4 : Nat) = (4 : Nat) ∧ true = true) ∧
      True ∧
       True ∧
        (Sk.st [Sk.arr (4 : Nat), Sk.arr (4 : Nat), Sk.arr (4 : Nat), Sk.one] = Sk.st [Sk.arr (4 : Nat), Sk.arr (4 : Nat), Sk.arr (4 : Nat), Sk.one] ∧ (2 : Nat) < (4 : Nat)) ∧
         ((4 : Nat) ≠ (0 : Nat) ∧ (4 : Nat) = (4 : Nat) ∧ true = true) ∧
          (∃ (l_1 : List Int), ∃ (m : List Int), [D.arr IntKind.u64 (4 : Nat) a, D.arr IntKind.u64 (4 : Nat) (rgS (vB (18446744073709551616 : Nat) l))] = [D.arr IntKind.u64 (4 : Nat) l_1, D.arr IntKind.u64 (4 : Nat) m] ∧ isN l_1 ∧ isN m) ∧
           (∃ (l_1 : List Int),
             ∃ (t : List Int),
              [(D.st [D.arr IntKind.u64 (4 : Nat) l, D.arr IntKind.u64 (4 : Nat) (rgO (vB (18446744073709551616 : Nat) l)), D.arr IntKind.u64 (4 : Nat) (rgS (vB (18446744073709551616 : Nat) l)), D.val (Value.int IntKind.u64 (↑(rgI (vB (18446744073709551616 : Nat) l)) : Int))]).ref,
                 D.arr IntKind.u64 (8 : Nat) (nB (18446744073709551616 : Nat) (8 : Nat) (vB (18446744073709551616 : Nat) a * vB (18446744073709551616 : Nat) (rgS (vB (18446744073709551616 : Nat) l))))] =
                [(D.st [D.arr IntKind.u64 (4 : Nat) l_1, D.arr IntKind.u64 (4 : Nat) (rgO (vB (18446744073709551616 : Nat) l_1)), D.arr IntKind.u64 (4 : Nat) (rgS (vB (18446744073709551616 : Nat) l_1)), D.val (Value.int IntKind.u64 (↑(rgI (vB (18446744073709551616 : Nat) l_1)) : Int))]).ref, D.arr IntKind.u64 (8 : Nat) t] ∧
               rgOk l_1 ∧ is8 t) ∧
            (Sk.arr (4 : Nat) = Sk.arr (4 : Nat) ∧ (4 : Nat) ≠ (0 : Nat) ∧ (4 : Nat) = (4 : Nat) ∧ false = false) ∧
             (((4 : Nat) ≠ (0 : Nat) ∧ (4 : Nat) = (4 : Nat) ∧ true = true) ∧ True) ∧
              D.arr IntKind.u64 (4 : Nat) (nB (18446744073709551616 : Nat) (4 : Nat) (redc (vB (18446744073709551616 : Nat) (nB (18446744073709551616 : Nat) (8 : Nat) (vB (18446744073709551616 : Nat) a * vB (18446744073709551616 : Nat) (rgS (vB (18446744073709551616 : Nat) l))))) (vB (18446744073709551616 : Nat) l))) = F) := by kernel_rfl
set_option maxRecDepth 100000 in
theorem vc33  (l t : List Int) (F : D)  :
    (owed c33 (inv33 l t) Try.f33 [.ref (ringD l), num8 t] F) = (
 (True ∧ false = false) ∧
   (True ∧ (4 : Nat) ≠ (0 : Nat)) ∧
    True ∧
     True ∧
      (((AV.d (D.val (Value.int IntKind.i64 (0 : Int))) = AV.d (D.val (Value.int IntKind.i64 (↑(0 : Nat) : Int))) ∧ AV.d (D.val (Value.int IntKind.u64 (0 : Int))) = AV.d (D.val (Value.int IntKind.u64 (↑(0 : Nat) : Int))) ∧ True) ∧
         (some (Blk.fix (D.arr IntKind.u64 (8 : Nat) t)) = some (Blk.fix (D.arr IntKind.u64 (8 : Nat) t)) ∧ some (Blk.fix (D.arr IntKind.u64 (4 : Nat) [(0 : Int), (0 : Int), (0 : Int), (0 : Int)])) = some (Blk.fix (D.arr IntKind.u64 (4 : Nat) [(0 : Int), (0 : Int), (0 : Int), (0 : Int)])) ∧ True) ∧ true = true) ∧
        (0 : Nat) ≤ (4 : Nat) ∧ OutI l t (0 : Nat) (0 : Nat) t) ∧
       ∀ (x : Nat × Nat × List Int),
        x.fst ≤ (4 : Nat) ∧ OutI l t x.fst x.snd.fst x.snd.snd →
         true = true ∧
          True ∧
           match decide ((↑x.fst : Int) < (4 : Int)) with
           | true =>
            True ∧
             True ∧
              True ∧
               ((0 : Int) ≤ (↑x.fst : Int) ∧ (↑x.fst : Int) < (↑(8 : Nat) : Int) ∧ (8 : Nat) = (8 : Nat) ∧ (1 : Nat) = (1 : Nat)) ∧
                ((1 : Nat) ≠ (0 : Nat) ∧ (1 : Nat) = (1 : Nat) ∧ false = false) ∧
                 True ∧
                  True ∧
                   (Sk.st [Sk.arr (4 : Nat), Sk.arr (4 : Nat), Sk.arr (4 : Nat), Sk.one] = Sk.st [Sk.arr (4 : Nat), Sk.arr (4 : Nat), Sk.arr (4 : Nat), Sk.one] ∧ (3 : Nat) < (4 : Nat)) ∧
                    ((1 : Nat) ≠ (0 : Nat) ∧ (1 : Nat) = (1 : Nat) ∧ false = false) ∧
                     True ∧
                      True ∧
                       True ∧
                        True ∧
                         True ∧
                          (Sk.st [Sk.arr (4 : Nat), Sk.arr (4 : Nat), Sk.arr (4 : Nat), Sk.one] = Sk.st [Sk.arr (4 : Nat), Sk.arr (4 : Nat), Sk.arr (4 : Nat), Sk.one] ∧ (0 : Nat) < (4 : Nat)) ∧
                           ((4 : Nat) ≠ (0 : Nat) ∧ (4 : Nat) = (4 : Nat) ∧ true = true) ∧
                            True ∧
                             (((AV.d (D.val (Value.int IntKind.i64 (0 : Int))) = AV.d (D.val (Value.int IntKind.i64 (↑(0 : Nat) : Int))) ∧ AV.d (D.val (Value.int IntKind.u64 (0 : Int))) = AV.d (D.val (Value.int IntKind.u64 (↑(0 : Nat) : Int))) ∧ True) ∧
                                (some (Blk.fix (D.arr IntKind.u64 (8 : Nat) x.snd.snd)) = some (Blk.fix (D.arr IntKind.u64 (8 : Nat) x.snd.snd)) ∧ some (Blk.fix (D.arr IntKind.u64 (4 : Nat) [(0 : Int), (0 : Int), (0 : Int), (0 : Int)])) = some (Blk.fix (D.arr IntKind.u64 (4 : Nat) [(0 : Int), (0 : Int), (0 : Int), (0 : Int)])) ∧ True) ∧ true = true) ∧
                               (0 : Nat) ≤ (4 : Nat) ∧ OutJ l (↑x.fst : Int).toNat (IntKind.u64.wrap (x.snd.snd.getD (↑x.fst : Int).toNat (0 : Int) * (↑(rgI (vB (18446744073709551616 : Nat) l)) : Int))).toNat x.snd.snd (0 : Nat) (0 : Nat) x.snd.snd) ∧
                              ∀ (x_1 : Nat × Nat × List Int),
                               x_1.fst ≤ (4 : Nat) ∧ OutJ l (↑x.fst : Int).toNat (IntKind.u64.wrap (x.snd.snd.getD (↑x.fst : Int).toNat (0 : Int) * (↑(rgI (vB (18446744073709551616 : Nat) l)) : Int))).toNat x.snd.snd x_1.fst x_1.snd.fst x_1.snd.snd →
                                true = true ∧
                                 True ∧
                                  match decide ((↑x_1.fst : Int) < (4 : Int)) with
                                  | true =>
                                   True ∧
                                    ((0 : Int) ≤ (↑x_1.fst : Int) ∧ (↑x_1.fst : Int) < (↑(4 : Nat) : Int) ∧ (4 : Nat) = (4 : Nat) ∧ Ty.int IntKind.u64 = Ty.int IntKind.u64 ∧ (1 : Nat) = (1 : Nat)) ∧
                                     True ∧
                                      True ∧
                                       True ∧
                                        True ∧
                                         (∃ (x_2 : Nat),
                                           ∃ (y : Nat),
                                            [D.val (Value.int IntKind.u64 (IntKind.u64.wrap (x.snd.snd.getD (↑x.fst : Int).toNat (0 : Int) * (↑(rgI (vB (18446744073709551616 : Nat) l)) : Int)))), D.val (Value.int IntKind.u64 (l.getD (↑x_1.fst : Int).toNat (0 : Int)))] =
                                              [D.val (Value.int IntKind.u64 (↑x_2 : Int)), D.val (Value.int IntKind.u64 (↑y : Int))] ∧
                                             x_2 < (18446744073709551616 : Nat) ∧ y < (18446744073709551616 : Nat)) ∧
                                          True ∧
                                           ((0 : Nat) < (2 : Nat) ∧ false = false) ∧
                                            ((1 : Nat) < (2 : Nat) ∧ false = false) ∧
                                             True ∧
                                              True ∧
                                               True ∧
                                                True ∧
                                                 True ∧
                                                  True ∧
                                                   True ∧
                                                    ((0 : Int) ≤ IntKind.i64.wrap ((↑x.fst : Int) + (↑x_1.fst : Int)) ∧ IntKind.i64.wrap ((↑x.fst : Int) + (↑x_1.fst : Int)) < (↑(8 : Nat) : Int) ∧ (8 : Nat) = (8 : Nat) ∧ (1 : Nat) = (1 : Nat)) ∧
                                                     ((1 : Nat) ≠ (0 : Nat) ∧ (1 : Nat) = (1 : Nat) ∧ false = false) ∧
                                                      (∃ (x_2 : Nat),
                                                        ∃ (y : Nat),
                                                         ∃ (b : Nat),
                                                          [D.val (Value.int IntKind.u64 (↑(mulL (IntKind.u64.wrap (x.snd.snd.getD (↑x.fst : Int).toNat (0 : Int) * (↑(rgI (vB (18446744073709551616 : Nat) l)) : Int))).toNat (l.getD (↑x_1.fst : Int).toNat (0 : Int)).toNat) : Int)),
                                                             D.val (Value.int IntKind.u64 (x_1.snd.snd.getD (IntKind.i64.wrap ((↑x.fst : Int) + (↑x_1.fst : Int))).toNat (0 : Int))), D.val (Value.int IntKind.u64 (0 : Int))] =
                                                            [D.val (Value.int IntKind.u64 (↑x_2 : Int)), D.val (Value.int IntKind.u64 (↑y : Int)), D.val (Value.int IntKind.u64 (↑b : Int))] ∧
                                                           x_2 < (18446744073709551616 : Nat) ∧ y < (18446744073709551616 : Nat) ∧ b ≤ (1 : Nat)) ∧
                                                       True ∧
                                                        ((0 : Nat) < (2 : Nat) ∧ false = false) ∧
                                                         ((1 : Nat) < (2 : Nat) ∧ false = false) ∧
                                                          True ∧
                                                           True ∧
                                                            True ∧
                                                             True ∧
                                                              True ∧
                                                               True ∧
                                                                True ∧
                                                                 True ∧
                                                                  (∃ (x_2 : Nat),
                                                                    ∃ (y : Nat),
                                                                     ∃ (b : Nat),
                                                                      [D.val
                                                                          (Value.int IntKind.u64
                                                                           (↑(adl (↑(mulL (IntKind.u64.wrap (x.snd.snd.getD (↑x.fst : Int).toNat (0 : Int) * (↑(rgI (vB (18446744073709551616 : Nat) l)) : Int))).toNat (l.getD (↑x_1.fst : Int).toNat (0 : Int)).toNat) : Int).toNat
                                                                              (x_1.snd.snd.getD (IntKind.i64.wrap ((↑x.fst : Int) + (↑x_1.fst : Int))).toNat (0 : Int)).toNat (0 : Nat)) :
                                                                            Int)),
                                                                         D.val (Value.int IntKind.u64 (↑x_1.snd.fst : Int)), D.val (Value.int IntKind.u64 (0 : Int))] =
                                                                        [D.val (Value.int IntKind.u64 (↑x_2 : Int)), D.val (Value.int IntKind.u64 (↑y : Int)), D.val (Value.int IntKind.u64 (↑b : Int))] ∧
                                                                       x_2 < (18446744073709551616 : Nat) ∧ y < (18446744073709551616 : Nat) ∧ b ≤ (1 : Nat)) ∧
                                                                   True ∧
                                                                    ((0 : Nat) < (2 : Nat) ∧ false = false) ∧
                                                                     ((1 : Nat) < (2 : Nat) ∧ false = false) ∧
                                                                      True ∧
                                                                       True ∧
                                                                        True ∧
                                                                         True ∧
                                                                          True ∧
                                                                           True ∧
                                                                            True ∧
                                                                             True ∧
                                                                              True ∧
                                                                               ((0 : Int) ≤ IntKind.i64.wrap ((↑x.fst : Int) + (↑x_1.fst : Int)) ∧ IntKind.i64.wrap ((↑x.fst : Int) + (↑x_1.fst : Int)) < (↑(8 : Nat) : Int) ∧ (8 : Nat) = (8 : Nat) ∧ (1 : Nat) = (1 : Nat)) ∧
                                                                                (((IntKind.i64.wrap ((↑x.fst : Int) + (↑x_1.fst : Int))).toNat < (8 : Nat) ∧ ([] : List Nat) = [] ∧ true = true) ∧ (1 : Nat) ≠ (0 : Nat) ∧ (1 : Nat) = (1 : Nat) ∧ false = false) ∧
                                                                                 True ∧
                                                                                  True ∧
                                                                                   True ∧
                                                                                    ((AV.d (D.val (Value.int IntKind.i64 (IntKind.i64.wrap ((↑x_1.fst : Int) + (1 : Int))))) = AV.d (D.val (Value.int IntKind.i64 (↑(IntKind.i64.wrap ((↑x_1.fst : Int) + (1 : Int))).toNat : Int))) ∧
                                                                                       AV.d
                                                                                          (D.val
                                                                                           (Value.int IntKind.u64
                                                                                            (IntKind.u64.wrap
                                                                                             (IntKind.u64.wrap
                                                                                               ((↑(mulH (IntKind.u64.wrap (x.snd.snd.getD (↑x.fst : Int).toNat (0 : Int) * (↑(rgI (vB (18446744073709551616 : Nat) l)) : Int))).toNat (l.getD (↑x_1.fst : Int).toNat (0 : Int)).toNat) : Int) +
                                                                                                (↑(adc (↑(mulL (IntKind.u64.wrap (x.snd.snd.getD (↑x.fst : Int).toNat (0 : Int) * (↑(rgI (vB (18446744073709551616 : Nat) l)) : Int))).toNat (l.getD (↑x_1.fst : Int).toNat (0 : Int)).toNat) : Int).toNat
                                                                                                   (x_1.snd.snd.getD (IntKind.i64.wrap ((↑x.fst : Int) + (↑x_1.fst : Int))).toNat (0 : Int)).toNat (0 : Nat)) :
                                                                                                 Int)) +
                                                                                              (↑(adc
                                                                                                 (↑(adl (↑(mulL (IntKind.u64.wrap (x.snd.snd.getD (↑x.fst : Int).toNat (0 : Int) * (↑(rgI (vB (18446744073709551616 : Nat) l)) : Int))).toNat (l.getD (↑x_1.fst : Int).toNat (0 : Int)).toNat) : Int).toNat
                                                                                                     (x_1.snd.snd.getD (IntKind.i64.wrap ((↑x.fst : Int) + (↑x_1.fst : Int))).toNat (0 : Int)).toNat (0 : Nat)) :
                                                                                                   Int).toNat
                                                                                                 (↑x_1.snd.fst : Int).toNat (0 : Nat)) :
                                                                                               Int))))) =
                                                                                         AV.d
                                                                                          (D.val
                                                                                           (Value.int IntKind.u64
                                                                                            (↑(IntKind.u64.wrap
                                                                                                (IntKind.u64.wrap
                                                                                                  ((↑(mulH (IntKind.u64.wrap (x.snd.snd.getD (↑x.fst : Int).toNat (0 : Int) * (↑(rgI (vB (18446744073709551616 : Nat) l)) : Int))).toNat (l.getD (↑x_1.fst : Int).toNat (0 : Int)).toNat) : Int) +
                                                                                                   (↑(adc (↑(mulL (IntKind.u64.wrap (x.snd.snd.getD (↑x.fst : Int).toNat (0 : Int) * (↑(rgI (vB (18446744073709551616 : Nat) l)) : Int))).toNat (l.getD (↑x_1.fst : Int).toNat (0 : Int)).toNat) : Int).toNat
                                                                                                      (x_1.snd.snd.getD (IntKind.i64.wrap ((↑x.fst : Int) + (↑x_1.fst : Int))).toNat (0 : Int)).toNat (0 : Nat)) :
                                                                                                    Int)) +
                                                                                                 (↑(adc
                                                                                                    (↑(adl (↑(mulL (IntKind.u64.wrap (x.snd.snd.getD (↑x.fst : Int).toNat (0 : Int) * (↑(rgI (vB (18446744073709551616 : Nat) l)) : Int))).toNat (l.getD (↑x_1.fst : Int).toNat (0 : Int)).toNat) : Int).toNat
                                                                                                        (x_1.snd.snd.getD (IntKind.i64.wrap ((↑x.fst : Int) + (↑x_1.fst : Int))).toNat (0 : Int)).toNat (0 : Nat)) :
                                                                                                      Int).toNat
                                                                                                    (↑x_1.snd.fst : Int).toNat (0 : Nat)) :
                                                                                                  Int))).toNat :
                                                                                             Int))) ∧
                                                                                        True) ∧
                                                                                      (some
                                                                                          (Blk.fix
                                                                                           (D.arr IntKind.u64 (8 : Nat)
                                                                                            (x_1.snd.snd.set (IntKind.i64.wrap ((↑x.fst : Int) + (↑x_1.fst : Int))).toNat
                                                                                             (↑(adl
                                                                                                (↑(adl (↑(mulL (IntKind.u64.wrap (x.snd.snd.getD (↑x.fst : Int).toNat (0 : Int) * (↑(rgI (vB (18446744073709551616 : Nat) l)) : Int))).toNat (l.getD (↑x_1.fst : Int).toNat (0 : Int)).toNat) : Int).toNat
                                                                                                    (x_1.snd.snd.getD (IntKind.i64.wrap ((↑x.fst : Int) + (↑x_1.fst : Int))).toNat (0 : Int)).toNat (0 : Nat)) :
                                                                                                  Int).toNat
                                                                                                (↑x_1.snd.fst : Int).toNat (0 : Nat)) :
                                                                                              Int)))) =
                                                                                         some
                                                                                          (Blk.fix
                                                                                           (D.arr IntKind.u64 (8 : Nat)
                                                                                            (x_1.snd.snd.set (IntKind.i64.wrap ((↑x.fst : Int) + (↑x_1.fst : Int))).toNat
                                                                                             (↑(adl
                                                                                                (↑(adl (↑(mulL (IntKind.u64.wrap (x.snd.snd.getD (↑x.fst : Int).toNat (0 : Int) * (↑(rgI (vB (18446744073709551616 : Nat) l)) : Int))).toNat (l.getD (↑x_1.fst : Int).toNat (0 : Int)).toNat) : Int).toNat
                                                                                                    (x_1.snd.snd.getD (IntKind.i64.wrap ((↑x.fst : Int) + (↑x_1.fst : Int))).toNat (0 : Int)).toNat (0 : Nat)) :
                                                                                                  Int).toNat
                                                                                                (↑x_1.snd.fst : Int).toNat (0 : Nat)) :
                                                                                              Int)))) ∧
                                                                                        some (Blk.fix (D.arr IntKind.u64 (4 : Nat) [(0 : Int), (0 : Int), (0 : Int), (0 : Int)])) = some (Blk.fix (D.arr IntKind.u64 (4 : Nat) [(0 : Int), (0 : Int), (0 : Int), (0 : Int)])) ∧ True) ∧
                                                                                       true = true) ∧
                                                                                     ((IntKind.i64.wrap ((↑x_1.fst : Int) + (1 : Int))).toNat ≤ (4 : Nat) ∧
                                                                                       OutJ l (↑x.fst : Int).toNat (IntKind.u64.wrap (x.snd.snd.getD (↑x.fst : Int).toNat (0 : Int) * (↑(rgI (vB (18446744073709551616 : Nat) l)) : Int))).toNat x.snd.snd (IntKind.i64.wrap ((↑x_1.fst : Int) + (1 : Int))).toNat
                                                                                        (IntKind.u64.wrap
                                                                                          (IntKind.u64.wrap
                                                                                            ((↑(mulH (IntKind.u64.wrap (x.snd.snd.getD (↑x.fst : Int).toNat (0 : Int) * (↑(rgI (vB (18446744073709551616 : Nat) l)) : Int))).toNat (l.getD (↑x_1.fst : Int).toNat (0 : Int)).toNat) : Int) +
                                                                                             (↑(adc (↑(mulL (IntKind.u64.wrap (x.snd.snd.getD (↑x.fst : Int).toNat (0 : Int) * (↑(rgI (vB (18446744073709551616 : Nat) l)) : Int))).toNat (l.getD (↑x_1.fst : Int).toNat (0 : Int)).toNat) : Int).toNat
                                                                                                (x_1.snd.snd.getD (IntKind.i64.wrap ((↑x.fst : Int) + (↑x_1.fst : Int))).toNat (0 : Int)).toNat (0 : Nat)) :
                                                                                              Int)) +
                                                                                           (↑(adc
                                                                                              (↑(adl (↑(mulL (IntKind.u64.wrap (x.snd.snd.getD (↑x.fst : Int).toNat (0 : Int) * (↑(rgI (vB (18446744073709551616 : Nat) l)) : Int))).toNat (l.getD (↑x_1.fst : Int).toNat (0 : Int)).toNat) : Int).toNat
                                                                                                  (x_1.snd.snd.getD (IntKind.i64.wrap ((↑x.fst : Int) + (↑x_1.fst : Int))).toNat (0 : Int)).toNat (0 : Nat)) :
                                                                                                Int).toNat
                                                                                              (↑x_1.snd.fst : Int).toNat (0 : Nat)) :
                                                                                            Int))).toNat
                                                                                        (x_1.snd.snd.set (IntKind.i64.wrap ((↑x.fst : Int) + (↑x_1.fst : Int))).toNat
                                                                                         (↑(adl
                                                                                            (↑(adl (↑(mulL (IntKind.u64.wrap (x.snd.snd.getD (↑x.fst : Int).toNat (0 : Int) * (↑(rgI (vB (18446744073709551616 : Nat) l)) : Int))).toNat (l.getD (↑x_1.fst : Int).toNat (0 : Int)).toNat) : Int).toNat
                                                                                                (x_1.snd.snd.getD (IntKind.i64.wrap ((↑x.fst : Int) + (↑x_1.fst : Int))).toNat (0 : Int)).toNat (0 : Nat)) :
                                                                                              Int).toNat
                                                                                            (↑x_1.snd.fst : Int).toNat (0 : Nat)) :
                                                                                          Int))) ∧
                                                                                      (4 : Nat) - (IntKind.i64.wrap ((↑x_1.fst : Int) + (1 : Int))).toNat < (4 : Nat) - x_1.fst
                                  | false =>
                                   True ∧
                                    True ∧
                                     True ∧
                                      (((AV.d (D.val (Value.int IntKind.i64 (IntKind.i64.wrap ((↑x.fst : Int) + (4 : Int))))) = AV.d (D.val (Value.int IntKind.i64 (↑(IntKind.i64.wrap ((↑x.fst : Int) + (4 : Int))).toNat : Int))) ∧
                                          AV.d (D.val (Value.int IntKind.u64 (↑x_1.snd.fst : Int))) = AV.d (D.val (Value.int IntKind.u64 (↑(↑x_1.snd.fst : Int).toNat : Int))) ∧ True) ∧
                                         (some (Blk.fix (D.arr IntKind.u64 (8 : Nat) x_1.snd.snd)) = some (Blk.fix (D.arr IntKind.u64 (8 : Nat) x_1.snd.snd)) ∧ some (Blk.fix (D.arr IntKind.u64 (4 : Nat) [(0 : Int), (0 : Int), (0 : Int), (0 : Int)])) = some (Blk.fix (D.arr IntKind.u64 (4 : Nat) [(0 : Int), (0 : Int), (0 : Int), (0 : Int)])) ∧ True) ∧
                                          true = true) ∧
                                        OutK (IntKind.i64.wrap ((↑x.fst : Int) + (4 : Int))).toNat (↑x_1.snd.fst : Int).toNat x_1.snd.snd (IntKind.i64.wrap ((↑x.fst : Int) + (4 : Int))).toNat (↑x_1.snd.fst : Int).toNat x_1.snd.snd) ∧
                                       ∀ (x_2 : Nat × Nat × List Int),
                                        OutK (IntKind.i64.wrap ((↑x.fst : Int) + (4 : Int))).toNat (↑x_1.snd.fst : Int).toNat x_1.snd.snd x_2.fst x_2.snd.fst x_2.snd.snd →
                                         true = true ∧
                                          True ∧
                                           True ∧
                                            match decide ((↑x_2.fst : Int) < (8 : Int)) with
                                            | true =>
                                             True ∧
                                              True ∧
                                               ((0 : Int) ≤ (↑x_2.fst : Int) ∧ (↑x_2.fst : Int) < (↑(8 : Nat) : Int) ∧ (8 : Nat) = (8 : Nat) ∧ (1 : Nat) = (1 : Nat)) ∧
                                                ((1 : Nat) ≠ (0 : Nat) ∧ (1 : Nat) = (1 : Nat) ∧ false = false) ∧
                                                 True ∧
                                                  (∃ (x : Nat),
                                                    ∃ (y : Nat),
                                                     ∃ (b : Nat),
                                                      [D.val (Value.int IntKind.u64 (x_2.snd.snd.getD (↑x_2.fst : Int).toNat (0 : Int))), D.val (Value.int IntKind.u64 (↑x_2.snd.fst : Int)), D.val (Value.int IntKind.u64 (0 : Int))] =
                                                        [D.val (Value.int IntKind.u64 (↑x : Int)), D.val (Value.int IntKind.u64 (↑y : Int)), D.val (Value.int IntKind.u64 (↑b : Int))] ∧
                                                       x < (18446744073709551616 : Nat) ∧ y < (18446744073709551616 : Nat) ∧ b ≤ (1 : Nat)) ∧
                                                   True ∧
                                                    ((0 : Nat) < (2 : Nat) ∧ false = false) ∧
                                                     ((1 : Nat) < (2 : Nat) ∧ false = false) ∧
                                                      ((0 : Int) ≤ (↑x_2.fst : Int) ∧ (↑x_2.fst : Int) < (↑(8 : Nat) : Int) ∧ (8 : Nat) = (8 : Nat) ∧ (1 : Nat) = (1 : Nat)) ∧
                                                       (((↑x_2.fst : Int).toNat < (8 : Nat) ∧ ([] : List Nat) = [] ∧ true = true) ∧ (1 : Nat) ≠ (0 : Nat) ∧ (1 : Nat) = (1 : Nat) ∧ false = false) ∧
                                                        True ∧
                                                         True ∧
                                                          True ∧
                                                           True ∧
                                                            ((AV.d (D.val (Value.int IntKind.i64 (IntKind.i64.wrap ((↑x_2.fst : Int) + (1 : Int))))) = AV.d (D.val (Value.int IntKind.i64 (↑(IntKind.i64.wrap ((↑x_2.fst : Int) + (1 : Int))).toNat : Int))) ∧
                                                               AV.d (D.val (Value.int IntKind.u64 (↑(adc (x_2.snd.snd.getD (↑x_2.fst : Int).toNat (0 : Int)).toNat (↑x_2.snd.fst : Int).toNat (0 : Nat)) : Int))) =
                                                                 AV.d (D.val (Value.int IntKind.u64 (↑(↑(adc (x_2.snd.snd.getD (↑x_2.fst : Int).toNat (0 : Int)).toNat (↑x_2.snd.fst : Int).toNat (0 : Nat)) : Int).toNat : Int))) ∧
                                                                True) ∧
                                                              (some (Blk.fix (D.arr IntKind.u64 (8 : Nat) (x_2.snd.snd.set (↑x_2.fst : Int).toNat (↑(adl (x_2.snd.snd.getD (↑x_2.fst : Int).toNat (0 : Int)).toNat (↑x_2.snd.fst : Int).toNat (0 : Nat)) : Int)))) =
                                                                 some (Blk.fix (D.arr IntKind.u64 (8 : Nat) (x_2.snd.snd.set (↑x_2.fst : Int).toNat (↑(adl (x_2.snd.snd.getD (↑x_2.fst : Int).toNat (0 : Int)).toNat (↑x_2.snd.fst : Int).toNat (0 : Nat)) : Int)))) ∧
                                                                some (Blk.fix (D.arr IntKind.u64 (4 : Nat) [(0 : Int), (0 : Int), (0 : Int), (0 : Int)])) = some (Blk.fix (D.arr IntKind.u64 (4 : Nat) [(0 : Int), (0 : Int), (0 : Int), (0 : Int)])) ∧ True) ∧
                                                               true = true) ∧
                                                             OutK (IntKind.i64.wrap ((↑x.fst : Int) + (4 : Int))).toNat (↑x_1.snd.fst : Int).toNat x_1.snd.snd (IntKind.i64.wrap ((↑x_2.fst : Int) + (1 : Int))).toNat (↑(adc (x_2.snd.snd.getD (↑x_2.fst : Int).toNat (0 : Int)).toNat (↑x_2.snd.fst : Int).toNat (0 : Nat)) : Int).toNat
                                                               (x_2.snd.snd.set (↑x_2.fst : Int).toNat (↑(adl (x_2.snd.snd.getD (↑x_2.fst : Int).toNat (0 : Int)).toNat (↑x_2.snd.fst : Int).toNat (0 : Nat)) : Int)) ∧
                                                              (8 : Nat) - (IntKind.i64.wrap ((↑x_2.fst : Int) + (1 : Int))).toNat < (8 : Nat) - x_2.fst
                                            | false =>
                                             True ∧
                                              True ∧
                                               True ∧
                                                True ∧
                                                 True ∧
                                                  True ∧
                                                   ((AV.d (D.val (Value.int IntKind.i64 (IntKind.i64.wrap ((↑x.fst : Int) + (1 : Int))))) = AV.d (D.val (Value.int IntKind.i64 (↑(IntKind.i64.wrap ((↑x.fst : Int) + (1 : Int))).toNat : Int))) ∧
                                                      AV.d (D.val (Value.int IntKind.u64 (IntKind.u64.wrap ((↑x.snd.fst : Int) + (↑x_2.snd.fst : Int))))) = AV.d (D.val (Value.int IntKind.u64 (↑(IntKind.u64.wrap ((↑x.snd.fst : Int) + (↑x_2.snd.fst : Int))).toNat : Int))) ∧ True) ∧
                                                     (some (Blk.fix (D.arr IntKind.u64 (8 : Nat) x_2.snd.snd)) = some (Blk.fix (D.arr IntKind.u64 (8 : Nat) x_2.snd.snd)) ∧
                                                       some (Blk.fix (D.arr IntKind.u64 (4 : Nat) [(0 : Int), (0 : Int), (0 : Int), (0 : Int)])) = some (Blk.fix (D.arr IntKind.u64 (4 : Nat) [(0 : Int), (0 : Int), (0 : Int), (0 : Int)])) ∧ True) ∧
                                                      true = true) ∧
                                                    ((IntKind.i64.wrap ((↑x.fst : Int) + (1 : Int))).toNat ≤ (4 : Nat) ∧ OutI l t (IntKind.i64.wrap ((↑x.fst : Int) + (1 : Int))).toNat (IntKind.u64.wrap ((↑x.snd.fst : Int) + (↑x_2.snd.fst : Int))).toNat x_2.snd.snd) ∧
                                                     (4 : Nat) - (IntKind.i64.wrap ((↑x.fst : Int) + (1 : Int))).toNat < (4 : Nat) - x.fst
           | false =>
            ((8 : Nat) ≠ (0 : Nat) ∧ (8 : Nat) = (8 : Nat) ∧ true = true) ∧
             (∃ (l : List Int), [D.arr IntKind.u64 (8 : Nat) x.snd.snd] = [D.arr IntKind.u64 (8 : Nat) l] ∧ l.length = (8 : Nat)) ∧
              (True ∧ (4 : Nat) ≠ (0 : Nat)) ∧
               (Sk.arr (4 : Nat) = Sk.arr (4 : Nat) ∧ (4 : Nat) ≠ (0 : Nat) ∧ (4 : Nat) = (4 : Nat) ∧ false = false) ∧
                True ∧
                 True ∧
                  match decide ((↑x.snd.fst : Int) > (0 : Int)) with
                  | true =>
                   ((4 : Nat) ≠ (0 : Nat) ∧ (4 : Nat) = (4 : Nat) ∧ true = true) ∧
                    True ∧
                     True ∧
                      (Sk.st [Sk.arr (4 : Nat), Sk.arr (4 : Nat), Sk.arr (4 : Nat), Sk.one] = Sk.st [Sk.arr (4 : Nat), Sk.arr (4 : Nat), Sk.arr (4 : Nat), Sk.one] ∧ (0 : Nat) < (4 : Nat)) ∧
                       ((4 : Nat) ≠ (0 : Nat) ∧ (4 : Nat) = (4 : Nat) ∧ true = true) ∧
                        (∃ (l_1 : List Int), ∃ (m : List Int), [D.arr IntKind.u64 (4 : Nat) (List.drop (4 : Nat) x.snd.snd), D.arr IntKind.u64 (4 : Nat) l] = [D.arr IntKind.u64 (4 : Nat) l_1, D.arr IntKind.u64 (4 : Nat) m] ∧ (okw l_1 ∧ l_1.length = (4 : Nat)) ∧ okw m ∧ m.length = (4 : Nat)) ∧
                         True ∧
                          ((0 : Nat) < (2 : Nat) ∧ false = false) ∧
                           ((1 : Nat) < (2 : Nat) ∧ false = false) ∧
                            (Sk.arr (4 : Nat) = Sk.arr (4 : Nat) ∧ (4 : Nat) ≠ (0 : Nat) ∧ (4 : Nat) = (4 : Nat) ∧ false = false) ∧
                             True ∧
                              ((4 : Nat) ≠ (0 : Nat) ∧ (4 : Nat) = (4 : Nat) ∧ true = true) ∧
                               (∃ (l_1 : List Int),
                                 ∃ (a : List Int),
                                  [(D.st [D.arr IntKind.u64 (4 : Nat) l, D.arr IntKind.u64 (4 : Nat) (rgO (vB (18446744073709551616 : Nat) l)), D.arr IntKind.u64 (4 : Nat) (rgS (vB (18446744073709551616 : Nat) l)), D.val (Value.int IntKind.u64 (↑(rgI (vB (18446744073709551616 : Nat) l)) : Int))]).ref,
                                     D.arr IntKind.u64 (4 : Nat) (nB (18446744073709551616 : Nat) (4 : Nat) (dif (vB (18446744073709551616 : Nat) (List.drop (4 : Nat) x.snd.snd)) (vB (18446744073709551616 : Nat) l)))] =
                                    [(D.st [D.arr IntKind.u64 (4 : Nat) l_1, D.arr IntKind.u64 (4 : Nat) (rgO (vB (18446744073709551616 : Nat) l_1)), D.arr IntKind.u64 (4 : Nat) (rgS (vB (18446744073709551616 : Nat) l_1)), D.val (Value.int IntKind.u64 (↑(rgI (vB (18446744073709551616 : Nat) l_1)) : Int))]).ref, D.arr IntKind.u64 (4 : Nat) a] ∧
                                   rgOk l_1 ∧ isN a) ∧
                                (Sk.arr (4 : Nat) = Sk.arr (4 : Nat) ∧ (4 : Nat) ≠ (0 : Nat) ∧ (4 : Nat) = (4 : Nat) ∧ false = false) ∧
                                 (((4 : Nat) ≠ (0 : Nat) ∧ (4 : Nat) = (4 : Nat) ∧ true = true) ∧ True) ∧
                                  D.arr IntKind.u64 (4 : Nat) (nB (18446744073709551616 : Nat) (4 : Nat) (vB (18446744073709551616 : Nat) (nB (18446744073709551616 : Nat) (4 : Nat) (dif (vB (18446744073709551616 : Nat) (List.drop (4 : Nat) x.snd.snd)) (vB (18446744073709551616 : Nat) l))) % vB (18446744073709551616 : Nat) l)) = F
                  | false =>
                   True ∧
                    ((4 : Nat) ≠ (0 : Nat) ∧ (4 : Nat) = (4 : Nat) ∧ true = true) ∧
                     (∃ (l_1 : List Int),
                       ∃ (a : List Int),
                        [(D.st [D.arr IntKind.u64 (4 : Nat) l, D.arr IntKind.u64 (4 : Nat) (rgO (vB (18446744073709551616 : Nat) l)), D.arr IntKind.u64 (4 : Nat) (rgS (vB (18446744073709551616 : Nat) l)), D.val (Value.int IntKind.u64 (↑(rgI (vB (18446744073709551616 : Nat) l)) : Int))]).ref, D.arr IntKind.u64 (4 : Nat) (List.drop (4 : Nat) x.snd.snd)] =
                          [(D.st [D.arr IntKind.u64 (4 : Nat) l_1, D.arr IntKind.u64 (4 : Nat) (rgO (vB (18446744073709551616 : Nat) l_1)), D.arr IntKind.u64 (4 : Nat) (rgS (vB (18446744073709551616 : Nat) l_1)), D.val (Value.int IntKind.u64 (↑(rgI (vB (18446744073709551616 : Nat) l_1)) : Int))]).ref, D.arr IntKind.u64 (4 : Nat) a] ∧
                         rgOk l_1 ∧ isN a) ∧
                      (Sk.arr (4 : Nat) = Sk.arr (4 : Nat) ∧ (4 : Nat) ≠ (0 : Nat) ∧ (4 : Nat) = (4 : Nat) ∧ false = false) ∧ (((4 : Nat) ≠ (0 : Nat) ∧ (4 : Nat) = (4 : Nat) ∧ true = true) ∧ True) ∧ D.arr IntKind.u64 (4 : Nat) (nB (18446744073709551616 : Nat) (4 : Nat) (vB (18446744073709551616 : Nat) (List.drop (4 : Nat) x.snd.snd) % vB (18446744073709551616 : Nat) l)) = F) := by kernel_rfl

end Go.Proofs.Ytkicjckhkefnpaa
/- The ring of package ring: the law of Out: plain numbers. -/
namespace Go.Proofs.Ytkicjckhkefnpaa
open Go Go.Vg

theorem mm (a b M : Nat) : a % M * b % M = a * b % M := by rw [Nat.mul_mod, Nat.mod_mod, ← Nat.mul_mod]
theorem mm2 (a b M : Nat) : a * (b % M) % M = a * b % M := by rw [Nat.mul_mod, Nat.mod_mod, ← Nat.mul_mod]
theorem inv_of {A M : Nat} (hM : 1 < M) (ht : M < 2 ^ 256) (hg : Nat.gcd A M = 1) : invN A M < M ∧ A * invN A M % M = 1 :=
  invN_spec (inv_ex (A := A) (M := M) (A % M) _ _ _ _ (Nat.le_refl _) (inv_start (by omega) ht) hg)
theorem odd_co {M : Nat} (h : M % 2 = 1) (n : Nat) : Nat.gcd (2 ^ n) M = 1 := by
  have h2 : Nat.Coprime 2 M := by
    unfold Nat.Coprime
    rw [Nat.gcd_rec, h]
    exact Nat.gcd_one_left 2
  exact h2.pow_left n
theorem redc_lt {T M : Nat} (h : 0 < M) : redc T M < M := Nat.mod_lt _ h
theorem rg_inv {M : Nat} (h1 : 1 < M) (h2 : M < 2 ^ 256) (ho : M % 2 = 1) : 2 ^ 256 * invN (2 ^ 256 % M) M % M = 1 := by
  have hg : Nat.gcd (2 ^ 256 % M) M = 1 := by
    rw [← Nat.gcd_rec, Nat.gcd_comm]
    exact odd_co ho 256
  have := (inv_of h1 h2 hg).2
  rw [mm] at this
  exact this
theorem redc_mul {T M : Nat} (h1 : 1 < M) (h2 : M < 2 ^ 256) (ho : M % 2 = 1) : redc T M * 2 ^ 256 % M = T % M := by
  have h := rg_inv h1 h2 ho
  unfold redc
  generalize (2 : Nat) ^ 256 = R at h ⊢
  rw [mm, Nat.mul_assoc, Nat.mul_comm _ R, ← mm2, h, Nat.mul_one]
theorem redc_eq {T M y : Nat} (h1 : 1 < M) (h2 : M < 2 ^ 256) (ho : M % 2 = 1) (hy : y < M) (he : y * 2 ^ 256 % M = T % M) : y = redc T M := by
  have h := rg_inv h1 h2 ho
  unfold redc
  generalize hR : (2 : Nat) ^ 256 = R at h he ⊢
  rw [← mm, ← he, mm, Nat.mul_assoc, ← mm2, h, Nat.mul_one, Nat.mod_eq_of_lt hy]
theorem rgI_ok {M : Nat} (ho : M % 2 = 1) : rgI M < B64 ∧ (rgI M * M + 1) % B64 = 0 := by
  have hg : Nat.gcd (M % B64) B64 = 1 := by
    rw [Nat.gcd_comm]
    exact odd_co (show M % 18446744073709551616 % 2 = 1 by omega) 64
  obtain ⟨a, b⟩ := inv_of (A := M % B64) (M := B64) (by decide) (by decide) hg
  unfold rgI
  generalize invN (M % B64) B64 = u at a b
  refine ⟨Nat.mod_lt _ (by decide), ?_⟩
  have hu : 0 < u := by
    rcases Nat.eq_zero_or_pos u with h | h
    · rw [h] at b; simp at b
    · exact h
  rw [Nat.mod_eq_of_lt (show B64 - u < B64 by omega)]
  rw [mm] at b
  have e : ((B64 - u) * M + M * u) % B64 = 0 := by
    rw [Nat.mul_comm M u, ← Nat.add_mul, Nat.sub_add_cancel (by omega)]
    exact Nat.mul_mod_right _ _
  rw [← Nat.div_add_mod (M * u) B64, b, ← Nat.add_assoc, Nat.add_right_comm, Nat.add_mul_mod_self_left] at e
  exact e

theorem outI_start {l t : List Int} (ht : is8 t) : OutI l t 0 0 t := ⟨ht.2, ht.1, ⟨0, by decide, by simp⟩, by simp⟩
theorem outJ_start {l t L : List Int} {i o k : Nat} (h : OutI l t i o L) : OutJ l i k L 0 0 L := ⟨h.len, h.ok, by decide, by simp [vB]⟩
theorem outJ_step {l L0 L : List Int} (hl : isN l) {i k j c : Nat} (h : OutJ l i k L0 j c L) (hi : i < 4) (hj : j < 4) (hk : k < 18446744073709551616) :
    ∃ b o : Nat, l.getD j 0 = (b : Int) ∧ L.getD (i + j) 0 = (o : Int) ∧ b < 18446744073709551616 ∧ o < 18446744073709551616 ∧
      OutJ l i k L0 (j + 1) (stH k b o c) (L.set (i + j) ((stL k b o c : Nat) : Int)) := by
  obtain ⟨b, eb, hb⟩ := okw_get hl.1 (i := j) (by have := hl.2; omega)
  obtain ⟨o, eo, ho⟩ := okw_get h.ok (i := i + j) (by have := h.len; omega)
  refine ⟨b, o, eb, eo, hb, ho, ?_⟩
  have hq := sq_leB hk hb
  have hc := h.car
  have s3 := (step_eq (k * b) o c hq ho hc).2.2
  have sL : stL k b o c < 18446744073709551616 := Nat.mod_lt _ (by decide)
  have hv := vB_set (b := 18446744073709551616) L (i + j) ((stL k b o c : Nat) : Int) (by have := h.len; omega)
  have ht := vB_take1 (b := 18446744073709551616) (l := l) j (by have := hl.2; omega)
  have hval := h.val
  refine ⟨by simp [h.len], okw_set h.ok sL, s3, ?_⟩
  rw [eo, Int.toNat_natCast, Int.toNat_natCast] at hv
  rw [eb, Int.toNat_natCast] at ht
  unfold wv at hval ⊢
  rw [ht, Nat.mul_add, Nat.mul_add, Nat.mul_left_comm k (18446744073709551616 ^ j), ← Nat.mul_assoc (18446744073709551616 ^ i) (18446744073709551616 ^ j), ← Nat.pow_add]
  rw [show i + (j + 1) = (i + j) + 1 by omega, Nat.pow_succ]
  generalize 18446744073709551616 ^ (i + j) = B at hv hval ⊢
  have e : B * stL k b o c + B * 18446744073709551616 * stH k b o c = B * (k * b) + B * o + B * c := by
    rw [Nat.mul_assoc, ← Nat.mul_add, ← Nat.mul_add, ← Nat.mul_add]
    congr 1
    unfold stL stH
    exact Nat.mod_add_div _ _
  omega
theorem outK_start {l L0 L : List Int} {i k c : Nat} (h : OutJ l i k L0 4 c L) (hi : i < 4) : OutK (i + 4) c L (i + 4) c L := ⟨h.len, h.ok, h.car, by omega, rfl⟩
theorem outK_step {L0 L : List Int} {j0 c0 j c : Nat} (h : OutK j0 c0 L0 j c L) (hj : j < 8) :
    ∃ o : Nat, L.getD j 0 = (o : Int) ∧ o < 18446744073709551616 ∧ OutK j0 c0 L0 (j + 1) (adc o c 0) (L.set j ((adl o c 0 : Nat) : Int)) := by
  obtain ⟨o, eo, ho⟩ := okw_get h.ok (i := j) (by have := h.len; omega)
  have hc := h.car
  have sL : adl o c 0 < 18446744073709551616 := Nat.mod_lt _ (by decide)
  have hv := vB_set (b := 18446744073709551616) L j ((adl o c 0 : Nat) : Int) (by have := h.len; omega)
  have hval := h.val
  refine ⟨o, eo, ho, by simp [h.len], okw_set h.ok sL, ?_, by have := h.le; omega, ?_⟩
  · have ho : o < 18446744073709551616 := ho
    show (o + c + 0) / 18446744073709551616 < 18446744073709551616
    omega
  rw [eo, Int.toNat_natCast, Int.toNat_natCast] at hv
  unfold wv at hval ⊢
  rw [Nat.pow_succ]
  generalize 18446744073709551616 ^ j = B at hv hval ⊢
  have e : B * adl o c 0 + B * 18446744073709551616 * adc o c 0 = B * o + B * c := by
    rw [Nat.mul_assoc, ← Nat.mul_add, ← Nat.mul_add]
    congr 1
    unfold adl adc
    exact Nat.mod_add_div _ _
  omega

theorem dig_of {L : List Int} (hL : okw L) {i o : Nat} (hi : i < L.length) (ho : L.getD i 0 = (o : Int)) : wv L / 18446744073709551616 ^ i % 18446744073709551616 = o := by
  have e := vB_take1 (b := 18446744073709551616) (l := L) i hi
  have e2 := vB_append 18446744073709551616 (L.take (i + 1)) (L.drop (i + 1))
  rw [List.take_append_drop, List.length_take, show min (i + 1) L.length = i + 1 by omega] at e2
  have hlt := vB_lt (b := 18446744073709551616) (l := L.take i) fun z hz => hL z (List.mem_of_mem_take hz)
  rw [List.length_take, show min i L.length = i by omega] at hlt
  obtain ⟨o', eo', ho'⟩ := okw_get hL hi
  rw [ho] at eo'
  obtain rfl : o = o' := by omega
  rw [ho, Int.toNat_natCast] at e
  unfold wv
  rw [e2, e, Nat.pow_succ, Nat.mul_assoc, Nat.add_assoc, ← Nat.mul_add]
  rw [Nat.add_mul_div_left _ _ (Nat.pow_pos (by decide)), Nat.div_eq_of_lt hlt, Nat.zero_add, Nat.add_mul_mod_self_left]
  exact Nat.mod_eq_of_lt ho'

theorem out_next {l t L L1 L2 : List Int} (hl : rgOk l) (ht : is8 t) {i o c c2 a : Nat} (h : OutI l t i o L) (hi : i < 4) (ea : L.getD i 0 = (a : Int))
    (hJ : OutJ l i (a * rgI (wv l) % 18446744073709551616) L 4 c L1) (hK : OutK (i + 4) c L1 8 c2 L2) : OutI l t (i + 1) (o + c2) L2 := by
  have v1 := hJ.val
  have v2 := hK.val
  obtain ⟨Q, hQ, v0⟩ := h.val
  rw [List.take_of_length_le (by have := hl.1.2; omega)] at v1
  generalize hk : a * rgI (wv l) % 18446744073709551616 = k at v1 hJ
  have hkB : k < 18446744073709551616 := by rw [← hk]; exact Nat.mod_lt _ (by decide)
  have hd := dig_of h.ok (by have := h.len; omega) ea
  obtain ⟨W, hW⟩ := h.low
  rw [hW, Nat.mul_div_cancel_left _ (Nat.pow_pos (by decide))] at hd
  have hsum : wv L2 + 18446744073709551616 ^ 8 * c2 = wv L + 18446744073709551616 ^ i * (k * wv l) := by omega
  refine ⟨hK.len, hK.ok, ⟨Q + k * 18446744073709551616 ^ i, ?_, ?_⟩, ?_⟩
  · rw [Nat.pow_succ]
    have : k * 18446744073709551616 ^ i ≤ 18446744073709551615 * 18446744073709551616 ^ i := Nat.mul_le_mul_right _ (by omega)
    omega
  · have e : 18446744073709551616 ^ i * (k * wv l) = k * 18446744073709551616 ^ i * wv l := by rw [← Nat.mul_assoc, Nat.mul_comm (18446744073709551616 ^ i) k]
    rw [Nat.add_mul Q, Nat.add_mul o, ← e]
    rw [Nat.mul_comm (18446744073709551616 ^ 8) c2] at hsum
    generalize (18446744073709551616 : Nat) ^ 8 = E at hsum v0 ⊢
    generalize 18446744073709551616 ^ i * (k * wv l) = G at hsum ⊢
    rw [← Nat.add_assoc (wv t), ← v0]
    omega
  · have hz : (W + k * wv l) % 18446744073709551616 = 0 := by
      have hr := (rgI_ok hl.2.1).2
      have e1 : (W + k * wv l) % B64 = (a + a * rgI (wv l) * wv l) % B64 := by
        rw [← hk, Nat.add_mod, hd, mm, ← Nat.add_mod_mod, Nat.mod_mod, Nat.add_mod_mod]
      rw [e1, Nat.mul_assoc, show a + a * (rgI (wv l) * wv l) = a * (rgI (wv l) * wv l + 1) by rw [Nat.mul_add, Nat.mul_one, Nat.add_comm], ← mm2, hr, Nat.mul_zero, Nat.zero_mod]
    rw [hW, ← Nat.mul_add] at hsum
    obtain ⟨Z, hZ⟩ := Nat.dvd_of_mod_eq_zero hz
    rw [hZ, ← Nat.mul_assoc, ← Nat.pow_succ] at hsum
    have h8 : 18446744073709551616 ^ (i + 1) ∣ 18446744073709551616 ^ 8 * c2 := Nat.dvd_trans (Nat.pow_dvd_pow _ (by omega)) (Nat.dvd_mul_right _ _)
    exact (Nat.dvd_add_iff_left h8).2 (by rw [hsum]; exact Nat.dvd_mul_right _ _)

theorem out_o {l t L : List Int} (hl : rgOk l) (ht : is8 t) {i o : Nat} (h : OutI l t i o L) (hi : i ≤ 4) : o ≤ 1 := by
  obtain ⟨Q, hQ, v0⟩ := h.val
  have hT := vB_lt (b := 18446744073709551616) ht.1
  rw [ht.2] at hT
  have hM := wv_lt hl.1.1 hl.1.2
  have hQ4 : Q < 18446744073709551616 ^ 4 := Nat.lt_of_lt_of_le hQ (Nat.pow_le_pow_right (by decide) hi)
  have hQM : Q * wv l < 18446744073709551616 ^ 8 := by
    have := Nat.mul_lt_mul'' hQ4 hM
    exact Nat.lt_of_lt_of_le this (by decide)
  unfold wv at v0 hQM
  have : o * 18446744073709551616 ^ 8 < 2 * 18446744073709551616 ^ 8 := by omega
  have := Nat.lt_of_mul_lt_mul_right this
  omega

theorem out_end {l t L : List Int} (hl : rgOk l) (ht : is8 t) {o : Nat} (h : OutI l t 4 o L) :
    isN (L.drop 4) ∧ (o = 0 → wv (L.drop 4) % wv l = redc (wv t) (wv l)) ∧ (0 < o → dif (wv (L.drop 4)) (wv l) % wv l = redc (wv t) (wv l)) := by
  have ho := out_o hl ht h (Nat.le_refl _)
  have hN : isN (L.drop 4) := ⟨fun x hx => h.ok x (List.mem_of_mem_drop hx), by rw [List.length_drop, h.len]⟩
  refine ⟨hN, ?_⟩
  have hH := wv_lt hN.1 hN.2
  obtain ⟨Q, hQ, v0⟩ := h.val
  have e2 := vB_append 18446744073709551616 (L.take 4) (L.drop 4)
  rw [List.take_append_drop, List.length_take, h.len, show min 4 8 = 4 from rfl] at e2
  have hlt := vB_lt (b := 18446744073709551616) (l := L.take 4) fun z hz => h.ok z (List.mem_of_mem_take hz)
  rw [List.length_take, h.len, show min 4 8 = 4 from rfl] at hlt
  have hlow : vB 18446744073709551616 (L.take 4) = 0 := by
    obtain ⟨Z, hZ⟩ := h.low
    unfold wv at hZ
    rw [e2] at hZ
    have : vB 18446744073709551616 (L.take 4) % 18446744073709551616 ^ 4 = 0 := by
      rw [← Nat.add_mul_mod_self_left _ (18446744073709551616 ^ 4) (vB 18446744073709551616 (L.drop 4)), hZ]
      exact Nat.mul_mod_right _ _
    rwa [Nat.mod_eq_of_lt hlt] at this
  rw [hlow, Nat.zero_add] at e2
  have hM := wv_lt hl.1.1 hl.1.2
  have h1 := hl.2.2
  have hT := vB_lt (b := 18446744073709551616) ht.1
  rw [ht.2] at hT
  have eU : (wv (L.drop 4) + o * 2 ^ 256) * 2 ^ 256 = wv t + Q * wv l := by
    rw [← v0, Nat.add_mul]
    unfold wv
    rw [e2, Nat.mul_comm (18446744073709551616 ^ 4), Nat.mul_assoc o]
  have key : ∀ U, U * 2 ^ 256 = wv t + Q * wv l → U % wv l = redc (wv t) (wv l) := by
    intro U hU
    refine redc_eq h1 hM hl.2.1 (Nat.mod_lt _ (by omega)) ?_
    rw [mm, hU, Nat.add_mul_mod_self_right]
  refine ⟨fun h0 => key _ (by rw [← eU, h0, Nat.zero_mul, Nat.add_zero]), fun h0 => ?_⟩
  obtain rfl : o = 1 := by omega
  have hUM : wv (L.drop 4) + 2 ^ 256 < 2 ^ 256 + wv l := by
    have hQM : Q * wv l < 2 ^ 256 * wv l := Nat.mul_lt_mul_of_pos_right hQ (by omega)
    have hT' : wv t < 2 ^ 256 * 2 ^ 256 := hT
    have : (wv (L.drop 4) + 1 * 2 ^ 256) * 2 ^ 256 < (2 ^ 256 + wv l) * 2 ^ 256 := by
      rw [eU, Nat.add_mul, Nat.mul_comm (wv l)]
      exact Nat.add_lt_add hT' hQM
    have := Nat.lt_of_mul_lt_mul_right this
    rwa [Nat.one_mul] at this
  have ed : dif (wv (L.drop 4)) (wv l) + wv l = wv (L.drop 4) + 1 * 2 ^ 256 := by
    unfold dif
    rw [Nat.mod_eq_of_lt (by omega)]
    omega
  have := key _ eU
  rw [← ed, Nat.add_mod_right] at this
  exact this

end Go.Proofs.Ytkicjckhkefnpaa
