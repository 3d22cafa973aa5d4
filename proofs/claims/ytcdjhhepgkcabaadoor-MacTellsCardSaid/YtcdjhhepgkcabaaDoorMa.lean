import Derived.Test.YtcdjhhepgkcabaaDoorHl2
/- package mac and its reference. -/
namespace Go.Proofs.YtcdjhhepgkcabaaDoor
open Go Go.Vg

structure MS where
  i : HS
  o : HS
abbrev stM (s : MS) : D := .st [stD s.i, stD s.o]
def ofM (d : D) : MS := ⟨ofS (fldOf d 0), ofS (fldOf d 1)⟩
def keyL (k : List Int) : List Int := if 64 < k.length then digL k else k
def padK (k : List Int) : List Int := keyL k ++ List.replicate (64 - (keyL k).length) 0
def xK (k : List Int) (c : Nat) : List Int := (padK k).map fun z => ((z.toNat ^^^ c : Nat) : Int)
def mNew (k : List Int) : MS := ⟨wrS st0 (xK k 54), wrS st0 (xK k 92)⟩
def mWr (s : MS) (p : List Int) : MS := ⟨wrS s.i p, s.o⟩
def mSum (s : MS) : List Int := sumL (wrS s.o (sumL s.i))
def mkL (k p : List Int) : List Int := digL (xK k 92 ++ digL (xK k 54 ++ p))
def okM (s : MS) : Prop := okS s.i ∧ okS s.o
def isB (p : List Int) : Prop := isBytes p ∧ p.length ≤ 1000000000000000
def sp19 : Go.Vg.Spec := ⟨fun ds => ∃ k, ds = [.ints .u8 k] ∧ isB k, fun ds => stM (mNew (intsOf (ds.headD default))), true, [22]⟩
def sp20 : Go.Vg.Spec := ⟨fun ds => ∃ s p, ds = [stM s, .ints .u8 p] ∧ okM s ∧ isB p, fun ds => stM (mWr (ofM (ds.headD default)) (intsOf (ds.getD 1 default))), true, [48, 22]⟩
def sp23 : Go.Vg.Spec := ⟨fun ds => ∃ s, ds = [stM s] ∧ okM s, fun ds => d32 (mSum (ofM (ds.headD default))), true, [48]⟩
def sp21 : Go.Vg.Spec := ⟨fun ds => ∃ k p, ds = [.ints .u8 k, .ints .u8 p] ∧ isB k ∧ isB p, fun ds => d32 (mkL (intsOf (ds.headD default)) (intsOf (ds.getD 1 default))), true, [22, 22]⟩
def sp22 : Go.Vg.Spec := ⟨fun ds => ∃ k p, ds = [.str k, .str p] ∧ isB k ∧ isBytes p ∧ p.length ≤ 500000000000000, fun ds => d32 (mkL (strOf (ds.headD default)) (strOf (ds.getD 1 default))), true, [9, 9]⟩
noncomputable def sp24 : Go.Vg.Spec := ⟨fun ds => ∃ a b, ds = [.ints .u8 a, .ints .u8 b] ∧ isB a ∧ isB b, fun ds => .val (.bool (eqB (intsOf (ds.headD default)) (intsOf (ds.getD 1 default)))), true, [22, 22]⟩
def c19 : Ctx := ⟨tab, lkS [(7, sp7), (8, sp8), (9, sp9)], [], []⟩
def c20 : Ctx := ⟨tab, lkS [(8, sp8)], [], []⟩
def c23 : Ctx := ⟨tab, lkS [(8, sp8), (13, sp13)], [], []⟩
def c21 : Ctx := ⟨tab, lkS [(19, sp19), (20, sp20), (23, sp23)], [], []⟩
def c22 : Ctx := ⟨tab, lkS [(10, sp10)], [], []⟩
def mixK (k : List Int) (c i : Nat) : List Int := (xK k c).take i ++ (padK k).drop i
def inv19 (k : List Int) : Nat → Option Inv
  | 8 => some ⟨Nat, fun i => [(17, .d (i64 i))], fun i => [(4, .fix (.arr .u8 64 (mixK k 54 i))), (5, .fix (.arr .u8 64 (mixK k 92 i)))], fun s => (slotN s 17).toNat, fun _ i => i ≤ 64, fun i => 64 - i⟩
  | _ => none
def inv22 (k : List Int) : Nat → Option Inv
  | 6 => some ⟨Nat, fun i => [(18, .d (i64 i)), (6, .d (.str ((xK k 54).take i))), (7, .d (.str ((xK k 92).take i)))], fun _ => [], fun s => (slotN s 18).toNat, fun _ i => i ≤ 64, fun i => 64 - i⟩
  | _ => none
def sameI (a b : List Int) (i d : Nat) : Prop := i ≤ Nat.min a.length b.length ∧ d < 9223372036854775808 ∧ (d = 0 ↔ a.length = b.length ∧ a.take i = b.take i)
def inv24 (a b : List Int) : Nat → Option Inv
  | 3 => some ⟨Nat × Nat, fun x => [(17, .d (i64 (x.1 : Int))), (5, .d (i64 (x.2 : Int)))], fun _ => [], fun s => ((slotN s 17).toNat, (slotN s 5).toNat), fun _ x => sameI a b x.1 x.2, fun x => a.length - x.1⟩
  | _ => none
--KEEP ofR BitVec.toNat prL pr Go.Proofs.YtcdjhhepgkcabaaDoor.R8.l wrS ofS okS padL fhK outL sumL fromL digL woL wl woI iv st0 rsS rsE wat fullL Go.Vg.eqB ofM xK mNew mWr mSum mkL padK mixK sameI okM isB
set_option maxRecDepth 100000 in
theorem vc19  (k : List Int) (F : D)  :
    (owed c19 (inv19 k) Tryd.f19 [.ints .u8 k] F) = (
 (True ∧ (146 : Nat) ≠ (0 : Nat)) ∧
   True ∧
    True ∧
     True ∧
      match decide ((↑k.length : Int) > (64 : Int)) with
      | true =>
       True ∧
        (∃ (p : List Int), [D.ints IntKind.u8 k] = [D.ints IntKind.u8 p] ∧ isBytes p ∧ p.length ≤ (1000000000000000 : Nat)) ∧
         (True ∧ (32 : Nat) ≠ (0 : Nat)) ∧
          (Sk.arr (32 : Nat) = Sk.arr (32 : Nat) ∧ (32 : Nat) ≠ (0 : Nat) ∧ (32 : Nat) = (32 : Nat) ∧ false = false) ∧
           ((0 : Int) ≤ (0 : Int) ∧ (0 : Int) ≤ (↑(32 : Nat) : Int) ∧ (↑(32 : Nat) : Int) ≤ (↑(32 : Nat) : Int) ∧ (32 : Nat) = (32 : Nat) ∧ (1 : Nat) = (1 : Nat)) ∧
            True ∧
             (True ∧ (64 : Nat) ≠ (0 : Nat)) ∧
              (True ∧ (64 : Nat) ≠ (0 : Nat)) ∧
               ((0 : Int) ≤ (0 : Int) ∧ (0 : Int) ≤ (↑(64 : Nat) : Int) ∧ (↑(64 : Nat) : Int) ≤ (↑(64 : Nat) : Int) ∧ (64 : Nat) = (64 : Nat) ∧ (1 : Nat) = (1 : Nat)) ∧
                True ∧
                 (IntKind.u8 = IntKind.u8 ∧ (1 : Nat) = (1 : Nat)) ∧
                  ((64 : Nat) ≠ (0 : Nat) ∧ (64 : Nat) = (64 : Nat) ∧ true = true) ∧
                   (Sk.arr (64 : Nat) = Sk.arr (64 : Nat) ∧ (64 : Nat) ≠ (0 : Nat) ∧ (64 : Nat) = (64 : Nat) ∧ false = false) ∧
                    True ∧
                     (((AV.d (D.val (Value.int IntKind.i64 (0 : Int))) = AV.d (D.val (Value.int IntKind.i64 (↑(Int.toNat (0 : Int)) : Int))) ∧ True) ∧
                        (some
                            (Blk.fix
                             (D.st
                              [D.st
                                [D.arr IntKind.u32 (8 : Nat) [(0 : Int), (0 : Int), (0 : Int), (0 : Int), (0 : Int), (0 : Int), (0 : Int), (0 : Int)], D.val (Value.int IntKind.u64 (0 : Int)),
                                 D.arr IntKind.u8 (64 : Nat)
                                  (List.replicate (64 : Nat) (0 : Int))],
                               D.st
                                [D.arr IntKind.u32 (8 : Nat) [(0 : Int), (0 : Int), (0 : Int), (0 : Int), (0 : Int), (0 : Int), (0 : Int), (0 : Int)], D.val (Value.int IntKind.u64 (0 : Int)),
                                 D.arr IntKind.u8 (64 : Nat)
                                  (List.replicate (64 : Nat) (0 : Int))]])) =
                           some
                            (Blk.fix
                             (D.st
                              [D.st
                                [D.arr IntKind.u32 (8 : Nat) [(0 : Int), (0 : Int), (0 : Int), (0 : Int), (0 : Int), (0 : Int), (0 : Int), (0 : Int)], D.val (Value.int IntKind.u64 (0 : Int)),
                                 D.arr IntKind.u8 (64 : Nat)
                                  (List.replicate (64 : Nat) (0 : Int))],
                               D.st
                                [D.arr IntKind.u32 (8 : Nat) [(0 : Int), (0 : Int), (0 : Int), (0 : Int), (0 : Int), (0 : Int), (0 : Int), (0 : Int)], D.val (Value.int IntKind.u64 (0 : Int)),
                                 D.arr IntKind.u8 (64 : Nat)
                                  (List.replicate (64 : Nat) (0 : Int))]])) ∧
                          some (Blk.fix (D.arr IntKind.u8 (32 : Nat) (digL k))) = some (Blk.fix (D.arr IntKind.u8 (32 : Nat) (digL k))) ∧
                           some
                              (Blk.fix
                               (D.arr IntKind.u8 (64 : Nat)
                                (List.take ((List.take ((↑(32 : Nat) : Int).toNat - (0 : Nat)) (List.drop (0 : Nat) (digL k))).length.min ((↑(64 : Nat) : Int).toNat - (0 : Nat))) (List.take ((↑(32 : Nat) : Int).toNat - (0 : Nat)) (List.drop (0 : Nat) (digL k))) ++
                                 List.drop ((0 : Nat) + (List.take ((↑(32 : Nat) : Int).toNat - (0 : Nat)) (List.drop (0 : Nat) (digL k))).length.min ((↑(64 : Nat) : Int).toNat - (0 : Nat)))
                                  (List.replicate (64 : Nat) (0 : Int))))) =
                             some (Blk.fix (D.arr IntKind.u8 (64 : Nat) (mixK k (54 : Nat) (Int.toNat (0 : Int))))) ∧
                            some
                               (Blk.fix
                                (D.arr IntKind.u8 (64 : Nat)
                                 (List.take ((List.take ((↑(32 : Nat) : Int).toNat - (0 : Nat)) (List.drop (0 : Nat) (digL k))).length.min ((↑(64 : Nat) : Int).toNat - (0 : Nat))) (List.take ((↑(32 : Nat) : Int).toNat - (0 : Nat)) (List.drop (0 : Nat) (digL k))) ++
                                  List.drop ((0 : Nat) + (List.take ((↑(32 : Nat) : Int).toNat - (0 : Nat)) (List.drop (0 : Nat) (digL k))).length.min ((↑(64 : Nat) : Int).toNat - (0 : Nat)))
                                   (List.replicate (64 : Nat) (0 : Int))))) =
                              some (Blk.fix (D.arr IntKind.u8 (64 : Nat) (mixK k (92 : Nat) (Int.toNat (0 : Int))))) ∧
                             True) ∧
                         true = true) ∧
                       Int.toNat (0 : Int) ≤ (64 : Nat)) ∧
                      ∀ (x : Nat),
                       x ≤ (64 : Nat) →
                        true = true ∧
                         True ∧
                          match decide ((↑x : Int) < (64 : Int)) with
                          | true =>
                           True ∧
                            True ∧
                             True ∧
                              ((0 : Int) ≤ (↑x : Int) ∧ (↑x : Int) < (↑(64 : Nat) : Int) ∧ (64 : Nat) = (64 : Nat) ∧ (1 : Nat) = (1 : Nat)) ∧
                               ((1 : Nat) ≠ (0 : Nat) ∧ (1 : Nat) = (1 : Nat) ∧ false = false) ∧
                                True ∧
                                 ((0 : Int) ≤ (↑x : Int) ∧ (↑x : Int) < (↑(64 : Nat) : Int) ∧ (64 : Nat) = (64 : Nat) ∧ (1 : Nat) = (1 : Nat)) ∧
                                  (((↑x : Int).toNat < (64 : Nat) ∧ ([] : List Nat) = [] ∧ true = true) ∧ (1 : Nat) ≠ (0 : Nat) ∧ (1 : Nat) = (1 : Nat) ∧ false = false) ∧
                                   True ∧
                                    ((0 : Int) ≤ (↑x : Int) ∧ (↑x : Int) < (↑(64 : Nat) : Int) ∧ (64 : Nat) = (64 : Nat) ∧ (1 : Nat) = (1 : Nat)) ∧
                                     ((1 : Nat) ≠ (0 : Nat) ∧ (1 : Nat) = (1 : Nat) ∧ false = false) ∧
                                      True ∧
                                       ((0 : Int) ≤ (↑x : Int) ∧ (↑x : Int) < (↑(64 : Nat) : Int) ∧ (64 : Nat) = (64 : Nat) ∧ (1 : Nat) = (1 : Nat)) ∧
                                        (((↑x : Int).toNat < (64 : Nat) ∧ ([] : List Nat) = [] ∧ true = true) ∧ (1 : Nat) ≠ (0 : Nat) ∧ (1 : Nat) = (1 : Nat) ∧ false = false) ∧
                                         True ∧
                                          True ∧
                                           ((AV.d (D.val (Value.int IntKind.i64 (IntKind.i64.wrap ((↑x : Int) + (1 : Int))))) = AV.d (D.val (Value.int IntKind.i64 (↑(IntKind.i64.wrap ((↑x : Int) + (1 : Int))).toNat : Int))) ∧ True) ∧
                                             (some
                                                 (Blk.fix
                                                  (D.st
                                                   [D.st
                                                     [D.arr IntKind.u32 (8 : Nat) [(0 : Int), (0 : Int), (0 : Int), (0 : Int), (0 : Int), (0 : Int), (0 : Int), (0 : Int)], D.val (Value.int IntKind.u64 (0 : Int)),
                                                      D.arr IntKind.u8 (64 : Nat)
                                                       (List.replicate (64 : Nat) (0 : Int))],
                                                    D.st
                                                     [D.arr IntKind.u32 (8 : Nat) [(0 : Int), (0 : Int), (0 : Int), (0 : Int), (0 : Int), (0 : Int), (0 : Int), (0 : Int)], D.val (Value.int IntKind.u64 (0 : Int)),
                                                      D.arr IntKind.u8 (64 : Nat)
                                                       (List.replicate (64 : Nat) (0 : Int))]])) =
                                                some
                                                 (Blk.fix
                                                  (D.st
                                                   [D.st
                                                     [D.arr IntKind.u32 (8 : Nat) [(0 : Int), (0 : Int), (0 : Int), (0 : Int), (0 : Int), (0 : Int), (0 : Int), (0 : Int)], D.val (Value.int IntKind.u64 (0 : Int)),
                                                      D.arr IntKind.u8 (64 : Nat)
                                                       (List.replicate (64 : Nat) (0 : Int))],
                                                    D.st
                                                     [D.arr IntKind.u32 (8 : Nat) [(0 : Int), (0 : Int), (0 : Int), (0 : Int), (0 : Int), (0 : Int), (0 : Int), (0 : Int)], D.val (Value.int IntKind.u64 (0 : Int)),
                                                      D.arr IntKind.u8 (64 : Nat)
                                                       (List.replicate (64 : Nat) (0 : Int))]])) ∧
                                               some (Blk.fix (D.arr IntKind.u8 (32 : Nat) (digL k))) = some (Blk.fix (D.arr IntKind.u8 (32 : Nat) (digL k))) ∧
                                                some (Blk.fix (D.arr IntKind.u8 (64 : Nat) ((mixK k (54 : Nat) x).set (↑x : Int).toNat (ixor IntKind.u8 ((mixK k (54 : Nat) x).getD (↑x : Int).toNat (0 : Int)) (54 : Int))))) = some (Blk.fix (D.arr IntKind.u8 (64 : Nat) (mixK k (54 : Nat) (IntKind.i64.wrap ((↑x : Int) + (1 : Int))).toNat))) ∧
                                                 some (Blk.fix (D.arr IntKind.u8 (64 : Nat) ((mixK k (92 : Nat) x).set (↑x : Int).toNat (ixor IntKind.u8 ((mixK k (92 : Nat) x).getD (↑x : Int).toNat (0 : Int)) (92 : Int))))) = some (Blk.fix (D.arr IntKind.u8 (64 : Nat) (mixK k (92 : Nat) (IntKind.i64.wrap ((↑x : Int) + (1 : Int))).toNat))) ∧ True) ∧
                                              true = true) ∧
                                            (IntKind.i64.wrap ((↑x : Int) + (1 : Int))).toNat ≤ (64 : Nat) ∧ (64 : Nat) - (IntKind.i64.wrap ((↑x : Int) + (1 : Int))).toNat < (64 : Nat) - x
                          | false =>
                           (0 : Nat) = (0 : Nat) ∧
                            ((0 : Int) ≤ (0 : Int) ∧ (0 : Int) ≤ (↑(64 : Nat) : Int) ∧ (↑(64 : Nat) : Int) ≤ (↑(64 : Nat) : Int) ∧ (64 : Nat) = (64 : Nat) ∧ (1 : Nat) = (1 : Nat)) ∧
                             (∃ (s : HS),
                               ∃ (p : List Int),
                                [D.st [D.arr IntKind.u32 (8 : Nat) st0.h.l, D.val (Value.int IntKind.u64 (↑st0.n : Int)), D.arr IntKind.u8 (64 : Nat) st0.l], D.ints IntKind.u8 (List.take ((↑(64 : Nat) : Int).toNat - (0 : Nat)) (List.drop (0 : Nat) (mixK k (54 : Nat) x)))] =
                                  [D.st [D.arr IntKind.u32 (8 : Nat) s.h.l, D.val (Value.int IntKind.u64 (↑s.n : Int)), D.arr IntKind.u8 (64 : Nat) s.l], D.ints IntKind.u8 p] ∧
                                 okS s ∧ isBytes p ∧ p.length ≤ (1000000000000000 : Nat)) ∧
                              (0 : Nat) = (0 : Nat) ∧
                               ((0 : Int) ≤ (0 : Int) ∧ (0 : Int) ≤ (↑(64 : Nat) : Int) ∧ (↑(64 : Nat) : Int) ≤ (↑(64 : Nat) : Int) ∧ (64 : Nat) = (64 : Nat) ∧ (1 : Nat) = (1 : Nat)) ∧
                                (∃ (s : HS),
                                  ∃ (p : List Int),
                                   [D.st [D.arr IntKind.u32 (8 : Nat) st0.h.l, D.val (Value.int IntKind.u64 (↑st0.n : Int)), D.arr IntKind.u8 (64 : Nat) st0.l], D.ints IntKind.u8 (List.take ((↑(64 : Nat) : Int).toNat - (0 : Nat)) (List.drop (0 : Nat) (mixK k (92 : Nat) x)))] =
                                     [D.st [D.arr IntKind.u32 (8 : Nat) s.h.l, D.val (Value.int IntKind.u64 (↑s.n : Int)), D.arr IntKind.u8 (64 : Nat) s.l], D.ints IntKind.u8 p] ∧
                                    okS s ∧ isBytes p ∧ p.length ≤ (1000000000000000 : Nat)) ∧
                                 (false = false ∧ ((0 : Nat) < (2 : Nat) ∧ Sk.st [Sk.arr (8 : Nat), Sk.one, Sk.arr (64 : Nat)] = Sk.st [Sk.arr (8 : Nat), Sk.one, Sk.arr (64 : Nat)]) ∧ false = false ∧ ((1 : Nat) < (2 : Nat) ∧ Sk.st [Sk.arr (8 : Nat), Sk.one, Sk.arr (64 : Nat)] = Sk.st [Sk.arr (8 : Nat), Sk.one, Sk.arr (64 : Nat)]) ∧ True) ∧
                                  (Sk.st [Sk.st [Sk.arr (8 : Nat), Sk.one, Sk.arr (64 : Nat)], Sk.st [Sk.arr (8 : Nat), Sk.one, Sk.arr (64 : Nat)]] = Sk.st [Sk.st [Sk.arr (8 : Nat), Sk.one, Sk.arr (64 : Nat)], Sk.st [Sk.arr (8 : Nat), Sk.one, Sk.arr (64 : Nat)]] ∧ (146 : Nat) ≠ (0 : Nat) ∧ (146 : Nat) = (146 : Nat) ∧ false = false) ∧
                                   (((146 : Nat) ≠ (0 : Nat) ∧ (146 : Nat) = (146 : Nat) ∧ true = true) ∧ True) ∧
                                    D.st
                                      [D.st
                                        [D.arr IntKind.u32 (8 : Nat) (wrS (ofS (D.st [D.arr IntKind.u32 (8 : Nat) st0.h.l, D.val (Value.int IntKind.u64 (↑st0.n : Int)), D.arr IntKind.u8 (64 : Nat) st0.l])) (List.take ((↑(64 : Nat) : Int).toNat - (0 : Nat)) (List.drop (0 : Nat) (mixK k (54 : Nat) x)))).h.l,
                                         D.val (Value.int IntKind.u64 (↑(wrS (ofS (D.st [D.arr IntKind.u32 (8 : Nat) st0.h.l, D.val (Value.int IntKind.u64 (↑st0.n : Int)), D.arr IntKind.u8 (64 : Nat) st0.l])) (List.take ((↑(64 : Nat) : Int).toNat - (0 : Nat)) (List.drop (0 : Nat) (mixK k (54 : Nat) x)))).n : Int)),
                                         D.arr IntKind.u8 (64 : Nat) (wrS (ofS (D.st [D.arr IntKind.u32 (8 : Nat) st0.h.l, D.val (Value.int IntKind.u64 (↑st0.n : Int)), D.arr IntKind.u8 (64 : Nat) st0.l])) (List.take ((↑(64 : Nat) : Int).toNat - (0 : Nat)) (List.drop (0 : Nat) (mixK k (54 : Nat) x)))).l],
                                       D.st
                                        [D.arr IntKind.u32 (8 : Nat) (wrS (ofS (D.st [D.arr IntKind.u32 (8 : Nat) st0.h.l, D.val (Value.int IntKind.u64 (↑st0.n : Int)), D.arr IntKind.u8 (64 : Nat) st0.l])) (List.take ((↑(64 : Nat) : Int).toNat - (0 : Nat)) (List.drop (0 : Nat) (mixK k (92 : Nat) x)))).h.l,
                                         D.val (Value.int IntKind.u64 (↑(wrS (ofS (D.st [D.arr IntKind.u32 (8 : Nat) st0.h.l, D.val (Value.int IntKind.u64 (↑st0.n : Int)), D.arr IntKind.u8 (64 : Nat) st0.l])) (List.take ((↑(64 : Nat) : Int).toNat - (0 : Nat)) (List.drop (0 : Nat) (mixK k (92 : Nat) x)))).n : Int)),
                                         D.arr IntKind.u8 (64 : Nat) (wrS (ofS (D.st [D.arr IntKind.u32 (8 : Nat) st0.h.l, D.val (Value.int IntKind.u64 (↑st0.n : Int)), D.arr IntKind.u8 (64 : Nat) st0.l])) (List.take ((↑(64 : Nat) : Int).toNat - (0 : Nat)) (List.drop (0 : Nat) (mixK k (92 : Nat) x)))).l]] =
                                     F
      | false =>
       (True ∧ (64 : Nat) ≠ (0 : Nat)) ∧
        (True ∧ (64 : Nat) ≠ (0 : Nat)) ∧
         ((0 : Int) ≤ (0 : Int) ∧ (0 : Int) ≤ (↑(64 : Nat) : Int) ∧ (↑(64 : Nat) : Int) ≤ (↑(64 : Nat) : Int) ∧ (64 : Nat) = (64 : Nat) ∧ (1 : Nat) = (1 : Nat)) ∧
          True ∧
           (IntKind.u8 = IntKind.u8 ∧ (1 : Nat) = (1 : Nat)) ∧
            ((64 : Nat) ≠ (0 : Nat) ∧ (64 : Nat) = (64 : Nat) ∧ true = true) ∧
             (Sk.arr (64 : Nat) = Sk.arr (64 : Nat) ∧ (64 : Nat) ≠ (0 : Nat) ∧ (64 : Nat) = (64 : Nat) ∧ false = false) ∧
              True ∧
               (((AV.d (D.val (Value.int IntKind.i64 (0 : Int))) = AV.d (D.val (Value.int IntKind.i64 (↑(Int.toNat (0 : Int)) : Int))) ∧ True) ∧
                  (some
                      (Blk.fix
                       (D.st
                        [D.st
                          [D.arr IntKind.u32 (8 : Nat) [(0 : Int), (0 : Int), (0 : Int), (0 : Int), (0 : Int), (0 : Int), (0 : Int), (0 : Int)], D.val (Value.int IntKind.u64 (0 : Int)),
                           D.arr IntKind.u8 (64 : Nat)
                            (List.replicate (64 : Nat) (0 : Int))],
                         D.st
                          [D.arr IntKind.u32 (8 : Nat) [(0 : Int), (0 : Int), (0 : Int), (0 : Int), (0 : Int), (0 : Int), (0 : Int), (0 : Int)], D.val (Value.int IntKind.u64 (0 : Int)),
                           D.arr IntKind.u8 (64 : Nat)
                            (List.replicate (64 : Nat) (0 : Int))]])) =
                     some
                      (Blk.fix
                       (D.st
                        [D.st
                          [D.arr IntKind.u32 (8 : Nat) [(0 : Int), (0 : Int), (0 : Int), (0 : Int), (0 : Int), (0 : Int), (0 : Int), (0 : Int)], D.val (Value.int IntKind.u64 (0 : Int)),
                           D.arr IntKind.u8 (64 : Nat)
                            (List.replicate (64 : Nat) (0 : Int))],
                         D.st
                          [D.arr IntKind.u32 (8 : Nat) [(0 : Int), (0 : Int), (0 : Int), (0 : Int), (0 : Int), (0 : Int), (0 : Int), (0 : Int)], D.val (Value.int IntKind.u64 (0 : Int)),
                           D.arr IntKind.u8 (64 : Nat)
                            (List.replicate (64 : Nat) (0 : Int))]])) ∧
                    some
                       (Blk.fix
                        (D.arr IntKind.u8 (64 : Nat)
                         (List.take (k.length.min ((↑(64 : Nat) : Int).toNat - (0 : Nat))) k ++
                          List.drop ((0 : Nat) + k.length.min ((↑(64 : Nat) : Int).toNat - (0 : Nat)))
                           (List.replicate (64 : Nat) (0 : Int))))) =
                      some (Blk.fix (D.arr IntKind.u8 (64 : Nat) (mixK k (54 : Nat) (Int.toNat (0 : Int))))) ∧
                     some
                        (Blk.fix
                         (D.arr IntKind.u8 (64 : Nat)
                          (List.take (k.length.min ((↑(64 : Nat) : Int).toNat - (0 : Nat))) k ++
                           List.drop ((0 : Nat) + k.length.min ((↑(64 : Nat) : Int).toNat - (0 : Nat)))
                            (List.replicate (64 : Nat) (0 : Int))))) =
                       some (Blk.fix (D.arr IntKind.u8 (64 : Nat) (mixK k (92 : Nat) (Int.toNat (0 : Int))))) ∧
                      True) ∧
                   true = true) ∧
                 Int.toNat (0 : Int) ≤ (64 : Nat)) ∧
                ∀ (x : Nat),
                 x ≤ (64 : Nat) →
                  true = true ∧
                   True ∧
                    match decide ((↑x : Int) < (64 : Int)) with
                    | true =>
                     True ∧
                      True ∧
                       True ∧
                        ((0 : Int) ≤ (↑x : Int) ∧ (↑x : Int) < (↑(64 : Nat) : Int) ∧ (64 : Nat) = (64 : Nat) ∧ (1 : Nat) = (1 : Nat)) ∧
                         ((1 : Nat) ≠ (0 : Nat) ∧ (1 : Nat) = (1 : Nat) ∧ false = false) ∧
                          True ∧
                           ((0 : Int) ≤ (↑x : Int) ∧ (↑x : Int) < (↑(64 : Nat) : Int) ∧ (64 : Nat) = (64 : Nat) ∧ (1 : Nat) = (1 : Nat)) ∧
                            (((↑x : Int).toNat < (64 : Nat) ∧ ([] : List Nat) = [] ∧ true = true) ∧ (1 : Nat) ≠ (0 : Nat) ∧ (1 : Nat) = (1 : Nat) ∧ false = false) ∧
                             True ∧
                              ((0 : Int) ≤ (↑x : Int) ∧ (↑x : Int) < (↑(64 : Nat) : Int) ∧ (64 : Nat) = (64 : Nat) ∧ (1 : Nat) = (1 : Nat)) ∧
                               ((1 : Nat) ≠ (0 : Nat) ∧ (1 : Nat) = (1 : Nat) ∧ false = false) ∧
                                True ∧
                                 ((0 : Int) ≤ (↑x : Int) ∧ (↑x : Int) < (↑(64 : Nat) : Int) ∧ (64 : Nat) = (64 : Nat) ∧ (1 : Nat) = (1 : Nat)) ∧
                                  (((↑x : Int).toNat < (64 : Nat) ∧ ([] : List Nat) = [] ∧ true = true) ∧ (1 : Nat) ≠ (0 : Nat) ∧ (1 : Nat) = (1 : Nat) ∧ false = false) ∧
                                   True ∧
                                    True ∧
                                     ((AV.d (D.val (Value.int IntKind.i64 (IntKind.i64.wrap ((↑x : Int) + (1 : Int))))) = AV.d (D.val (Value.int IntKind.i64 (↑(IntKind.i64.wrap ((↑x : Int) + (1 : Int))).toNat : Int))) ∧ True) ∧
                                       (some
                                           (Blk.fix
                                            (D.st
                                             [D.st
                                               [D.arr IntKind.u32 (8 : Nat) [(0 : Int), (0 : Int), (0 : Int), (0 : Int), (0 : Int), (0 : Int), (0 : Int), (0 : Int)], D.val (Value.int IntKind.u64 (0 : Int)),
                                                D.arr IntKind.u8 (64 : Nat)
                                                 (List.replicate (64 : Nat) (0 : Int))],
                                              D.st
                                               [D.arr IntKind.u32 (8 : Nat) [(0 : Int), (0 : Int), (0 : Int), (0 : Int), (0 : Int), (0 : Int), (0 : Int), (0 : Int)], D.val (Value.int IntKind.u64 (0 : Int)),
                                                D.arr IntKind.u8 (64 : Nat)
                                                 (List.replicate (64 : Nat) (0 : Int))]])) =
                                          some
                                           (Blk.fix
                                            (D.st
                                             [D.st
                                               [D.arr IntKind.u32 (8 : Nat) [(0 : Int), (0 : Int), (0 : Int), (0 : Int), (0 : Int), (0 : Int), (0 : Int), (0 : Int)], D.val (Value.int IntKind.u64 (0 : Int)),
                                                D.arr IntKind.u8 (64 : Nat)
                                                 (List.replicate (64 : Nat) (0 : Int))],
                                              D.st
                                               [D.arr IntKind.u32 (8 : Nat) [(0 : Int), (0 : Int), (0 : Int), (0 : Int), (0 : Int), (0 : Int), (0 : Int), (0 : Int)], D.val (Value.int IntKind.u64 (0 : Int)),
                                                D.arr IntKind.u8 (64 : Nat)
                                                 (List.replicate (64 : Nat) (0 : Int))]])) ∧
                                         some (Blk.fix (D.arr IntKind.u8 (64 : Nat) ((mixK k (54 : Nat) x).set (↑x : Int).toNat (ixor IntKind.u8 ((mixK k (54 : Nat) x).getD (↑x : Int).toNat (0 : Int)) (54 : Int))))) = some (Blk.fix (D.arr IntKind.u8 (64 : Nat) (mixK k (54 : Nat) (IntKind.i64.wrap ((↑x : Int) + (1 : Int))).toNat))) ∧
                                          some (Blk.fix (D.arr IntKind.u8 (64 : Nat) ((mixK k (92 : Nat) x).set (↑x : Int).toNat (ixor IntKind.u8 ((mixK k (92 : Nat) x).getD (↑x : Int).toNat (0 : Int)) (92 : Int))))) = some (Blk.fix (D.arr IntKind.u8 (64 : Nat) (mixK k (92 : Nat) (IntKind.i64.wrap ((↑x : Int) + (1 : Int))).toNat))) ∧ True) ∧
                                        true = true) ∧
                                      (IntKind.i64.wrap ((↑x : Int) + (1 : Int))).toNat ≤ (64 : Nat) ∧ (64 : Nat) - (IntKind.i64.wrap ((↑x : Int) + (1 : Int))).toNat < (64 : Nat) - x
                    | false =>
                     (0 : Nat) = (0 : Nat) ∧
                      ((0 : Int) ≤ (0 : Int) ∧ (0 : Int) ≤ (↑(64 : Nat) : Int) ∧ (↑(64 : Nat) : Int) ≤ (↑(64 : Nat) : Int) ∧ (64 : Nat) = (64 : Nat) ∧ (1 : Nat) = (1 : Nat)) ∧
                       (∃ (s : HS),
                         ∃ (p : List Int),
                          [D.st [D.arr IntKind.u32 (8 : Nat) st0.h.l, D.val (Value.int IntKind.u64 (↑st0.n : Int)), D.arr IntKind.u8 (64 : Nat) st0.l], D.ints IntKind.u8 (List.take ((↑(64 : Nat) : Int).toNat - (0 : Nat)) (List.drop (0 : Nat) (mixK k (54 : Nat) x)))] =
                            [D.st [D.arr IntKind.u32 (8 : Nat) s.h.l, D.val (Value.int IntKind.u64 (↑s.n : Int)), D.arr IntKind.u8 (64 : Nat) s.l], D.ints IntKind.u8 p] ∧
                           okS s ∧ isBytes p ∧ p.length ≤ (1000000000000000 : Nat)) ∧
                        (0 : Nat) = (0 : Nat) ∧
                         ((0 : Int) ≤ (0 : Int) ∧ (0 : Int) ≤ (↑(64 : Nat) : Int) ∧ (↑(64 : Nat) : Int) ≤ (↑(64 : Nat) : Int) ∧ (64 : Nat) = (64 : Nat) ∧ (1 : Nat) = (1 : Nat)) ∧
                          (∃ (s : HS),
                            ∃ (p : List Int),
                             [D.st [D.arr IntKind.u32 (8 : Nat) st0.h.l, D.val (Value.int IntKind.u64 (↑st0.n : Int)), D.arr IntKind.u8 (64 : Nat) st0.l], D.ints IntKind.u8 (List.take ((↑(64 : Nat) : Int).toNat - (0 : Nat)) (List.drop (0 : Nat) (mixK k (92 : Nat) x)))] =
                               [D.st [D.arr IntKind.u32 (8 : Nat) s.h.l, D.val (Value.int IntKind.u64 (↑s.n : Int)), D.arr IntKind.u8 (64 : Nat) s.l], D.ints IntKind.u8 p] ∧
                              okS s ∧ isBytes p ∧ p.length ≤ (1000000000000000 : Nat)) ∧
                           (false = false ∧ ((0 : Nat) < (2 : Nat) ∧ Sk.st [Sk.arr (8 : Nat), Sk.one, Sk.arr (64 : Nat)] = Sk.st [Sk.arr (8 : Nat), Sk.one, Sk.arr (64 : Nat)]) ∧ false = false ∧ ((1 : Nat) < (2 : Nat) ∧ Sk.st [Sk.arr (8 : Nat), Sk.one, Sk.arr (64 : Nat)] = Sk.st [Sk.arr (8 : Nat), Sk.one, Sk.arr (64 : Nat)]) ∧ True) ∧
                            (Sk.st [Sk.st [Sk.arr (8 : Nat), Sk.one, Sk.arr (64 : Nat)], Sk.st [Sk.arr (8 : Nat), Sk.one, Sk.arr (64 : Nat)]] = Sk.st [Sk.st [Sk.arr (8 : Nat), Sk.one, Sk.arr (64 : Nat)], Sk.st [Sk.arr (8 : Nat), Sk.one, Sk.arr (64 : Nat)]] ∧ (146 : Nat) ≠ (0 : Nat) ∧ (146 : Nat) = (146 : Nat) ∧ false = false) ∧
                             (((146 : Nat) ≠ (0 : Nat) ∧ (146 : Nat) = (146 : Nat) ∧ true = true) ∧ True) ∧
                              D.st
                                [D.st
                                  [D.arr IntKind.u32 (8 : Nat) (wrS (ofS (D.st [D.arr IntKind.u32 (8 : Nat) st0.h.l, D.val (Value.int IntKind.u64 (↑st0.n : Int)), D.arr IntKind.u8 (64 : Nat) st0.l])) (List.take ((↑(64 : Nat) : Int).toNat - (0 : Nat)) (List.drop (0 : Nat) (mixK k (54 : Nat) x)))).h.l,
                                   D.val (Value.int IntKind.u64 (↑(wrS (ofS (D.st [D.arr IntKind.u32 (8 : Nat) st0.h.l, D.val (Value.int IntKind.u64 (↑st0.n : Int)), D.arr IntKind.u8 (64 : Nat) st0.l])) (List.take ((↑(64 : Nat) : Int).toNat - (0 : Nat)) (List.drop (0 : Nat) (mixK k (54 : Nat) x)))).n : Int)),
                                   D.arr IntKind.u8 (64 : Nat) (wrS (ofS (D.st [D.arr IntKind.u32 (8 : Nat) st0.h.l, D.val (Value.int IntKind.u64 (↑st0.n : Int)), D.arr IntKind.u8 (64 : Nat) st0.l])) (List.take ((↑(64 : Nat) : Int).toNat - (0 : Nat)) (List.drop (0 : Nat) (mixK k (54 : Nat) x)))).l],
                                 D.st
                                  [D.arr IntKind.u32 (8 : Nat) (wrS (ofS (D.st [D.arr IntKind.u32 (8 : Nat) st0.h.l, D.val (Value.int IntKind.u64 (↑st0.n : Int)), D.arr IntKind.u8 (64 : Nat) st0.l])) (List.take ((↑(64 : Nat) : Int).toNat - (0 : Nat)) (List.drop (0 : Nat) (mixK k (92 : Nat) x)))).h.l,
                                   D.val (Value.int IntKind.u64 (↑(wrS (ofS (D.st [D.arr IntKind.u32 (8 : Nat) st0.h.l, D.val (Value.int IntKind.u64 (↑st0.n : Int)), D.arr IntKind.u8 (64 : Nat) st0.l])) (List.take ((↑(64 : Nat) : Int).toNat - (0 : Nat)) (List.drop (0 : Nat) (mixK k (92 : Nat) x)))).n : Int)),
                                   D.arr IntKind.u8 (64 : Nat) (wrS (ofS (D.st [D.arr IntKind.u32 (8 : Nat) st0.h.l, D.val (Value.int IntKind.u64 (↑st0.n : Int)), D.arr IntKind.u8 (64 : Nat) st0.l])) (List.take ((↑(64 : Nat) : Int).toNat - (0 : Nat)) (List.drop (0 : Nat) (mixK k (92 : Nat) x)))).l]] =
                               F) := by kernel_rfl
set_option maxRecDepth 100000 in
theorem vc20  (s : MS) (p : List Int) (F : D)  :
    (owed c20 (fun _ => none) Tryd.f20 [stM s, .ints .u8 p] F) = (
 (True ∧ false = false) ∧
   (True ∧ (146 : Nat) ≠ (0 : Nat)) ∧
    (Sk.st [Sk.st [Sk.arr (8 : Nat), Sk.one, Sk.arr (64 : Nat)], Sk.st [Sk.arr (8 : Nat), Sk.one, Sk.arr (64 : Nat)]] = Sk.st [Sk.st [Sk.arr (8 : Nat), Sk.one, Sk.arr (64 : Nat)], Sk.st [Sk.arr (8 : Nat), Sk.one, Sk.arr (64 : Nat)]] ∧ (0 : Nat) < (2 : Nat)) ∧
     ((73 : Nat) ≠ (0 : Nat) ∧ (73 : Nat) = (73 : Nat) ∧ true = true) ∧
      True ∧
       (∃ (s_1 : HS),
         ∃ (p_1 : List Int), [D.st [D.arr IntKind.u32 (8 : Nat) s.i.h.l, D.val (Value.int IntKind.u64 (↑s.i.n : Int)), D.arr IntKind.u8 (64 : Nat) s.i.l], D.ints IntKind.u8 p] = [D.st [D.arr IntKind.u32 (8 : Nat) s_1.h.l, D.val (Value.int IntKind.u64 (↑s_1.n : Int)), D.arr IntKind.u8 (64 : Nat) s_1.l], D.ints IntKind.u8 p_1] ∧ okS s_1 ∧ isBytes p_1 ∧ p_1.length ≤ (1000000000000000 : Nat)) ∧
        (Sk.st [Sk.st [Sk.arr (8 : Nat), Sk.one, Sk.arr (64 : Nat)], Sk.st [Sk.arr (8 : Nat), Sk.one, Sk.arr (64 : Nat)]] = Sk.st [Sk.st [Sk.arr (8 : Nat), Sk.one, Sk.arr (64 : Nat)], Sk.st [Sk.arr (8 : Nat), Sk.one, Sk.arr (64 : Nat)]] ∧ (0 : Nat) < (2 : Nat)) ∧
         (((0 : Nat) < (2 : Nat) ∧ Sk.st [Sk.arr (8 : Nat), Sk.one, Sk.arr (64 : Nat)] = Sk.st [Sk.arr (8 : Nat), Sk.one, Sk.arr (64 : Nat)]) ∧ (73 : Nat) ≠ (0 : Nat) ∧ (73 : Nat) = (73 : Nat) ∧ false = false) ∧
          ((146 : Nat) ≠ (0 : Nat) ∧ (146 : Nat) = (146 : Nat) ∧ true = true) ∧
           (Sk.st [Sk.st [Sk.arr (8 : Nat), Sk.one, Sk.arr (64 : Nat)], Sk.st [Sk.arr (8 : Nat), Sk.one, Sk.arr (64 : Nat)]] = Sk.st [Sk.st [Sk.arr (8 : Nat), Sk.one, Sk.arr (64 : Nat)], Sk.st [Sk.arr (8 : Nat), Sk.one, Sk.arr (64 : Nat)]] ∧ (146 : Nat) ≠ (0 : Nat) ∧ (146 : Nat) = (146 : Nat) ∧ false = false) ∧
            (((146 : Nat) ≠ (0 : Nat) ∧ (146 : Nat) = (146 : Nat) ∧ true = true) ∧ True) ∧
             D.st
               [D.st
                 [D.arr IntKind.u32 (8 : Nat) (wrS (ofS (D.st [D.arr IntKind.u32 (8 : Nat) s.i.h.l, D.val (Value.int IntKind.u64 (↑s.i.n : Int)), D.arr IntKind.u8 (64 : Nat) s.i.l])) p).h.l, D.val (Value.int IntKind.u64 (↑(wrS (ofS (D.st [D.arr IntKind.u32 (8 : Nat) s.i.h.l, D.val (Value.int IntKind.u64 (↑s.i.n : Int)), D.arr IntKind.u8 (64 : Nat) s.i.l])) p).n : Int)),
                  D.arr IntKind.u8 (64 : Nat) (wrS (ofS (D.st [D.arr IntKind.u32 (8 : Nat) s.i.h.l, D.val (Value.int IntKind.u64 (↑s.i.n : Int)), D.arr IntKind.u8 (64 : Nat) s.i.l])) p).l],
                D.st [D.arr IntKind.u32 (8 : Nat) s.o.h.l, D.val (Value.int IntKind.u64 (↑s.o.n : Int)), D.arr IntKind.u8 (64 : Nat) s.o.l]] =
              F) := by kernel_rfl
set_option maxRecDepth 100000 in
theorem vc23  (s : MS) (F : D)  :
    (owed c23 (fun _ => none) Tryd.f23 [stM s] F) = (
 (True ∧ false = false) ∧
   (True ∧ (32 : Nat) ≠ (0 : Nat)) ∧
    (Sk.st [Sk.st [Sk.arr (8 : Nat), Sk.one, Sk.arr (64 : Nat)], Sk.st [Sk.arr (8 : Nat), Sk.one, Sk.arr (64 : Nat)]] = Sk.st [Sk.st [Sk.arr (8 : Nat), Sk.one, Sk.arr (64 : Nat)], Sk.st [Sk.arr (8 : Nat), Sk.one, Sk.arr (64 : Nat)]] ∧ (0 : Nat) < (2 : Nat)) ∧
     ((73 : Nat) ≠ (0 : Nat) ∧ (73 : Nat) = (73 : Nat) ∧ true = true) ∧
      (∃ (s_1 : HS), [D.st [D.arr IntKind.u32 (8 : Nat) s.i.h.l, D.val (Value.int IntKind.u64 (↑s.i.n : Int)), D.arr IntKind.u8 (64 : Nat) s.i.l]] = [D.st [D.arr IntKind.u32 (8 : Nat) s_1.h.l, D.val (Value.int IntKind.u64 (↑s_1.n : Int)), D.arr IntKind.u8 (64 : Nat) s_1.l]] ∧ okS s_1) ∧
       (True ∧ (32 : Nat) ≠ (0 : Nat)) ∧
        (Sk.arr (32 : Nat) = Sk.arr (32 : Nat) ∧ (32 : Nat) ≠ (0 : Nat) ∧ (32 : Nat) = (32 : Nat) ∧ false = false) ∧
         (Sk.st [Sk.st [Sk.arr (8 : Nat), Sk.one, Sk.arr (64 : Nat)], Sk.st [Sk.arr (8 : Nat), Sk.one, Sk.arr (64 : Nat)]] = Sk.st [Sk.st [Sk.arr (8 : Nat), Sk.one, Sk.arr (64 : Nat)], Sk.st [Sk.arr (8 : Nat), Sk.one, Sk.arr (64 : Nat)]] ∧ (1 : Nat) < (2 : Nat)) ∧
          ((73 : Nat) ≠ (0 : Nat) ∧ (73 : Nat) = (73 : Nat) ∧ true = true) ∧
           ((0 : Int) ≤ (0 : Int) ∧ (0 : Int) ≤ (↑(32 : Nat) : Int) ∧ (↑(32 : Nat) : Int) ≤ (↑(32 : Nat) : Int) ∧ (32 : Nat) = (32 : Nat) ∧ (1 : Nat) = (1 : Nat)) ∧
            (∃ (s_1 : HS),
              ∃ (p : List Int),
               [D.st [D.arr IntKind.u32 (8 : Nat) s.o.h.l, D.val (Value.int IntKind.u64 (↑s.o.n : Int)), D.arr IntKind.u8 (64 : Nat) s.o.l], D.ints IntKind.u8 (List.take ((↑(32 : Nat) : Int).toNat - (0 : Nat)) (List.drop (0 : Nat) (sumL (ofS (D.st [D.arr IntKind.u32 (8 : Nat) s.i.h.l, D.val (Value.int IntKind.u64 (↑s.i.n : Int)), D.arr IntKind.u8 (64 : Nat) s.i.l])))))] =
                 [D.st [D.arr IntKind.u32 (8 : Nat) s_1.h.l, D.val (Value.int IntKind.u64 (↑s_1.n : Int)), D.arr IntKind.u8 (64 : Nat) s_1.l], D.ints IntKind.u8 p] ∧
                okS s_1 ∧ isBytes p ∧ p.length ≤ (1000000000000000 : Nat)) ∧
             (∃ (s_1 : HS),
               [D.st
                   [D.arr IntKind.u32 (8 : Nat)
                     (wrS (ofS (D.st [D.arr IntKind.u32 (8 : Nat) s.o.h.l, D.val (Value.int IntKind.u64 (↑s.o.n : Int)), D.arr IntKind.u8 (64 : Nat) s.o.l])) (List.take ((↑(32 : Nat) : Int).toNat - (0 : Nat)) (List.drop (0 : Nat) (sumL (ofS (D.st [D.arr IntKind.u32 (8 : Nat) s.i.h.l, D.val (Value.int IntKind.u64 (↑s.i.n : Int)), D.arr IntKind.u8 (64 : Nat) s.i.l])))))).h.l,
                    D.val
                     (Value.int IntKind.u64
                      (↑(wrS (ofS (D.st [D.arr IntKind.u32 (8 : Nat) s.o.h.l, D.val (Value.int IntKind.u64 (↑s.o.n : Int)), D.arr IntKind.u8 (64 : Nat) s.o.l])) (List.take ((↑(32 : Nat) : Int).toNat - (0 : Nat)) (List.drop (0 : Nat) (sumL (ofS (D.st [D.arr IntKind.u32 (8 : Nat) s.i.h.l, D.val (Value.int IntKind.u64 (↑s.i.n : Int)), D.arr IntKind.u8 (64 : Nat) s.i.l])))))).n :
                       Int)),
                    D.arr IntKind.u8 (64 : Nat)
                     (wrS (ofS (D.st [D.arr IntKind.u32 (8 : Nat) s.o.h.l, D.val (Value.int IntKind.u64 (↑s.o.n : Int)), D.arr IntKind.u8 (64 : Nat) s.o.l])) (List.take ((↑(32 : Nat) : Int).toNat - (0 : Nat)) (List.drop (0 : Nat) (sumL (ofS (D.st [D.arr IntKind.u32 (8 : Nat) s.i.h.l, D.val (Value.int IntKind.u64 (↑s.i.n : Int)), D.arr IntKind.u8 (64 : Nat) s.i.l])))))).l]] =
                 [D.st [D.arr IntKind.u32 (8 : Nat) s_1.h.l, D.val (Value.int IntKind.u64 (↑s_1.n : Int)), D.arr IntKind.u8 (64 : Nat) s_1.l]] ∧
                okS s_1) ∧
              (Sk.arr (32 : Nat) = Sk.arr (32 : Nat) ∧ (32 : Nat) ≠ (0 : Nat) ∧ (32 : Nat) = (32 : Nat) ∧ false = false) ∧
               (((32 : Nat) ≠ (0 : Nat) ∧ (32 : Nat) = (32 : Nat) ∧ true = true) ∧ True) ∧
                D.arr IntKind.u8 (32 : Nat)
                  (sumL
                   (ofS
                    (D.st
                     [D.arr IntKind.u32 (8 : Nat)
                       (wrS (ofS (D.st [D.arr IntKind.u32 (8 : Nat) s.o.h.l, D.val (Value.int IntKind.u64 (↑s.o.n : Int)), D.arr IntKind.u8 (64 : Nat) s.o.l])) (List.take ((↑(32 : Nat) : Int).toNat - (0 : Nat)) (List.drop (0 : Nat) (sumL (ofS (D.st [D.arr IntKind.u32 (8 : Nat) s.i.h.l, D.val (Value.int IntKind.u64 (↑s.i.n : Int)), D.arr IntKind.u8 (64 : Nat) s.i.l])))))).h.l,
                      D.val
                       (Value.int IntKind.u64
                        (↑(wrS (ofS (D.st [D.arr IntKind.u32 (8 : Nat) s.o.h.l, D.val (Value.int IntKind.u64 (↑s.o.n : Int)), D.arr IntKind.u8 (64 : Nat) s.o.l]))
                            (List.take ((↑(32 : Nat) : Int).toNat - (0 : Nat)) (List.drop (0 : Nat) (sumL (ofS (D.st [D.arr IntKind.u32 (8 : Nat) s.i.h.l, D.val (Value.int IntKind.u64 (↑s.i.n : Int)), D.arr IntKind.u8 (64 : Nat) s.i.l])))))).n :
                         Int)),
                      D.arr IntKind.u8 (64 : Nat)
                       (wrS (ofS (D.st [D.arr IntKind.u32 (8 : Nat) s.o.h.l, D.val (Value.int IntKind.u64 (↑s.o.n : Int)), D.arr IntKind.u8 (64 : Nat) s.o.l]))
                         (List.take ((↑(32 : Nat) : Int).toNat - (0 : Nat)) (List.drop (0 : Nat) (sumL (ofS (D.st [D.arr IntKind.u32 (8 : Nat) s.i.h.l, D.val (Value.int IntKind.u64 (↑s.i.n : Int)), D.arr IntKind.u8 (64 : Nat) s.i.l])))))).l]))) =
                 F) := by kernel_rfl
set_option maxRecDepth 100000 in
theorem vc21  (k p : List Int) (F : D)  :
    (owed c21 (fun _ => none) Tryd.f21 [.ints .u8 k, .ints .u8 p] F) = (
 (True ∧ (32 : Nat) ≠ (0 : Nat)) ∧
   True ∧
    (∃ (k_1 : List Int), [D.ints IntKind.u8 k] = [D.ints IntKind.u8 k_1] ∧ isB k_1) ∧
     True ∧
      (∃ (s : MS),
        ∃ (p_1 : List Int),
         [D.st [D.st [D.arr IntKind.u32 (8 : Nat) (mNew k).i.h.l, D.val (Value.int IntKind.u64 (↑(mNew k).i.n : Int)), D.arr IntKind.u8 (64 : Nat) (mNew k).i.l], D.st [D.arr IntKind.u32 (8 : Nat) (mNew k).o.h.l, D.val (Value.int IntKind.u64 (↑(mNew k).o.n : Int)), D.arr IntKind.u8 (64 : Nat) (mNew k).o.l]], D.ints IntKind.u8 p] =
           [D.st [D.st [D.arr IntKind.u32 (8 : Nat) s.i.h.l, D.val (Value.int IntKind.u64 (↑s.i.n : Int)), D.arr IntKind.u8 (64 : Nat) s.i.l], D.st [D.arr IntKind.u32 (8 : Nat) s.o.h.l, D.val (Value.int IntKind.u64 (↑s.o.n : Int)), D.arr IntKind.u8 (64 : Nat) s.o.l]], D.ints IntKind.u8 p_1] ∧
          okM s ∧ isB p_1) ∧
       (∃ (s : MS),
         [D.st
             [D.st
               [D.arr IntKind.u32 (8 : Nat) (mWr (ofM (D.st [D.st [D.arr IntKind.u32 (8 : Nat) (mNew k).i.h.l, D.val (Value.int IntKind.u64 (↑(mNew k).i.n : Int)), D.arr IntKind.u8 (64 : Nat) (mNew k).i.l], D.st [D.arr IntKind.u32 (8 : Nat) (mNew k).o.h.l, D.val (Value.int IntKind.u64 (↑(mNew k).o.n : Int)), D.arr IntKind.u8 (64 : Nat) (mNew k).o.l]])) p).i.h.l,
                D.val (Value.int IntKind.u64 (↑(mWr (ofM (D.st [D.st [D.arr IntKind.u32 (8 : Nat) (mNew k).i.h.l, D.val (Value.int IntKind.u64 (↑(mNew k).i.n : Int)), D.arr IntKind.u8 (64 : Nat) (mNew k).i.l], D.st [D.arr IntKind.u32 (8 : Nat) (mNew k).o.h.l, D.val (Value.int IntKind.u64 (↑(mNew k).o.n : Int)), D.arr IntKind.u8 (64 : Nat) (mNew k).o.l]])) p).i.n : Int)),
                D.arr IntKind.u8 (64 : Nat) (mWr (ofM (D.st [D.st [D.arr IntKind.u32 (8 : Nat) (mNew k).i.h.l, D.val (Value.int IntKind.u64 (↑(mNew k).i.n : Int)), D.arr IntKind.u8 (64 : Nat) (mNew k).i.l], D.st [D.arr IntKind.u32 (8 : Nat) (mNew k).o.h.l, D.val (Value.int IntKind.u64 (↑(mNew k).o.n : Int)), D.arr IntKind.u8 (64 : Nat) (mNew k).o.l]])) p).i.l],
              D.st
               [D.arr IntKind.u32 (8 : Nat) (mWr (ofM (D.st [D.st [D.arr IntKind.u32 (8 : Nat) (mNew k).i.h.l, D.val (Value.int IntKind.u64 (↑(mNew k).i.n : Int)), D.arr IntKind.u8 (64 : Nat) (mNew k).i.l], D.st [D.arr IntKind.u32 (8 : Nat) (mNew k).o.h.l, D.val (Value.int IntKind.u64 (↑(mNew k).o.n : Int)), D.arr IntKind.u8 (64 : Nat) (mNew k).o.l]])) p).o.h.l,
                D.val (Value.int IntKind.u64 (↑(mWr (ofM (D.st [D.st [D.arr IntKind.u32 (8 : Nat) (mNew k).i.h.l, D.val (Value.int IntKind.u64 (↑(mNew k).i.n : Int)), D.arr IntKind.u8 (64 : Nat) (mNew k).i.l], D.st [D.arr IntKind.u32 (8 : Nat) (mNew k).o.h.l, D.val (Value.int IntKind.u64 (↑(mNew k).o.n : Int)), D.arr IntKind.u8 (64 : Nat) (mNew k).o.l]])) p).o.n : Int)),
                D.arr IntKind.u8 (64 : Nat) (mWr (ofM (D.st [D.st [D.arr IntKind.u32 (8 : Nat) (mNew k).i.h.l, D.val (Value.int IntKind.u64 (↑(mNew k).i.n : Int)), D.arr IntKind.u8 (64 : Nat) (mNew k).i.l], D.st [D.arr IntKind.u32 (8 : Nat) (mNew k).o.h.l, D.val (Value.int IntKind.u64 (↑(mNew k).o.n : Int)), D.arr IntKind.u8 (64 : Nat) (mNew k).o.l]])) p).o.l]]] =
           [D.st [D.st [D.arr IntKind.u32 (8 : Nat) s.i.h.l, D.val (Value.int IntKind.u64 (↑s.i.n : Int)), D.arr IntKind.u8 (64 : Nat) s.i.l], D.st [D.arr IntKind.u32 (8 : Nat) s.o.h.l, D.val (Value.int IntKind.u64 (↑s.o.n : Int)), D.arr IntKind.u8 (64 : Nat) s.o.l]]] ∧
          okM s) ∧
        (Sk.arr (32 : Nat) = Sk.arr (32 : Nat) ∧ (32 : Nat) ≠ (0 : Nat) ∧ (32 : Nat) = (32 : Nat) ∧ false = false) ∧
         (((32 : Nat) ≠ (0 : Nat) ∧ (32 : Nat) = (32 : Nat) ∧ true = true) ∧ True) ∧
          D.arr IntKind.u8 (32 : Nat)
            (mSum
             (ofM
              (D.st
               [D.st
                 [D.arr IntKind.u32 (8 : Nat) (mWr (ofM (D.st [D.st [D.arr IntKind.u32 (8 : Nat) (mNew k).i.h.l, D.val (Value.int IntKind.u64 (↑(mNew k).i.n : Int)), D.arr IntKind.u8 (64 : Nat) (mNew k).i.l], D.st [D.arr IntKind.u32 (8 : Nat) (mNew k).o.h.l, D.val (Value.int IntKind.u64 (↑(mNew k).o.n : Int)), D.arr IntKind.u8 (64 : Nat) (mNew k).o.l]])) p).i.h.l,
                  D.val (Value.int IntKind.u64 (↑(mWr (ofM (D.st [D.st [D.arr IntKind.u32 (8 : Nat) (mNew k).i.h.l, D.val (Value.int IntKind.u64 (↑(mNew k).i.n : Int)), D.arr IntKind.u8 (64 : Nat) (mNew k).i.l], D.st [D.arr IntKind.u32 (8 : Nat) (mNew k).o.h.l, D.val (Value.int IntKind.u64 (↑(mNew k).o.n : Int)), D.arr IntKind.u8 (64 : Nat) (mNew k).o.l]])) p).i.n : Int)),
                  D.arr IntKind.u8 (64 : Nat) (mWr (ofM (D.st [D.st [D.arr IntKind.u32 (8 : Nat) (mNew k).i.h.l, D.val (Value.int IntKind.u64 (↑(mNew k).i.n : Int)), D.arr IntKind.u8 (64 : Nat) (mNew k).i.l], D.st [D.arr IntKind.u32 (8 : Nat) (mNew k).o.h.l, D.val (Value.int IntKind.u64 (↑(mNew k).o.n : Int)), D.arr IntKind.u8 (64 : Nat) (mNew k).o.l]])) p).i.l],
                D.st
                 [D.arr IntKind.u32 (8 : Nat) (mWr (ofM (D.st [D.st [D.arr IntKind.u32 (8 : Nat) (mNew k).i.h.l, D.val (Value.int IntKind.u64 (↑(mNew k).i.n : Int)), D.arr IntKind.u8 (64 : Nat) (mNew k).i.l], D.st [D.arr IntKind.u32 (8 : Nat) (mNew k).o.h.l, D.val (Value.int IntKind.u64 (↑(mNew k).o.n : Int)), D.arr IntKind.u8 (64 : Nat) (mNew k).o.l]])) p).o.h.l,
                  D.val (Value.int IntKind.u64 (↑(mWr (ofM (D.st [D.st [D.arr IntKind.u32 (8 : Nat) (mNew k).i.h.l, D.val (Value.int IntKind.u64 (↑(mNew k).i.n : Int)), D.arr IntKind.u8 (64 : Nat) (mNew k).i.l], D.st [D.arr IntKind.u32 (8 : Nat) (mNew k).o.h.l, D.val (Value.int IntKind.u64 (↑(mNew k).o.n : Int)), D.arr IntKind.u8 (64 : Nat) (mNew k).o.l]])) p).o.n : Int)),
                  D.arr IntKind.u8 (64 : Nat) (mWr (ofM (D.st [D.st [D.arr IntKind.u32 (8 : Nat) (mNew k).i.h.l, D.val (Value.int IntKind.u64 (↑(mNew k).i.n : Int)), D.arr IntKind.u8 (64 : Nat) (mNew k).i.l], D.st [D.arr IntKind.u32 (8 : Nat) (mNew k).o.h.l, D.val (Value.int IntKind.u64 (↑(mNew k).o.n : Int)), D.arr IntKind.u8 (64 : Nat) (mNew k).o.l]])) p).o.l]]))) =
           F) := by kernel_rfl
set_option maxRecDepth 100000 in
theorem vc22  (k p : List Int) (F : D)  :
    (owed c22 (inv22 k) Tryd.f22 [.str k, .str p] F) = (
 (True ∧ (32 : Nat) ≠ (0 : Nat)) ∧
   True ∧
    True ∧
     True ∧
      match decide ((↑k.length : Int) > (64 : Int)) with
      | true =>
       True ∧
        (∃ (p : List Int), [D.str k] = [D.str p] ∧ isBytes p ∧ p.length ≤ (1000000000000000 : Nat)) ∧
         (True ∧ (32 : Nat) ≠ (0 : Nat)) ∧
          (Sk.arr (32 : Nat) = Sk.arr (32 : Nat) ∧ (32 : Nat) ≠ (0 : Nat) ∧ (32 : Nat) = (32 : Nat) ∧ false = false) ∧
           ((0 : Int) ≤ (0 : Int) ∧ (0 : Int) ≤ (↑(32 : Nat) : Int) ∧ (↑(32 : Nat) : Int) ≤ (↑(32 : Nat) : Int) ∧ (32 : Nat) = (32 : Nat) ∧ (1 : Nat) = (1 : Nat)) ∧
            isBytes (List.take ((↑(32 : Nat) : Int).toNat - (0 : Nat)) (List.drop (0 : Nat) (digL k))) ∧
             True ∧
              True ∧
               True ∧
                True ∧
                 (((AV.d (D.val (Value.int IntKind.i64 (0 : Int))) = AV.d (D.val (Value.int IntKind.i64 (↑(Int.toNat (0 : Int)) : Int))) ∧ AV.d (D.str (ints { data := { toList := [] } })) = AV.d (D.str (List.take (Int.toNat (0 : Int)) (xK k (54 : Nat)))) ∧ AV.d (D.str (ints { data := { toList := [] } })) = AV.d (D.str (List.take (Int.toNat (0 : Int)) (xK k (92 : Nat)))) ∧ True) ∧
                    (some
                        (Blk.fix
                         (D.arr IntKind.u8 (32 : Nat)
                          [(0 : Int), (0 : Int), (0 : Int), (0 : Int), (0 : Int), (0 : Int), (0 : Int), (0 : Int), (0 : Int), (0 : Int), (0 : Int), (0 : Int), (0 : Int), (0 : Int), (0 : Int), (0 : Int), (0 : Int), (0 : Int), (0 : Int), (0 : Int), (0 : Int), (0 : Int), (0 : Int), (0 : Int), (0 : Int), (0 : Int), (0 : Int), (0 : Int), (0 : Int), (0 : Int), (0 : Int),
                           (0 : Int)])) =
                       some
                        (Blk.fix
                         (D.arr IntKind.u8 (32 : Nat)
                          [(0 : Int), (0 : Int), (0 : Int), (0 : Int), (0 : Int), (0 : Int), (0 : Int), (0 : Int), (0 : Int), (0 : Int), (0 : Int), (0 : Int), (0 : Int), (0 : Int), (0 : Int), (0 : Int), (0 : Int), (0 : Int), (0 : Int), (0 : Int), (0 : Int), (0 : Int), (0 : Int), (0 : Int), (0 : Int), (0 : Int), (0 : Int), (0 : Int), (0 : Int), (0 : Int), (0 : Int),
                           (0 : Int)])) ∧
                      some (Blk.fix (D.arr IntKind.u8 (32 : Nat) (digL k))) = some (Blk.fix (D.arr IntKind.u8 (32 : Nat) (digL k))) ∧ True) ∧
                     true = true) ∧
                   Int.toNat (0 : Int) ≤ (64 : Nat)) ∧
                  ∀ (x : Nat),
                   x ≤ (64 : Nat) →
                    true = true ∧
                     True ∧
                      match decide ((↑x : Int) < (64 : Int)) with
                      | true =>
                       True ∧
                        True ∧
                         True ∧
                          True ∧
                           True ∧
                            True ∧
                             True ∧
                              match decide ((↑x : Int) < (↑(List.take ((↑(32 : Nat) : Int).toNat - (0 : Nat)) (List.drop (0 : Nat) (digL k))).length : Int)) with
                              | true =>
                               True ∧
                                True ∧
                                 ((0 : Int) ≤ (↑x : Int) ∧ (↑x : Int) < (↑(List.take ((↑(32 : Nat) : Int).toNat - (0 : Nat)) (List.drop (0 : Nat) (digL k))).length : Int)) ∧
                                  True ∧
                                   True ∧
                                    True ∧
                                     True ∧
                                      ((1 : Nat) = (1 : Nat) ∧ (1 : Nat) ≤ (4096 : Nat)) ∧
                                       isBytes [ixor IntKind.u8 ((List.take ((↑(32 : Nat) : Int).toNat - (0 : Nat)) (List.drop (0 : Nat) (digL k))).getD (↑x : Int).toNat (0 : Int)) (54 : Int)] ∧
                                        (↑((List.take x (xK k (54 : Nat))).length + (1 : Nat)) : Int) ≤ (9223372036854775807 : Int) ∧
                                         True ∧
                                          True ∧
                                           True ∧
                                            True ∧
                                             ((1 : Nat) = (1 : Nat) ∧ (1 : Nat) ≤ (4096 : Nat)) ∧
                                              isBytes [ixor IntKind.u8 ((List.take ((↑(32 : Nat) : Int).toNat - (0 : Nat)) (List.drop (0 : Nat) (digL k))).getD (↑x : Int).toNat (0 : Int)) (92 : Int)] ∧
                                               (↑((List.take x (xK k (92 : Nat))).length + (1 : Nat)) : Int) ≤ (9223372036854775807 : Int) ∧
                                                True ∧
                                                 True ∧
                                                  True ∧
                                                   ((AV.d (D.val (Value.int IntKind.i64 (IntKind.i64.wrap ((↑x : Int) + (1 : Int))))) = AV.d (D.val (Value.int IntKind.i64 (↑(IntKind.i64.wrap ((↑x : Int) + (1 : Int))).toNat : Int))) ∧
                                                      AV.d (D.str (List.take x (xK k (54 : Nat)) ++ [ixor IntKind.u8 ((List.take ((↑(32 : Nat) : Int).toNat - (0 : Nat)) (List.drop (0 : Nat) (digL k))).getD (↑x : Int).toNat (0 : Int)) (54 : Int)])) = AV.d (D.str (List.take (IntKind.i64.wrap ((↑x : Int) + (1 : Int))).toNat (xK k (54 : Nat)))) ∧
                                                       AV.d (D.str (List.take x (xK k (92 : Nat)) ++ [ixor IntKind.u8 ((List.take ((↑(32 : Nat) : Int).toNat - (0 : Nat)) (List.drop (0 : Nat) (digL k))).getD (↑x : Int).toNat (0 : Int)) (92 : Int)])) = AV.d (D.str (List.take (IntKind.i64.wrap ((↑x : Int) + (1 : Int))).toNat (xK k (92 : Nat)))) ∧
                                                        True) ∧
                                                     (some
                                                         (Blk.fix
                                                          (D.arr IntKind.u8 (32 : Nat)
                                                           [(0 : Int), (0 : Int), (0 : Int), (0 : Int), (0 : Int), (0 : Int), (0 : Int), (0 : Int), (0 : Int), (0 : Int), (0 : Int), (0 : Int), (0 : Int), (0 : Int), (0 : Int), (0 : Int), (0 : Int), (0 : Int), (0 : Int), (0 : Int), (0 : Int), (0 : Int), (0 : Int), (0 : Int), (0 : Int),
                                                            (0 : Int), (0 : Int), (0 : Int), (0 : Int), (0 : Int), (0 : Int), (0 : Int)])) =
                                                        some
                                                         (Blk.fix
                                                          (D.arr IntKind.u8 (32 : Nat)
                                                           [(0 : Int), (0 : Int), (0 : Int), (0 : Int), (0 : Int), (0 : Int), (0 : Int), (0 : Int), (0 : Int), (0 : Int), (0 : Int), (0 : Int), (0 : Int), (0 : Int), (0 : Int), (0 : Int), (0 : Int), (0 : Int), (0 : Int), (0 : Int), (0 : Int), (0 : Int), (0 : Int), (0 : Int), (0 : Int),
                                                            (0 : Int), (0 : Int), (0 : Int), (0 : Int), (0 : Int), (0 : Int), (0 : Int)])) ∧
                                                       some (Blk.fix (D.arr IntKind.u8 (32 : Nat) (digL k))) = some (Blk.fix (D.arr IntKind.u8 (32 : Nat) (digL k))) ∧ True) ∧
                                                      true = true) ∧
                                                    (IntKind.i64.wrap ((↑x : Int) + (1 : Int))).toNat ≤ (64 : Nat) ∧ (64 : Nat) - (IntKind.i64.wrap ((↑x : Int) + (1 : Int))).toNat < (64 : Nat) - x
                              | false =>
                               True ∧
                                True ∧
                                 True ∧
                                  ((1 : Nat) = (1 : Nat) ∧ (1 : Nat) ≤ (4096 : Nat)) ∧
                                   isBytes [ixor IntKind.u8 (0 : Int) (54 : Int)] ∧
                                    (↑((List.take x (xK k (54 : Nat))).length + (1 : Nat)) : Int) ≤ (9223372036854775807 : Int) ∧
                                     True ∧
                                      True ∧
                                       True ∧
                                        True ∧
                                         ((1 : Nat) = (1 : Nat) ∧ (1 : Nat) ≤ (4096 : Nat)) ∧
                                          isBytes [ixor IntKind.u8 (0 : Int) (92 : Int)] ∧
                                           (↑((List.take x (xK k (92 : Nat))).length + (1 : Nat)) : Int) ≤ (9223372036854775807 : Int) ∧
                                            True ∧
                                             True ∧
                                              True ∧
                                               ((AV.d (D.val (Value.int IntKind.i64 (IntKind.i64.wrap ((↑x : Int) + (1 : Int))))) = AV.d (D.val (Value.int IntKind.i64 (↑(IntKind.i64.wrap ((↑x : Int) + (1 : Int))).toNat : Int))) ∧
                                                  AV.d (D.str (List.take x (xK k (54 : Nat)) ++ [ixor IntKind.u8 (0 : Int) (54 : Int)])) = AV.d (D.str (List.take (IntKind.i64.wrap ((↑x : Int) + (1 : Int))).toNat (xK k (54 : Nat)))) ∧
                                                   AV.d (D.str (List.take x (xK k (92 : Nat)) ++ [ixor IntKind.u8 (0 : Int) (92 : Int)])) = AV.d (D.str (List.take (IntKind.i64.wrap ((↑x : Int) + (1 : Int))).toNat (xK k (92 : Nat)))) ∧ True) ∧
                                                 (some
                                                     (Blk.fix
                                                      (D.arr IntKind.u8 (32 : Nat)
                                                       [(0 : Int), (0 : Int), (0 : Int), (0 : Int), (0 : Int), (0 : Int), (0 : Int), (0 : Int), (0 : Int), (0 : Int), (0 : Int), (0 : Int), (0 : Int), (0 : Int), (0 : Int), (0 : Int), (0 : Int), (0 : Int), (0 : Int), (0 : Int), (0 : Int), (0 : Int), (0 : Int), (0 : Int), (0 : Int), (0 : Int),
                                                        (0 : Int), (0 : Int), (0 : Int), (0 : Int), (0 : Int), (0 : Int)])) =
                                                    some
                                                     (Blk.fix
                                                      (D.arr IntKind.u8 (32 : Nat)
                                                       [(0 : Int), (0 : Int), (0 : Int), (0 : Int), (0 : Int), (0 : Int), (0 : Int), (0 : Int), (0 : Int), (0 : Int), (0 : Int), (0 : Int), (0 : Int), (0 : Int), (0 : Int), (0 : Int), (0 : Int), (0 : Int), (0 : Int), (0 : Int), (0 : Int), (0 : Int), (0 : Int), (0 : Int), (0 : Int), (0 : Int),
                                                        (0 : Int), (0 : Int), (0 : Int), (0 : Int), (0 : Int), (0 : Int)])) ∧
                                                   some (Blk.fix (D.arr IntKind.u8 (32 : Nat) (digL k))) = some (Blk.fix (D.arr IntKind.u8 (32 : Nat) (digL k))) ∧ True) ∧
                                                  true = true) ∧
                                                (IntKind.i64.wrap ((↑x : Int) + (1 : Int))).toNat ≤ (64 : Nat) ∧ (64 : Nat) - (IntKind.i64.wrap ((↑x : Int) + (1 : Int))).toNat < (64 : Nat) - x
                      | false =>
                       True ∧
                        True ∧
                         (↑((List.take x (xK k (54 : Nat))).length + p.length) : Int) ≤ (9223372036854775807 : Int) ∧
                          (∃ (p_1 : List Int), [D.str (List.take x (xK k (54 : Nat)) ++ p)] = [D.str p_1] ∧ isBytes p_1 ∧ p_1.length ≤ (1000000000000000 : Nat)) ∧
                           (True ∧ (32 : Nat) ≠ (0 : Nat)) ∧
                            (Sk.arr (32 : Nat) = Sk.arr (32 : Nat) ∧ (32 : Nat) ≠ (0 : Nat) ∧ (32 : Nat) = (32 : Nat) ∧ false = false) ∧
                             True ∧
                              ((0 : Int) ≤ (0 : Int) ∧ (0 : Int) ≤ (↑(32 : Nat) : Int) ∧ (↑(32 : Nat) : Int) ≤ (↑(32 : Nat) : Int) ∧ (32 : Nat) = (32 : Nat) ∧ (1 : Nat) = (1 : Nat)) ∧
                               isBytes (List.take ((↑(32 : Nat) : Int).toNat - (0 : Nat)) (List.drop (0 : Nat) (digL (List.take x (xK k (54 : Nat)) ++ p)))) ∧
                                (↑((List.take x (xK k (92 : Nat))).length + (List.take ((↑(32 : Nat) : Int).toNat - (0 : Nat)) (List.drop (0 : Nat) (digL (List.take x (xK k (54 : Nat)) ++ p)))).length) : Int) ≤ (9223372036854775807 : Int) ∧
                                 (∃ (p_1 : List Int), [D.str (List.take x (xK k (92 : Nat)) ++ List.take ((↑(32 : Nat) : Int).toNat - (0 : Nat)) (List.drop (0 : Nat) (digL (List.take x (xK k (54 : Nat)) ++ p))))] = [D.str p_1] ∧ isBytes p_1 ∧ p_1.length ≤ (1000000000000000 : Nat)) ∧
                                  (Sk.arr (32 : Nat) = Sk.arr (32 : Nat) ∧ (32 : Nat) ≠ (0 : Nat) ∧ (32 : Nat) = (32 : Nat) ∧ false = false) ∧
                                   (((32 : Nat) ≠ (0 : Nat) ∧ (32 : Nat) = (32 : Nat) ∧ true = true) ∧ True) ∧ D.arr IntKind.u8 (32 : Nat) (digL (List.take x (xK k (92 : Nat)) ++ List.take ((↑(32 : Nat) : Int).toNat - (0 : Nat)) (List.drop (0 : Nat) (digL (List.take x (xK k (54 : Nat)) ++ p))))) = F
      | false =>
       True ∧
        True ∧
         True ∧
          (((AV.d (D.val (Value.int IntKind.i64 (0 : Int))) = AV.d (D.val (Value.int IntKind.i64 (↑(Int.toNat (0 : Int)) : Int))) ∧ AV.d (D.str (ints { data := { toList := [] } })) = AV.d (D.str (List.take (Int.toNat (0 : Int)) (xK k (54 : Nat)))) ∧ AV.d (D.str (ints { data := { toList := [] } })) = AV.d (D.str (List.take (Int.toNat (0 : Int)) (xK k (92 : Nat)))) ∧ True) ∧
             (some
                 (Blk.fix
                  (D.arr IntKind.u8 (32 : Nat)
                   [(0 : Int), (0 : Int), (0 : Int), (0 : Int), (0 : Int), (0 : Int), (0 : Int), (0 : Int), (0 : Int), (0 : Int), (0 : Int), (0 : Int), (0 : Int), (0 : Int), (0 : Int), (0 : Int), (0 : Int), (0 : Int), (0 : Int), (0 : Int), (0 : Int), (0 : Int), (0 : Int), (0 : Int), (0 : Int), (0 : Int), (0 : Int), (0 : Int), (0 : Int), (0 : Int), (0 : Int), (0 : Int)])) =
                some
                 (Blk.fix
                  (D.arr IntKind.u8 (32 : Nat)
                   [(0 : Int), (0 : Int), (0 : Int), (0 : Int), (0 : Int), (0 : Int), (0 : Int), (0 : Int), (0 : Int), (0 : Int), (0 : Int), (0 : Int), (0 : Int), (0 : Int), (0 : Int), (0 : Int), (0 : Int), (0 : Int), (0 : Int), (0 : Int), (0 : Int), (0 : Int), (0 : Int), (0 : Int), (0 : Int), (0 : Int), (0 : Int), (0 : Int), (0 : Int), (0 : Int), (0 : Int), (0 : Int)])) ∧
               True) ∧
              true = true) ∧
            Int.toNat (0 : Int) ≤ (64 : Nat)) ∧
           ∀ (x : Nat),
            x ≤ (64 : Nat) →
             true = true ∧
              True ∧
               match decide ((↑x : Int) < (64 : Int)) with
               | true =>
                True ∧
                 True ∧
                  True ∧
                   True ∧
                    True ∧
                     True ∧
                      True ∧
                       match decide ((↑x : Int) < (↑k.length : Int)) with
                       | true =>
                        True ∧
                         True ∧
                          ((0 : Int) ≤ (↑x : Int) ∧ (↑x : Int) < (↑k.length : Int)) ∧
                           True ∧
                            True ∧
                             True ∧
                              True ∧
                               ((1 : Nat) = (1 : Nat) ∧ (1 : Nat) ≤ (4096 : Nat)) ∧
                                isBytes [ixor IntKind.u8 (k.getD (↑x : Int).toNat (0 : Int)) (54 : Int)] ∧
                                 (↑((List.take x (xK k (54 : Nat))).length + (1 : Nat)) : Int) ≤ (9223372036854775807 : Int) ∧
                                  True ∧
                                   True ∧
                                    True ∧
                                     True ∧
                                      ((1 : Nat) = (1 : Nat) ∧ (1 : Nat) ≤ (4096 : Nat)) ∧
                                       isBytes [ixor IntKind.u8 (k.getD (↑x : Int).toNat (0 : Int)) (92 : Int)] ∧
                                        (↑((List.take x (xK k (92 : Nat))).length + (1 : Nat)) : Int) ≤ (9223372036854775807 : Int) ∧
                                         True ∧
                                          True ∧
                                           True ∧
                                            ((AV.d (D.val (Value.int IntKind.i64 (IntKind.i64.wrap ((↑x : Int) + (1 : Int))))) = AV.d (D.val (Value.int IntKind.i64 (↑(IntKind.i64.wrap ((↑x : Int) + (1 : Int))).toNat : Int))) ∧
                                               AV.d (D.str (List.take x (xK k (54 : Nat)) ++ [ixor IntKind.u8 (k.getD (↑x : Int).toNat (0 : Int)) (54 : Int)])) = AV.d (D.str (List.take (IntKind.i64.wrap ((↑x : Int) + (1 : Int))).toNat (xK k (54 : Nat)))) ∧
                                                AV.d (D.str (List.take x (xK k (92 : Nat)) ++ [ixor IntKind.u8 (k.getD (↑x : Int).toNat (0 : Int)) (92 : Int)])) = AV.d (D.str (List.take (IntKind.i64.wrap ((↑x : Int) + (1 : Int))).toNat (xK k (92 : Nat)))) ∧ True) ∧
                                              (some
                                                  (Blk.fix
                                                   (D.arr IntKind.u8 (32 : Nat)
                                                    [(0 : Int), (0 : Int), (0 : Int), (0 : Int), (0 : Int), (0 : Int), (0 : Int), (0 : Int), (0 : Int), (0 : Int), (0 : Int), (0 : Int), (0 : Int), (0 : Int), (0 : Int), (0 : Int), (0 : Int), (0 : Int), (0 : Int), (0 : Int), (0 : Int), (0 : Int), (0 : Int), (0 : Int), (0 : Int), (0 : Int), (0 : Int),
                                                     (0 : Int), (0 : Int), (0 : Int), (0 : Int), (0 : Int)])) =
                                                 some
                                                  (Blk.fix
                                                   (D.arr IntKind.u8 (32 : Nat)
                                                    [(0 : Int), (0 : Int), (0 : Int), (0 : Int), (0 : Int), (0 : Int), (0 : Int), (0 : Int), (0 : Int), (0 : Int), (0 : Int), (0 : Int), (0 : Int), (0 : Int), (0 : Int), (0 : Int), (0 : Int), (0 : Int), (0 : Int), (0 : Int), (0 : Int), (0 : Int), (0 : Int), (0 : Int), (0 : Int), (0 : Int), (0 : Int),
                                                     (0 : Int), (0 : Int), (0 : Int), (0 : Int), (0 : Int)])) ∧
                                                True) ∧
                                               true = true) ∧
                                             (IntKind.i64.wrap ((↑x : Int) + (1 : Int))).toNat ≤ (64 : Nat) ∧ (64 : Nat) - (IntKind.i64.wrap ((↑x : Int) + (1 : Int))).toNat < (64 : Nat) - x
                       | false =>
                        True ∧
                         True ∧
                          True ∧
                           ((1 : Nat) = (1 : Nat) ∧ (1 : Nat) ≤ (4096 : Nat)) ∧
                            isBytes [ixor IntKind.u8 (0 : Int) (54 : Int)] ∧
                             (↑((List.take x (xK k (54 : Nat))).length + (1 : Nat)) : Int) ≤ (9223372036854775807 : Int) ∧
                              True ∧
                               True ∧
                                True ∧
                                 True ∧
                                  ((1 : Nat) = (1 : Nat) ∧ (1 : Nat) ≤ (4096 : Nat)) ∧
                                   isBytes [ixor IntKind.u8 (0 : Int) (92 : Int)] ∧
                                    (↑((List.take x (xK k (92 : Nat))).length + (1 : Nat)) : Int) ≤ (9223372036854775807 : Int) ∧
                                     True ∧
                                      True ∧
                                       True ∧
                                        ((AV.d (D.val (Value.int IntKind.i64 (IntKind.i64.wrap ((↑x : Int) + (1 : Int))))) = AV.d (D.val (Value.int IntKind.i64 (↑(IntKind.i64.wrap ((↑x : Int) + (1 : Int))).toNat : Int))) ∧
                                           AV.d (D.str (List.take x (xK k (54 : Nat)) ++ [ixor IntKind.u8 (0 : Int) (54 : Int)])) = AV.d (D.str (List.take (IntKind.i64.wrap ((↑x : Int) + (1 : Int))).toNat (xK k (54 : Nat)))) ∧
                                            AV.d (D.str (List.take x (xK k (92 : Nat)) ++ [ixor IntKind.u8 (0 : Int) (92 : Int)])) = AV.d (D.str (List.take (IntKind.i64.wrap ((↑x : Int) + (1 : Int))).toNat (xK k (92 : Nat)))) ∧ True) ∧
                                          (some
                                              (Blk.fix
                                               (D.arr IntKind.u8 (32 : Nat)
                                                [(0 : Int), (0 : Int), (0 : Int), (0 : Int), (0 : Int), (0 : Int), (0 : Int), (0 : Int), (0 : Int), (0 : Int), (0 : Int), (0 : Int), (0 : Int), (0 : Int), (0 : Int), (0 : Int), (0 : Int), (0 : Int), (0 : Int), (0 : Int), (0 : Int), (0 : Int), (0 : Int), (0 : Int), (0 : Int), (0 : Int), (0 : Int),
                                                 (0 : Int), (0 : Int), (0 : Int), (0 : Int), (0 : Int)])) =
                                             some
                                              (Blk.fix
                                               (D.arr IntKind.u8 (32 : Nat)
                                                [(0 : Int), (0 : Int), (0 : Int), (0 : Int), (0 : Int), (0 : Int), (0 : Int), (0 : Int), (0 : Int), (0 : Int), (0 : Int), (0 : Int), (0 : Int), (0 : Int), (0 : Int), (0 : Int), (0 : Int), (0 : Int), (0 : Int), (0 : Int), (0 : Int), (0 : Int), (0 : Int), (0 : Int), (0 : Int), (0 : Int), (0 : Int),
                                                 (0 : Int), (0 : Int), (0 : Int), (0 : Int), (0 : Int)])) ∧
                                            True) ∧
                                           true = true) ∧
                                         (IntKind.i64.wrap ((↑x : Int) + (1 : Int))).toNat ≤ (64 : Nat) ∧ (64 : Nat) - (IntKind.i64.wrap ((↑x : Int) + (1 : Int))).toNat < (64 : Nat) - x
               | false =>
                True ∧
                 True ∧
                  (↑((List.take x (xK k (54 : Nat))).length + p.length) : Int) ≤ (9223372036854775807 : Int) ∧
                   (∃ (p_1 : List Int), [D.str (List.take x (xK k (54 : Nat)) ++ p)] = [D.str p_1] ∧ isBytes p_1 ∧ p_1.length ≤ (1000000000000000 : Nat)) ∧
                    (True ∧ (32 : Nat) ≠ (0 : Nat)) ∧
                     (Sk.arr (32 : Nat) = Sk.arr (32 : Nat) ∧ (32 : Nat) ≠ (0 : Nat) ∧ (32 : Nat) = (32 : Nat) ∧ false = false) ∧
                      True ∧
                       ((0 : Int) ≤ (0 : Int) ∧ (0 : Int) ≤ (↑(32 : Nat) : Int) ∧ (↑(32 : Nat) : Int) ≤ (↑(32 : Nat) : Int) ∧ (32 : Nat) = (32 : Nat) ∧ (1 : Nat) = (1 : Nat)) ∧
                        isBytes (List.take ((↑(32 : Nat) : Int).toNat - (0 : Nat)) (List.drop (0 : Nat) (digL (List.take x (xK k (54 : Nat)) ++ p)))) ∧
                         (↑((List.take x (xK k (92 : Nat))).length + (List.take ((↑(32 : Nat) : Int).toNat - (0 : Nat)) (List.drop (0 : Nat) (digL (List.take x (xK k (54 : Nat)) ++ p)))).length) : Int) ≤ (9223372036854775807 : Int) ∧
                          (∃ (p_1 : List Int), [D.str (List.take x (xK k (92 : Nat)) ++ List.take ((↑(32 : Nat) : Int).toNat - (0 : Nat)) (List.drop (0 : Nat) (digL (List.take x (xK k (54 : Nat)) ++ p))))] = [D.str p_1] ∧ isBytes p_1 ∧ p_1.length ≤ (1000000000000000 : Nat)) ∧
                           (Sk.arr (32 : Nat) = Sk.arr (32 : Nat) ∧ (32 : Nat) ≠ (0 : Nat) ∧ (32 : Nat) = (32 : Nat) ∧ false = false) ∧
                            (((32 : Nat) ≠ (0 : Nat) ∧ (32 : Nat) = (32 : Nat) ∧ true = true) ∧ True) ∧ D.arr IntKind.u8 (32 : Nat) (digL (List.take x (xK k (92 : Nat)) ++ List.take ((↑(32 : Nat) : Int).toNat - (0 : Nat)) (List.drop (0 : Nat) (digL (List.take x (xK k (54 : Nat)) ++ p))))) = F) := by kernel_rfl
set_option maxRecDepth 100000 in
theorem vc24  (a b : List Int) (F : D)  :
    (owed c0 (inv24 a b) Tryd.f24 [.ints .u8 a, .ints .u8 b] F) = (
 True ∧
   True ∧
    True ∧
     True ∧
      True ∧
       True ∧
        True ∧
         True ∧
          True ∧
           True ∧
            True ∧
             IntKind.i64 = IntKind.i64 ∧
              True ∧
               (((AV.d (D.val (Value.int IntKind.i64 (0 : Int))) = AV.d (D.val (Value.int IntKind.i64 (↑(0 : Nat) : Int))) ∧ AV.d (D.val (Value.int IntKind.i64 (ixor IntKind.i64 (↑a.length : Int) (↑b.length : Int)))) = AV.d (D.val (Value.int IntKind.i64 (↑(ixor IntKind.i64 (↑a.length : Int) (↑b.length : Int)).toNat : Int))) ∧ True) ∧ True ∧ true = true) ∧
                 sameI a b (0 : Nat) (ixor IntKind.i64 (↑a.length : Int) (↑b.length : Int)).toNat) ∧
                ∀ (x : Nat × Nat),
                 sameI a b x.fst x.snd →
                  true = true ∧
                   True ∧
                    match decide ((↑x.fst : Int) < bif decide ((↑b.length : Int) < (↑a.length : Int)) then (↑b.length : Int) else (↑a.length : Int)) with
                    | true =>
                     True ∧
                      True ∧
                       True ∧
                        True ∧
                         True ∧
                          ((0 : Int) ≤ (↑x.fst : Int) ∧ (↑x.fst : Int) < (↑a.length : Int) ∧ (1 : Nat) = (1 : Nat)) ∧
                           ((1 : Nat) ≠ (0 : Nat) ∧ (1 : Nat) = (1 : Nat) ∧ false = false) ∧
                            True ∧
                             True ∧
                              ((0 : Int) ≤ (↑x.fst : Int) ∧ (↑x.fst : Int) < (↑b.length : Int) ∧ (1 : Nat) = (1 : Nat)) ∧
                               ((1 : Nat) ≠ (0 : Nat) ∧ (1 : Nat) = (1 : Nat) ∧ false = false) ∧
                                True ∧
                                 True ∧
                                  True ∧
                                   True ∧
                                    True ∧
                                     True ∧
                                      ((AV.d (D.val (Value.int IntKind.i64 (IntKind.i64.wrap ((↑x.fst : Int) + (1 : Int))))) = AV.d (D.val (Value.int IntKind.i64 (↑(IntKind.i64.wrap ((↑x.fst : Int) + (1 : Int))).toNat : Int))) ∧
                                         AV.d (D.val (Value.int IntKind.i64 (ior IntKind.i64 (↑x.snd : Int) (IntKind.i64.wrap (ixor IntKind.u8 (a.getD (↑x.fst : Int).toNat (0 : Int)) (b.getD (↑x.fst : Int).toNat (0 : Int))))))) =
                                           AV.d (D.val (Value.int IntKind.i64 (↑(ior IntKind.i64 (↑x.snd : Int) (IntKind.i64.wrap (ixor IntKind.u8 (a.getD (↑x.fst : Int).toNat (0 : Int)) (b.getD (↑x.fst : Int).toNat (0 : Int))))).toNat : Int))) ∧
                                          True) ∧
                                        True ∧ true = true) ∧
                                       sameI a b (IntKind.i64.wrap ((↑x.fst : Int) + (1 : Int))).toNat (ior IntKind.i64 (↑x.snd : Int) (IntKind.i64.wrap (ixor IntKind.u8 (a.getD (↑x.fst : Int).toNat (0 : Int)) (b.getD (↑x.fst : Int).toNat (0 : Int))))).toNat ∧ a.length - (IntKind.i64.wrap ((↑x.fst : Int) + (1 : Int))).toNat < a.length - x.fst
                    | false => True ∧ True ∧ True ∧ (false = false ∧ True) ∧ D.val (Value.bool ((↑x.snd : Int) == (0 : Int))) = F) := by kernel_rfl
set_option maxRecDepth 100000 in
theorem vc25  (a b : List Int) (F : D)  :
    (owed c0 (fun _ => none) Tryd.f25 [.ints .u8 a, .ints .u8 b] F) = (
 True ∧ True ∧ isBytes a ∧ True ∧ isBytes b ∧ True ∧ True ∧ (false = false ∧ True) ∧ D.val (Value.bool (eqB a b)) = F) := by kernel_rfl

end Go.Proofs.YtcdjhhepgkcabaaDoor
