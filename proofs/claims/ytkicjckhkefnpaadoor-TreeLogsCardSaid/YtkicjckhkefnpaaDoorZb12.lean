/- package hash: Write, Pad; the reference's PadText. -/
import Derived.Test.YtkicjckhkefnpaaDoorZb11
namespace Go.Proofs.YtkicjckhkefnpaaDoor
open Go Go.Vg

structure HS where
  h : R8
  n : Nat
  l : List Int
abbrev stD (s : HS) : D := .st [a8 s.h.l, .val (.int .u64 (s.n : Int)), .arr .u8 64 s.l]
def stp (s : HS) (b : Int) : HS :=
  let l' := s.l.set (s.n % 64) b
  let n' := (s.n + 1) % 18446744073709551616
  if n' % 64 = 0 then ⟨pr s.h l', n', l'⟩ else ⟨s.h, n', l'⟩
def wrS (s : HS) (p : List Int) : HS := p.foldl stp s
def ofS (d : D) : HS := ⟨ofR (arrOf (fldOf d 0)), (numOf (fldOf d 1)).toNat, arrOf (fldOf d 2)⟩
def okS (s : HS) : Prop := s.l.length = 64 ∧ isBytes s.l ∧ s.n < 18446744073709551616
def sp76 : Go.Vg.Spec := ⟨fun ds => ∃ s p, ds = [stD s, .ints .u8 p] ∧ okS s ∧ isBytes p ∧ p.length ≤ 1000000000000000, fun ds => stD (wrS (ofS (ds.headD default)) (intsOf (ds.getD 1 default))), true, [117, 26]⟩
def zc (n : Nat) : Nat := (119 - n % 64) % 64
def tl (b : Nat) : Nat → List Int
  | 0 => []
  | k + 1 => ((b / 256 ^ k % 256 : Nat) : Int) :: tl b k
def padL (n : Nat) : List Int := 128 :: (List.replicate (zc n) 0 ++ tl (8 * n % 18446744073709551616) 8)
def sp118 : Go.Vg.Spec := ⟨fun ds => ∃ n, ds = [.val (.int .u64 ((n : Nat) : Int))] ∧ n < 18446744073709551616, fun ds => .ints .u8 (padL (numOf (ds.headD default)).toNat), false, [73]⟩
def sp127 : Go.Vg.Spec := ⟨fun ds => ∃ n, ds = [.val (.int .u64 ((n : Nat) : Int))] ∧ n < 18446744073709551616, fun ds => .str (padL (numOf (ds.headD default)).toNat), true, [73]⟩
def c76 : Ctx := ⟨tab, lkS [(117, sp117)], [], []⟩
def c118 : Ctx := ⟨tab, fun _ => none, [5], []⟩
def inv76 (s : HS) (p : List Int) : Nat → Option Inv
  | 2 => some ⟨Nat, fun i => [(9, .d (i64 i))], fun i => [(2, .fix (stD (wrS s (p.take i))))], fun s => (slotN s 9).toNat, fun _ i => i ≤ p.length, fun i => p.length - i⟩
  | _ => none
def pz (n i : Nat) : List Int := 128 :: List.replicate i 0
def pt (n i : Nat) : List Int := 128 :: (List.replicate (zc n) 0 ++ (tl (8 * n % 18446744073709551616) 8).take i)
def inv118 (n : Nat) : Nat → Option Inv
  | 2 => some ⟨Nat, fun _ => [(3, .row 5), (5, .any)], fun i => [(5, .row 5 (.ints .u8 (pz n i)))], fun s => (rowD s 5).length - 1, fun _ i => i ≤ zc n, fun i => zc n - i⟩
  | 5 => some ⟨Nat, fun i => [(16, .d (i64 i)), (3, .row 5), (7, .any)], fun i => [(5, .row 5 (.ints .u8 (pt n i)))], fun s => (slotN s 16).toNat, fun _ i => i ≤ 8, fun i => 8 - i⟩
  | _ => none
def inv127 (n : Nat) : Nat → Option Inv
  | 3 => some ⟨Nat, fun i => [(3, .d (.str (pz n i)))], fun _ => [], fun s => (strOf (slotD s 3)).length - 1, fun _ i => i ≤ zc n, fun i => zc n - i⟩
  | 8 => some ⟨Nat, fun i => [(21, .d (i64 i)), (5, .d (.val (.int .u64 ((8 * n % 18446744073709551616 / 256 ^ i : Nat) : Int)))), (6, .d (.str (tl (8 * n % 18446744073709551616) i)))], fun _ => [], fun s => (slotN s 21).toNat, fun _ i => i ≤ 8, fun i => 8 - i⟩
  | _ => none
--KEEP BitVec.toNat prL pr R8.l wrS ofS okS padL zc tl pz pt
set_option maxRecDepth 100000 in
theorem vc76  (s : HS) (p : List Int) (F : D)  :
    (owed c76 (inv76 s p) Tryd.f76 [stD s, .ints .u8 p] F) = (
 (True ∧ false = false) ∧
   (True ∧ (73 : Nat) ≠ (0 : Nat)) ∧
    True ∧
     True ∧
      True ∧
       (((AV.d (D.val (Value.int IntKind.i64 (0 : Int))) = AV.d (D.val (Value.int IntKind.i64 (↑(Int.toNat (0 : Int)) : Int))) ∧ True) ∧
          (some (Blk.fix (D.st [D.arr IntKind.u32 (8 : Nat) [(↑(BitVec.toNat s.h.a) : Int), (↑(BitVec.toNat s.h.b) : Int), (↑(BitVec.toNat s.h.c) : Int), (↑(BitVec.toNat s.h.d) : Int), (↑(BitVec.toNat s.h.e) : Int), (↑(BitVec.toNat s.h.f) : Int), (↑(BitVec.toNat s.h.g) : Int), (↑(BitVec.toNat s.h.h) : Int)], D.val (Value.int IntKind.u64 (↑s.n : Int)), D.arr IntKind.u8 (64 : Nat) s.l])) =
             some
              (Blk.fix
               (D.st
                [D.arr IntKind.u32 (8 : Nat)
                  [(↑(BitVec.toNat (wrS s (List.take (Int.toNat (0 : Int)) p)).h.a) : Int), (↑(BitVec.toNat (wrS s (List.take (Int.toNat (0 : Int)) p)).h.b) : Int), (↑(BitVec.toNat (wrS s (List.take (Int.toNat (0 : Int)) p)).h.c) : Int), (↑(BitVec.toNat (wrS s (List.take (Int.toNat (0 : Int)) p)).h.d) : Int), (↑(BitVec.toNat (wrS s (List.take (Int.toNat (0 : Int)) p)).h.e) : Int),
                   (↑(BitVec.toNat (wrS s (List.take (Int.toNat (0 : Int)) p)).h.f) : Int), (↑(BitVec.toNat (wrS s (List.take (Int.toNat (0 : Int)) p)).h.g) : Int), (↑(BitVec.toNat (wrS s (List.take (Int.toNat (0 : Int)) p)).h.h) : Int)],
                 D.val (Value.int IntKind.u64 (↑(wrS s (List.take (Int.toNat (0 : Int)) p)).n : Int)), D.arr IntKind.u8 (64 : Nat) (wrS s (List.take (Int.toNat (0 : Int)) p)).l])) ∧
            some
               (Blk.fix
                (D.st
                 [D.arr IntKind.u32 (8 : Nat) [(0 : Int), (0 : Int), (0 : Int), (0 : Int), (0 : Int), (0 : Int), (0 : Int), (0 : Int)], D.val (Value.int IntKind.u64 (0 : Int)),
                  D.arr IntKind.u8 (64 : Nat)
                   (List.replicate (64 : Nat) (0 : Int))])) =
              some
               (Blk.fix
                (D.st
                 [D.arr IntKind.u32 (8 : Nat) [(0 : Int), (0 : Int), (0 : Int), (0 : Int), (0 : Int), (0 : Int), (0 : Int), (0 : Int)], D.val (Value.int IntKind.u64 (0 : Int)),
                  D.arr IntKind.u8 (64 : Nat)
                   (List.replicate (64 : Nat) (0 : Int))])) ∧
             True) ∧
           true = true) ∧
         Int.toNat (0 : Int) ≤ p.length) ∧
        ∀ (x : Nat),
         x ≤ p.length →
          true = true ∧
           True ∧
            match decide ((↑x : Int) < (↑p.length : Int)) with
            | true =>
             ((0 : Int) ≤ (↑x : Int) ∧ (↑x : Int) < (↑p.length : Int) ∧ (1 : Nat) = (1 : Nat)) ∧
              ((1 : Nat) ≠ (0 : Nat) ∧ (1 : Nat) = (1 : Nat) ∧ false = false) ∧
               True ∧
                (Sk.st [Sk.arr (8 : Nat), Sk.one, Sk.arr (64 : Nat)] = Sk.st [Sk.arr (8 : Nat), Sk.one, Sk.arr (64 : Nat)] ∧ (1 : Nat) < (3 : Nat)) ∧
                 ((1 : Nat) ≠ (0 : Nat) ∧ (1 : Nat) = (1 : Nat) ∧ false = false) ∧
                  (64 : Int) ≠ (0 : Int) ∧
                   True ∧
                    (Sk.st [Sk.arr (8 : Nat), Sk.one, Sk.arr (64 : Nat)] = Sk.st [Sk.arr (8 : Nat), Sk.one, Sk.arr (64 : Nat)] ∧ (2 : Nat) < (3 : Nat)) ∧
                     ((0 : Int) ≤ (↑(wrS s (List.take x p)).n : Int).tmod (64 : Int) ∧ (↑(wrS s (List.take x p)).n : Int).tmod (64 : Int) < (↑(64 : Nat) : Int) ∧ (64 : Nat) = (64 : Nat) ∧ (1 : Nat) = (1 : Nat)) ∧
                      (((2 : Nat) < (3 : Nat) ∧ ((↑(wrS s (List.take x p)).n : Int).tmod (64 : Int)).toNat < (64 : Nat) ∧ ([] : List Nat) = [] ∧ true = true) ∧ (1 : Nat) ≠ (0 : Nat) ∧ (1 : Nat) = (1 : Nat) ∧ false = false) ∧
                       (Sk.st [Sk.arr (8 : Nat), Sk.one, Sk.arr (64 : Nat)] = Sk.st [Sk.arr (8 : Nat), Sk.one, Sk.arr (64 : Nat)] ∧ (1 : Nat) < (3 : Nat)) ∧
                        ((1 : Nat) ≠ (0 : Nat) ∧ (1 : Nat) = (1 : Nat) ∧ false = false) ∧
                         True ∧
                          (Sk.st [Sk.arr (8 : Nat), Sk.one, Sk.arr (64 : Nat)] = Sk.st [Sk.arr (8 : Nat), Sk.one, Sk.arr (64 : Nat)] ∧ (1 : Nat) < (3 : Nat)) ∧
                           (((1 : Nat) < (3 : Nat) ∧ Sk.one = Sk.one) ∧ (1 : Nat) ≠ (0 : Nat) ∧ (1 : Nat) = (1 : Nat) ∧ false = false) ∧
                            (Sk.st [Sk.arr (8 : Nat), Sk.one, Sk.arr (64 : Nat)] = Sk.st [Sk.arr (8 : Nat), Sk.one, Sk.arr (64 : Nat)] ∧ (1 : Nat) < (3 : Nat)) ∧
                             ((1 : Nat) ≠ (0 : Nat) ∧ (1 : Nat) = (1 : Nat) ∧ false = false) ∧
                              (64 : Int) ≠ (0 : Int) ∧
                               True ∧
                                match (IntKind.u64.wrap ((↑(wrS s (List.take x p)).n : Int) + (1 : Int))).tmod (64 : Int) == (0 : Int) with
                                | true =>
                                 (Sk.st [Sk.arr (8 : Nat), Sk.one, Sk.arr (64 : Nat)] = Sk.st [Sk.arr (8 : Nat), Sk.one, Sk.arr (64 : Nat)] ∧ (0 : Nat) < (3 : Nat)) ∧
                                  ((8 : Nat) ≠ (0 : Nat) ∧ (8 : Nat) = (8 : Nat) ∧ true = true) ∧
                                   (Sk.st [Sk.arr (8 : Nat), Sk.one, Sk.arr (64 : Nat)] = Sk.st [Sk.arr (8 : Nat), Sk.one, Sk.arr (64 : Nat)] ∧ (2 : Nat) < (3 : Nat)) ∧
                                    ((64 : Nat) ≠ (0 : Nat) ∧ (64 : Nat) = (64 : Nat) ∧ true = true) ∧
                                     (∃ (x_1 : R8),
                                       ∃ (l : List Int),
                                        [D.arr IntKind.u32 (8 : Nat)
                                            [(↑(BitVec.toNat (wrS s (List.take x p)).h.a) : Int), (↑(BitVec.toNat (wrS s (List.take x p)).h.b) : Int), (↑(BitVec.toNat (wrS s (List.take x p)).h.c) : Int), (↑(BitVec.toNat (wrS s (List.take x p)).h.d) : Int), (↑(BitVec.toNat (wrS s (List.take x p)).h.e) : Int),
                                             (↑(BitVec.toNat (wrS s (List.take x p)).h.f) : Int), (↑(BitVec.toNat (wrS s (List.take x p)).h.g) : Int), (↑(BitVec.toNat (wrS s (List.take x p)).h.h) : Int)],
                                           D.arr IntKind.u8 (64 : Nat) ((wrS s (List.take x p)).l.set ((↑(wrS s (List.take x p)).n : Int).tmod (64 : Int)).toNat (p.getD (↑x : Int).toNat (0 : Int)))] =
                                          [D.arr IntKind.u32 (8 : Nat) [(↑(BitVec.toNat x_1.a) : Int), (↑(BitVec.toNat x_1.b) : Int), (↑(BitVec.toNat x_1.c) : Int), (↑(BitVec.toNat x_1.d) : Int), (↑(BitVec.toNat x_1.e) : Int), (↑(BitVec.toNat x_1.f) : Int), (↑(BitVec.toNat x_1.g) : Int), (↑(BitVec.toNat x_1.h) : Int)], D.arr IntKind.u8 (64 : Nat) l] ∧
                                         isBytes l ∧ l.length = (64 : Nat)) ∧
                                      (Sk.st [Sk.arr (8 : Nat), Sk.one, Sk.arr (64 : Nat)] = Sk.st [Sk.arr (8 : Nat), Sk.one, Sk.arr (64 : Nat)] ∧ (0 : Nat) < (3 : Nat)) ∧
                                       (((0 : Nat) < (3 : Nat) ∧ Sk.arr (8 : Nat) = Sk.arr (8 : Nat)) ∧ (8 : Nat) ≠ (0 : Nat) ∧ (8 : Nat) = (8 : Nat) ∧ false = false) ∧
                                        True ∧
                                         True ∧
                                          ((AV.d (D.val (Value.int IntKind.i64 (IntKind.i64.wrap ((↑x : Int) + (1 : Int))))) = AV.d (D.val (Value.int IntKind.i64 (↑(IntKind.i64.wrap ((↑x : Int) + (1 : Int))).toNat : Int))) ∧ True) ∧
                                            (some
                                                (Blk.fix
                                                 (D.st
                                                  [D.arr IntKind.u32 (8 : Nat)
                                                    (prL
                                                     [(↑(BitVec.toNat (wrS s (List.take x p)).h.a) : Int), (↑(BitVec.toNat (wrS s (List.take x p)).h.b) : Int), (↑(BitVec.toNat (wrS s (List.take x p)).h.c) : Int), (↑(BitVec.toNat (wrS s (List.take x p)).h.d) : Int), (↑(BitVec.toNat (wrS s (List.take x p)).h.e) : Int),
                                                      (↑(BitVec.toNat (wrS s (List.take x p)).h.f) : Int), (↑(BitVec.toNat (wrS s (List.take x p)).h.g) : Int), (↑(BitVec.toNat (wrS s (List.take x p)).h.h) : Int)]
                                                     ((wrS s (List.take x p)).l.set ((↑(wrS s (List.take x p)).n : Int).tmod (64 : Int)).toNat (p.getD (↑x : Int).toNat (0 : Int)))),
                                                   D.val (Value.int IntKind.u64 (IntKind.u64.wrap ((↑(wrS s (List.take x p)).n : Int) + (1 : Int)))), D.arr IntKind.u8 (64 : Nat) ((wrS s (List.take x p)).l.set ((↑(wrS s (List.take x p)).n : Int).tmod (64 : Int)).toNat (p.getD (↑x : Int).toNat (0 : Int)))])) =
                                               some
                                                (Blk.fix
                                                 (D.st
                                                  [D.arr IntKind.u32 (8 : Nat)
                                                    [(↑(BitVec.toNat (wrS s (List.take (IntKind.i64.wrap ((↑x : Int) + (1 : Int))).toNat p)).h.a) : Int), (↑(BitVec.toNat (wrS s (List.take (IntKind.i64.wrap ((↑x : Int) + (1 : Int))).toNat p)).h.b) : Int),
                                                     (↑(BitVec.toNat (wrS s (List.take (IntKind.i64.wrap ((↑x : Int) + (1 : Int))).toNat p)).h.c) : Int), (↑(BitVec.toNat (wrS s (List.take (IntKind.i64.wrap ((↑x : Int) + (1 : Int))).toNat p)).h.d) : Int),
                                                     (↑(BitVec.toNat (wrS s (List.take (IntKind.i64.wrap ((↑x : Int) + (1 : Int))).toNat p)).h.e) : Int), (↑(BitVec.toNat (wrS s (List.take (IntKind.i64.wrap ((↑x : Int) + (1 : Int))).toNat p)).h.f) : Int),
                                                     (↑(BitVec.toNat (wrS s (List.take (IntKind.i64.wrap ((↑x : Int) + (1 : Int))).toNat p)).h.g) : Int), (↑(BitVec.toNat (wrS s (List.take (IntKind.i64.wrap ((↑x : Int) + (1 : Int))).toNat p)).h.h) : Int)],
                                                   D.val (Value.int IntKind.u64 (↑(wrS s (List.take (IntKind.i64.wrap ((↑x : Int) + (1 : Int))).toNat p)).n : Int)), D.arr IntKind.u8 (64 : Nat) (wrS s (List.take (IntKind.i64.wrap ((↑x : Int) + (1 : Int))).toNat p)).l])) ∧
                                              some
                                                 (Blk.fix
                                                  (D.st
                                                   [D.arr IntKind.u32 (8 : Nat) [(0 : Int), (0 : Int), (0 : Int), (0 : Int), (0 : Int), (0 : Int), (0 : Int), (0 : Int)], D.val (Value.int IntKind.u64 (0 : Int)),
                                                    D.arr IntKind.u8 (64 : Nat)
                                                     (List.replicate (64 : Nat) (0 : Int))])) =
                                                some
                                                 (Blk.fix
                                                  (D.st
                                                   [D.arr IntKind.u32 (8 : Nat) [(0 : Int), (0 : Int), (0 : Int), (0 : Int), (0 : Int), (0 : Int), (0 : Int), (0 : Int)], D.val (Value.int IntKind.u64 (0 : Int)),
                                                    D.arr IntKind.u8 (64 : Nat)
                                                     (List.replicate (64 : Nat) (0 : Int))])) ∧
                                               True) ∧
                                             true = true) ∧
                                           (IntKind.i64.wrap ((↑x : Int) + (1 : Int))).toNat ≤ p.length ∧ p.length - (IntKind.i64.wrap ((↑x : Int) + (1 : Int))).toNat < p.length - x
                                | false =>
                                 True ∧
                                  True ∧
                                   ((AV.d (D.val (Value.int IntKind.i64 (IntKind.i64.wrap ((↑x : Int) + (1 : Int))))) = AV.d (D.val (Value.int IntKind.i64 (↑(IntKind.i64.wrap ((↑x : Int) + (1 : Int))).toNat : Int))) ∧ True) ∧
                                     (some
                                         (Blk.fix
                                          (D.st
                                           [D.arr IntKind.u32 (8 : Nat)
                                             [(↑(BitVec.toNat (wrS s (List.take x p)).h.a) : Int), (↑(BitVec.toNat (wrS s (List.take x p)).h.b) : Int), (↑(BitVec.toNat (wrS s (List.take x p)).h.c) : Int), (↑(BitVec.toNat (wrS s (List.take x p)).h.d) : Int), (↑(BitVec.toNat (wrS s (List.take x p)).h.e) : Int),
                                              (↑(BitVec.toNat (wrS s (List.take x p)).h.f) : Int), (↑(BitVec.toNat (wrS s (List.take x p)).h.g) : Int), (↑(BitVec.toNat (wrS s (List.take x p)).h.h) : Int)],
                                            D.val (Value.int IntKind.u64 (IntKind.u64.wrap ((↑(wrS s (List.take x p)).n : Int) + (1 : Int)))), D.arr IntKind.u8 (64 : Nat) ((wrS s (List.take x p)).l.set ((↑(wrS s (List.take x p)).n : Int).tmod (64 : Int)).toNat (p.getD (↑x : Int).toNat (0 : Int)))])) =
                                        some
                                         (Blk.fix
                                          (D.st
                                           [D.arr IntKind.u32 (8 : Nat)
                                             [(↑(BitVec.toNat (wrS s (List.take (IntKind.i64.wrap ((↑x : Int) + (1 : Int))).toNat p)).h.a) : Int), (↑(BitVec.toNat (wrS s (List.take (IntKind.i64.wrap ((↑x : Int) + (1 : Int))).toNat p)).h.b) : Int), (↑(BitVec.toNat (wrS s (List.take (IntKind.i64.wrap ((↑x : Int) + (1 : Int))).toNat p)).h.c) : Int),
                                              (↑(BitVec.toNat (wrS s (List.take (IntKind.i64.wrap ((↑x : Int) + (1 : Int))).toNat p)).h.d) : Int), (↑(BitVec.toNat (wrS s (List.take (IntKind.i64.wrap ((↑x : Int) + (1 : Int))).toNat p)).h.e) : Int), (↑(BitVec.toNat (wrS s (List.take (IntKind.i64.wrap ((↑x : Int) + (1 : Int))).toNat p)).h.f) : Int),
                                              (↑(BitVec.toNat (wrS s (List.take (IntKind.i64.wrap ((↑x : Int) + (1 : Int))).toNat p)).h.g) : Int), (↑(BitVec.toNat (wrS s (List.take (IntKind.i64.wrap ((↑x : Int) + (1 : Int))).toNat p)).h.h) : Int)],
                                            D.val (Value.int IntKind.u64 (↑(wrS s (List.take (IntKind.i64.wrap ((↑x : Int) + (1 : Int))).toNat p)).n : Int)), D.arr IntKind.u8 (64 : Nat) (wrS s (List.take (IntKind.i64.wrap ((↑x : Int) + (1 : Int))).toNat p)).l])) ∧
                                       some
                                          (Blk.fix
                                           (D.st
                                            [D.arr IntKind.u32 (8 : Nat) [(0 : Int), (0 : Int), (0 : Int), (0 : Int), (0 : Int), (0 : Int), (0 : Int), (0 : Int)], D.val (Value.int IntKind.u64 (0 : Int)),
                                             D.arr IntKind.u8 (64 : Nat)
                                              (List.replicate (64 : Nat) (0 : Int))])) =
                                         some
                                          (Blk.fix
                                           (D.st
                                            [D.arr IntKind.u32 (8 : Nat) [(0 : Int), (0 : Int), (0 : Int), (0 : Int), (0 : Int), (0 : Int), (0 : Int), (0 : Int)], D.val (Value.int IntKind.u64 (0 : Int)),
                                             D.arr IntKind.u8 (64 : Nat)
                                              (List.replicate (64 : Nat) (0 : Int))])) ∧
                                        True) ∧
                                      true = true) ∧
                                    (IntKind.i64.wrap ((↑x : Int) + (1 : Int))).toNat ≤ p.length ∧ p.length - (IntKind.i64.wrap ((↑x : Int) + (1 : Int))).toNat < p.length - x
            | false =>
             ((73 : Nat) ≠ (0 : Nat) ∧ (73 : Nat) = (73 : Nat) ∧ true = true) ∧
              (Sk.st [Sk.arr (8 : Nat), Sk.one, Sk.arr (64 : Nat)] = Sk.st [Sk.arr (8 : Nat), Sk.one, Sk.arr (64 : Nat)] ∧ (73 : Nat) ≠ (0 : Nat) ∧ (73 : Nat) = (73 : Nat) ∧ false = false) ∧
               (((73 : Nat) ≠ (0 : Nat) ∧ (73 : Nat) = (73 : Nat) ∧ true = true) ∧ True) ∧
                D.st
                  [D.arr IntKind.u32 (8 : Nat)
                    [(↑(BitVec.toNat (wrS s (List.take x p)).h.a) : Int), (↑(BitVec.toNat (wrS s (List.take x p)).h.b) : Int), (↑(BitVec.toNat (wrS s (List.take x p)).h.c) : Int), (↑(BitVec.toNat (wrS s (List.take x p)).h.d) : Int), (↑(BitVec.toNat (wrS s (List.take x p)).h.e) : Int), (↑(BitVec.toNat (wrS s (List.take x p)).h.f) : Int),
                     (↑(BitVec.toNat (wrS s (List.take x p)).h.g) : Int), (↑(BitVec.toNat (wrS s (List.take x p)).h.h) : Int)],
                   D.val (Value.int IntKind.u64 (↑(wrS s (List.take x p)).n : Int)), D.arr IntKind.u8 (64 : Nat) (wrS s (List.take x p)).l] =
                 F) := by kernel_rfl
set_option maxRecDepth 100000 in
theorem vc118  (n : Nat) (F : D)  :
    (owed c118 (inv118 n) Tryd.f118 [.val (.int .u64 (n : Int))] F) = (
 True ∧
   ((1 : Nat) = (1 : Nat) ∧ (1 : Nat) ≤ (4096 : Nat)) ∧
    True ∧
     (((AV.d (D.val (Value.int IntKind.u64 (↑n : Int))) = AV.d (D.val (Value.int IntKind.u64 (↑n : Int))) ∧ AV.d (D.val (Value.slice none (0 : Nat) (0 : Nat))) = AV.d (D.val (Value.slice none (0 : Nat) (0 : Nat))) ∧ AV.row (5 : Nat) = AV.row (5 : Nat) ∧ True) ∧
        (some (Blk.row (5 : TypeId) (D.ints IntKind.u8 [(128 : Int)])) = some (Blk.row (5 : TypeId) (D.ints IntKind.u8 (pz n ((1 : Nat) - (1 : Nat))))) ∧ True) ∧ true = true) ∧
       (1 : Nat) - (1 : Nat) ≤ zc n) ∧
      ∀ (x : Nat),
       x ≤ zc n →
        true = true ∧
         True ∧
          True ∧
           True ∧
            True ∧
             True ∧
              (64 : Int) ≠ (0 : Int) ∧
               True ∧
                match (IntKind.u64.wrap ((↑n : Int) + IntKind.u64.wrap (↑(pz n x).length : Int))).tmod (64 : Int) != (56 : Int) with
                | true =>
                 True ∧
                  ((1 : Nat) = (1 : Nat) ∧ (1 : Nat) ≤ (4096 : Nat)) ∧
                   ((5 : TypeId) = (5 : TypeId) ∧ (26 : Nat) = (26 : Nat) ∧ true = true ∧ (pz n x ++ [(0 : Int)]).length ≤ (140737488355328 : Nat) ∧ (pz n x ++ [(0 : Int)]).length * (1 : Nat) ≤ (140737488355328 : Nat) ∧ (1 : Nat) ≠ (0 : Nat) ∧ (1 : Nat) = (1 : Nat)) ∧
                    True ∧
                     ((AV.d (D.val (Value.int IntKind.u64 (↑n : Int))) = AV.d (D.val (Value.int IntKind.u64 (↑n : Int))) ∧ AV.d (D.val (Value.slice none (0 : Nat) (0 : Nat))) = AV.d (D.val (Value.slice none (0 : Nat) (0 : Nat))) ∧ AV.row (5 : Nat) = AV.row (5 : Nat) ∧ True) ∧
                       (some (Blk.row (5 : TypeId) (D.ints IntKind.u8 (pz n x ++ [(0 : Int)]))) = some (Blk.row (5 : TypeId) (D.ints IntKind.u8 (pz n ((pz n x ++ [(0 : Int)]).length - (1 : Nat))))) ∧ True) ∧ true = true) ∧
                      (pz n x ++ [(0 : Int)]).length - (1 : Nat) ≤ zc n ∧ zc n - ((pz n x ++ [(0 : Int)]).length - (1 : Nat)) < zc n - x
                | false =>
                 True ∧
                  (((AV.d (D.val (Value.int IntKind.u64 (↑n : Int))) = AV.d (D.val (Value.int IntKind.u64 (↑n : Int))) ∧
                      AV.d (D.val (Value.slice none (0 : Nat) (0 : Nat))) = AV.d (D.val (Value.slice none (0 : Nat) (0 : Nat))) ∧
                       AV.row (5 : Nat) = AV.row (5 : Nat) ∧
                        AV.d (D.val (Value.int IntKind.u64 (↑n : Int))) = AV.d (D.val (Value.int IntKind.u64 (↑n : Int))) ∧
                         AV.d (D.val (Value.int IntKind.i64 (↑(pz n x).length : Int))) = AV.d (D.val (Value.int IntKind.i64 (↑(pz n x).length : Int))) ∧
                          AV.d (D.val (Value.int IntKind.u64 (IntKind.u64.wrap (↑(pz n x).length : Int)))) = AV.d (D.val (Value.int IntKind.u64 (IntKind.u64.wrap (↑(pz n x).length : Int)))) ∧
                           AV.d (D.val (Value.int IntKind.u64 (IntKind.u64.wrap ((↑n : Int) + IntKind.u64.wrap (↑(pz n x).length : Int))))) = AV.d (D.val (Value.int IntKind.u64 (IntKind.u64.wrap ((↑n : Int) + IntKind.u64.wrap (↑(pz n x).length : Int))))) ∧
                            AV.d (D.val (Value.int IntKind.u64 ((IntKind.u64.wrap ((↑n : Int) + IntKind.u64.wrap (↑(pz n x).length : Int))).tmod (64 : Int)))) = AV.d (D.val (Value.int IntKind.u64 ((IntKind.u64.wrap ((↑n : Int) + IntKind.u64.wrap (↑(pz n x).length : Int))).tmod (64 : Int)))) ∧
                             AV.d (D.val (Value.bool ((IntKind.u64.wrap ((↑n : Int) + IntKind.u64.wrap (↑(pz n x).length : Int))).tmod (64 : Int) != (56 : Int)))) = AV.d (D.val (Value.bool ((IntKind.u64.wrap ((↑n : Int) + IntKind.u64.wrap (↑(pz n x).length : Int))).tmod (64 : Int) != (56 : Int)))) ∧
                              AV.d (D.val (Value.int IntKind.i64 (0 : Int))) = AV.d (D.val (Value.int IntKind.i64 (↑(Int.toNat (0 : Int)) : Int))) ∧ True) ∧
                     (some (Blk.row (5 : TypeId) (D.ints IntKind.u8 (pz n x))) = some (Blk.row (5 : TypeId) (D.ints IntKind.u8 (pt n (Int.toNat (0 : Int))))) ∧ True) ∧ true = true) ∧
                    Int.toNat (0 : Int) ≤ (8 : Nat)) ∧
                   ∀ (x_1 : Nat),
                    x_1 ≤ (8 : Nat) →
                     true = true ∧
                      True ∧
                       match decide ((↑x_1 : Int) < (8 : Int)) with
                       | true =>
                        True ∧
                         True ∧
                          True ∧
                           True ∧
                            True ∧
                             True ∧
                              True ∧
                               True ∧
                                True ∧
                                 (0 : Int) ≤ IntKind.u64.wrap (IntKind.i64.wrap ((56 : Int) - IntKind.i64.wrap ((8 : Int) * (↑x_1 : Int)))) ∧
                                  True ∧
                                   ((1 : Nat) = (1 : Nat) ∧ (1 : Nat) ≤ (4096 : Nat)) ∧
                                    ((5 : TypeId) = (5 : TypeId) ∧
                                      (26 : Nat) = (26 : Nat) ∧
                                       true = true ∧
                                        (pt n x_1 ++ [IntKind.u8.wrap (ishr IntKind.u64 (IntKind.u64.wrap ((8 : Int) * (↑n : Int))) (IntKind.u64.wrap (IntKind.i64.wrap ((56 : Int) - IntKind.i64.wrap ((8 : Int) * (↑x_1 : Int))))))]).length ≤ (140737488355328 : Nat) ∧
                                         (pt n x_1 ++ [IntKind.u8.wrap (ishr IntKind.u64 (IntKind.u64.wrap ((8 : Int) * (↑n : Int))) (IntKind.u64.wrap (IntKind.i64.wrap ((56 : Int) - IntKind.i64.wrap ((8 : Int) * (↑x_1 : Int))))))]).length * (1 : Nat) ≤ (140737488355328 : Nat) ∧ (1 : Nat) ≠ (0 : Nat) ∧ (1 : Nat) = (1 : Nat)) ∧
                                     True ∧
                                      True ∧
                                       True ∧
                                        ((AV.d (D.val (Value.int IntKind.u64 (↑n : Int))) = AV.d (D.val (Value.int IntKind.u64 (↑n : Int))) ∧
                                           AV.d (D.val (Value.slice none (0 : Nat) (0 : Nat))) = AV.d (D.val (Value.slice none (0 : Nat) (0 : Nat))) ∧
                                            AV.row (5 : Nat) = AV.row (5 : Nat) ∧
                                             AV.d (D.val (Value.int IntKind.u64 (↑n : Int))) = AV.d (D.val (Value.int IntKind.u64 (↑n : Int))) ∧
                                              AV.d (D.val (Value.int IntKind.i64 (↑(pz n x).length : Int))) = AV.d (D.val (Value.int IntKind.i64 (↑(pz n x).length : Int))) ∧
                                               AV.d (D.val (Value.int IntKind.u64 (IntKind.u64.wrap (↑(pz n x).length : Int)))) = AV.d (D.val (Value.int IntKind.u64 (IntKind.u64.wrap (↑(pz n x).length : Int)))) ∧
                                                AV.d (D.val (Value.int IntKind.u64 (IntKind.u64.wrap ((↑n : Int) + IntKind.u64.wrap (↑(pz n x).length : Int))))) = AV.d (D.val (Value.int IntKind.u64 (IntKind.u64.wrap ((↑n : Int) + IntKind.u64.wrap (↑(pz n x).length : Int))))) ∧
                                                 AV.d (D.val (Value.int IntKind.u64 ((IntKind.u64.wrap ((↑n : Int) + IntKind.u64.wrap (↑(pz n x).length : Int))).tmod (64 : Int)))) = AV.d (D.val (Value.int IntKind.u64 ((IntKind.u64.wrap ((↑n : Int) + IntKind.u64.wrap (↑(pz n x).length : Int))).tmod (64 : Int)))) ∧
                                                  AV.d (D.val (Value.bool ((IntKind.u64.wrap ((↑n : Int) + IntKind.u64.wrap (↑(pz n x).length : Int))).tmod (64 : Int) != (56 : Int)))) = AV.d (D.val (Value.bool ((IntKind.u64.wrap ((↑n : Int) + IntKind.u64.wrap (↑(pz n x).length : Int))).tmod (64 : Int) != (56 : Int)))) ∧
                                                   AV.d (D.val (Value.int IntKind.i64 (IntKind.i64.wrap ((↑x_1 : Int) + (1 : Int))))) = AV.d (D.val (Value.int IntKind.i64 (↑(IntKind.i64.wrap ((↑x_1 : Int) + (1 : Int))).toNat : Int))) ∧ True) ∧
                                          (some (Blk.row (5 : TypeId) (D.ints IntKind.u8 (pt n x_1 ++ [IntKind.u8.wrap (ishr IntKind.u64 (IntKind.u64.wrap ((8 : Int) * (↑n : Int))) (IntKind.u64.wrap (IntKind.i64.wrap ((56 : Int) - IntKind.i64.wrap ((8 : Int) * (↑x_1 : Int))))))]))) =
                                             some (Blk.row (5 : TypeId) (D.ints IntKind.u8 (pt n (IntKind.i64.wrap ((↑x_1 : Int) + (1 : Int))).toNat))) ∧
                                            True) ∧
                                           true = true) ∧
                                         (IntKind.i64.wrap ((↑x_1 : Int) + (1 : Int))).toNat ≤ (8 : Nat) ∧ (8 : Nat) - (IntKind.i64.wrap ((↑x_1 : Int) + (1 : Int))).toNat < (8 : Nat) - x_1
                       | false => True ∧ True ∧ (false = false ∧ True) ∧ D.ints IntKind.u8 (pt n x_1) = F) := by kernel_rfl
set_option maxRecDepth 100000 in
theorem vc127  (n : Nat) (F : D)  :
    (owed c0 (inv127 n) Tryd.f127 [.val (.int .u64 (n : Int))] F) = (
 True ∧
   True ∧
    True ∧
     (64 : Int) ≠ (0 : Int) ∧
      True ∧
       (((AV.d (D.str (ints { data := { toList := [(128 : UInt8)] } })) = AV.d (D.str (pz n ((ints { data := { toList := [(128 : UInt8)] } }).length - (1 : Nat)))) ∧ True) ∧ True ∧ true = true) ∧ (ints { data := { toList := [(128 : UInt8)] } }).length - (1 : Nat) ≤ zc n) ∧
        ∀ (x : Nat),
         x ≤ zc n →
          true = true ∧
           True ∧
            True ∧
             True ∧
              True ∧
               True ∧
                True ∧
                 (64 : Int) ≠ (0 : Int) ∧
                  True ∧
                   match (IntKind.u64.wrap (IntKind.u64.wrap ((↑n : Int).tmod (64 : Int) + IntKind.u64.wrap (↑(pz n x).length : Int)) + (8 : Int))).tmod (64 : Int) != (0 : Int) with
                   | true =>
                    True ∧
                     (↑((pz n x).length + (ints { data := { toList := [(0 : UInt8)] } }).length) : Int) ≤ (9223372036854775807 : Int) ∧
                      True ∧
                       ((AV.d (D.str (pz n x ++ ints { data := { toList := [(0 : UInt8)] } })) = AV.d (D.str (pz n ((pz n x ++ ints { data := { toList := [(0 : UInt8)] } }).length - (1 : Nat)))) ∧ True) ∧ True ∧ true = true) ∧
                        (pz n x ++ ints { data := { toList := [(0 : UInt8)] } }).length - (1 : Nat) ≤ zc n ∧ zc n - ((pz n x ++ ints { data := { toList := [(0 : UInt8)] } }).length - (1 : Nat)) < zc n - x
                   | false =>
                    True ∧
                     True ∧
                      True ∧
                       True ∧
                        True ∧
                         (((AV.d (D.val (Value.int IntKind.i64 (0 : Int))) = AV.d (D.val (Value.int IntKind.i64 (↑(Int.toNat (0 : Int)) : Int))) ∧
                             AV.d (D.val (Value.int IntKind.u64 (IntKind.u64.wrap ((↑n : Int) * (8 : Int))))) = AV.d (D.val (Value.int IntKind.u64 (↑((8 : Nat) * n % (18446744073709551616 : Nat) / (1 : Nat)) : Int))) ∧ AV.d (D.str (ints { data := { toList := [] } })) = AV.d (D.str (tl ((8 : Nat) * n % (18446744073709551616 : Nat)) (Int.toNat (0 : Int)))) ∧ True) ∧
                            True ∧ true = true) ∧
                           Int.toNat (0 : Int) ≤ (8 : Nat)) ∧
                          ∀ (x_1 : Nat),
                           x_1 ≤ (8 : Nat) →
                            true = true ∧
                             True ∧
                              match decide ((↑x_1 : Int) < (8 : Int)) with
                              | true =>
                               True ∧
                                (256 : Int) ≠ (0 : Int) ∧
                                 True ∧
                                  ((1 : Nat) = (1 : Nat) ∧ (1 : Nat) ≤ (4096 : Nat)) ∧
                                   isBytes [IntKind.u8.wrap ((↑((8 : Nat) * n % (18446744073709551616 : Nat) / (256 : Nat) ^ x_1) : Int).tmod (256 : Int))] ∧
                                    True ∧
                                     (↑((1 : Nat) + (tl ((8 : Nat) * n % (18446744073709551616 : Nat)) x_1).length) : Int) ≤ (9223372036854775807 : Int) ∧
                                      True ∧
                                       True ∧
                                        (256 : Int) ≠ (0 : Int) ∧
                                         True ∧
                                          True ∧
                                           True ∧
                                            ((AV.d (D.val (Value.int IntKind.i64 (IntKind.i64.wrap ((↑x_1 : Int) + (1 : Int))))) = AV.d (D.val (Value.int IntKind.i64 (↑(IntKind.i64.wrap ((↑x_1 : Int) + (1 : Int))).toNat : Int))) ∧
                                               AV.d (D.val (Value.int IntKind.u64 (IntKind.u64.wrap ((↑((8 : Nat) * n % (18446744073709551616 : Nat) / (256 : Nat) ^ x_1) : Int).tdiv (256 : Int))))) =
                                                 AV.d (D.val (Value.int IntKind.u64 (↑((8 : Nat) * n % (18446744073709551616 : Nat) / (256 : Nat) ^ (IntKind.i64.wrap ((↑x_1 : Int) + (1 : Int))).toNat) : Int))) ∧
                                                AV.d (D.str (IntKind.u8.wrap ((↑((8 : Nat) * n % (18446744073709551616 : Nat) / (256 : Nat) ^ x_1) : Int).tmod (256 : Int)) :: tl ((8 : Nat) * n % (18446744073709551616 : Nat)) x_1)) = AV.d (D.str (tl ((8 : Nat) * n % (18446744073709551616 : Nat)) (IntKind.i64.wrap ((↑x_1 : Int) + (1 : Int))).toNat)) ∧
                                                 True) ∧
                                              True ∧ true = true) ∧
                                             (IntKind.i64.wrap ((↑x_1 : Int) + (1 : Int))).toNat ≤ (8 : Nat) ∧ (8 : Nat) - (IntKind.i64.wrap ((↑x_1 : Int) + (1 : Int))).toNat < (8 : Nat) - x_1
                              | false => True ∧ True ∧ (↑((pz n x).length + (tl ((8 : Nat) * n % (18446744073709551616 : Nat)) x_1).length) : Int) ≤ (9223372036854775807 : Int) ∧ True ∧ (false = false ∧ True) ∧ D.str (pz n x ++ tl ((8 : Nat) * n % (18446744073709551616 : Nat)) x_1) = F) := by kernel_rfl

end Go.Proofs.YtkicjckhkefnpaaDoor
/- package hash: Write, Pad; the reference's PadText: the proofs. -/
namespace Go.Proofs.YtkicjckhkefnpaaDoor
open Go Go.Vg

theorem prL_mk (x : R8) (l : List Int) : prL [(x.a.toNat : Int), (x.b.toNat : Int), (x.c.toNat : Int), (x.d.toNat : Int), (x.e.toNat : Int), (x.f.toNat : Int), (x.g.toNat : Int), (x.h.toNat : Int)] l =
    [((pr x l).a.toNat : Int), ((pr x l).b.toNat : Int), ((pr x l).c.toNat : Int), ((pr x l).d.toNat : Int), ((pr x l).e.toNat : Int), ((pr x l).f.toNat : Int), ((pr x l).g.toNat : Int), ((pr x l).h.toNat : Int)] := by
  show prL x.l l = (pr x l).l
  unfold prL
  rw [ofR_l]
theorem bytes_set {l : List Int} (h : isBytes l) {b : Int} (hb : 0 ≤ b ∧ b < 256) (i : Nat) : isBytes (l.set i b) := by
  intro x hx
  rcases List.mem_or_eq_of_mem_set hx with h1 | rfl
  · exact h x h1
  · exact hb
theorem stp_ok {s : HS} (h : okS s) {b : Int} (hb : 0 ≤ b ∧ b < 256) : okS (stp s b) := by
  unfold stp
  obtain ⟨h1, h2, h3⟩ := h
  have : (s.n + 1) % 18446744073709551616 < 18446744073709551616 := Nat.mod_lt _ (by decide)
  simp only
  split
  · exact ⟨by simp [h1], bytes_set h2 hb _, this⟩
  · exact ⟨by simp [h1], bytes_set h2 hb _, this⟩
theorem wr_ok : ∀ (p : List Int) {s : HS}, okS s → isBytes p → okS (wrS s p)
  | [], _, h, _ => h
  | b :: p, s, h, hp => by
    show okS (wrS (stp s b) p)
    exact wr_ok p (stp_ok h (hp b (by simp))) fun x hx => hp x (by simp [hx])
theorem wr_app (s : HS) (p q : List Int) : wrS s (p ++ q) = wrS (wrS s p) q := List.foldl_append
theorem take_snoc {p : List Int} {i : Nat} (h : i < p.length) : p.take (i + 1) = p.take i ++ [p.getD i 0] := by
  rw [List.take_add_one, List.getElem?_eq_getElem h, List.getD_eq_getElem?_getD, List.getElem?_eq_getElem h]
  rfl
theorem wr_snoc (s : HS) {p : List Int} {i : Nat} (h : i < p.length) : wrS s (p.take (i + 1)) = stp (wrS s (p.take i)) (p.getD i 0) := by
  rw [take_snoc h, wr_app]
  rfl
theorem bytes_take {l : List Int} (h : isBytes l) (n : Nat) : isBytes (l.take n) := fun x hx => h x (List.mem_of_mem_take hx)
theorem ofS_eq (s : HS) : ofS (stD s) = s := by
  show HS.mk (ofR s.h.l) ((s.n : Int)).toNat s.l = s
  rw [ofR_l, Int.toNat_natCast]

set_option maxRecDepth 100000 in
theorem m76 : Meets Tryd.prog 76 sp76 := by
  refine meets_of_owed (C := c76) ⟨tab_ok, lkS_ok ⟨m117, trivial⟩⟩ (by kernel_rfl) (by kernel_rfl : Tryd.prog.funcs[76]? = some Tryd.f76) (by kernel_rfl) (by kernel_rfl) (by kernel_rfl) _ ?_
  rintro _ ⟨s, p, rfl, hs, hp, hl⟩
  refine ⟨fun _ => rfl, inv76 s p, ?_⟩
  show owed c76 (inv76 s p) Tryd.f76 [stD s, .ints .u8 p] (stD (wrS (ofS (stD s)) p))
  rw [vc76, ofS_eq]
  have h0 : wrS s (List.take (Int.toNat 0) p) = s := rfl
  rw [h0]
  simp (decide := true) only [eq_self, true_and, and_true, ne_eq, not_false_eq_true]
  refine ⟨⟨rfl, Nat.zero_le _⟩, fun x hx => ?_⟩
  have hy := wr_ok (p.take x) hs (bytes_take hp x)
  split
  · rename_i h
    have h : x < p.length := by have := of_decide_eq_true h; omega
    have es := wr_snoc s h
    have ew : IntKind.i64.wrap ((x : Int) + 1) = ((x + 1 : Nat) : Int) := by rw [wi (by omega) (by omega)]; omega
    obtain ⟨b, eb, hb⟩ := byte_at hp h
    rw [ew]
    simp only [Int.toNat_natCast, es, eb]
    generalize wrS s (p.take x) = y at *
    obtain ⟨y1, y2, y3⟩ := hy
    have em : ((y.n : Nat) : Int).tmod 64 = ((y.n % 64 : Nat) : Int) := tmodN _ 64
    have en : IntKind.u64.wrap ((y.n : Int) + 1) = (((y.n + 1) % 18446744073709551616 : Nat) : Int) := by rw [w64]; omega
    have em2 : (((y.n + 1) % 18446744073709551616 : Nat) : Int).tmod 64 = (((y.n + 1) % 18446744073709551616 % 64 : Nat) : Int) := tmodN _ 64
    rw [em, en, em2, Int.toNat_natCast]
    have hlt : y.n % 64 < 64 := Nat.mod_lt _ (by decide)
    unfold stp
    simp only
    split
    · rename_i h2
      have h2 : (y.n + 1) % 18446744073709551616 % 64 = 0 := by have := eq_of_beq h2; omega
      rw [if_pos h2]
      refine ⟨by omega, by omega, by omega, ⟨_, _, rfl, bytes_set y2 (by omega) _, by simp [y1]⟩, ?_⟩
      rw [prL_mk]
      and_intros <;> first | trivial | rfl | omega
    · rename_i h2
      have h2 : ¬ (y.n + 1) % 18446744073709551616 % 64 = 0 := fun h3 => by rw [h3] at h2; cases h2
      rw [if_neg h2]
      and_intros <;> first | trivial | rfl | omega
  · rename_i h
    have h := of_decide_eq_false h
    rw [List.take_of_length_le (by omega)]
    rfl

theorem pz_len (n i : Nat) : (pz n i).length = i + 1 := by simp [pz]
theorem pz_succ (n i : Nat) : pz n i ++ [0] = pz n (i + 1) := by
  unfold pz
  rw [List.replicate_succ', List.cons_append]
theorem pz_end (n : Nat) : pz n (zc n) = pt n 0 := by unfold pz pt; simp
theorem zc_lt (n : Nat) : zc n < 64 := Nat.mod_lt _ (by decide)
theorem tl_len (b : Nat) : ∀ k, (tl b k).length = k
  | 0 => rfl
  | k + 1 => by rw [tl, List.length_cons, tl_len b k]
theorem tl_get (b : Nat) : ∀ k i, i < k → (tl b k).getD i 0 = ((b / 256 ^ (k - 1 - i) % 256 : Nat) : Int)
  | 0, _, h => by omega
  | k + 1, 0, _ => rfl
  | k + 1, i + 1, h => by
    rw [tl, List.getD_cons_succ, tl_get b k i (by omega), show k + 1 - 1 - (i + 1) = k - 1 - i by omega]
theorem pt_succ (n : Nat) {i : Nat} (h : i < 8) : pt n (i + 1) = pt n i ++ [((8 * n % 18446744073709551616 / 256 ^ (7 - i) % 256 : Nat) : Int)] := by
  unfold pt
  rw [take_snoc (by rw [tl_len]; exact h), tl_get _ 8 i h, show 8 - 1 - i = 7 - i by omega]
  simp
theorem pt_end (n : Nat) : pt n 8 = padL n := by
  unfold pt padL
  rw [List.take_of_length_le (by rw [tl_len]; exact Nat.le_refl _)]
theorem pt_len (n : Nat) {i : Nat} (h : i ≤ 8) : (pt n i).length ≤ 100 := by
  unfold pt
  have := zc_lt n
  simp
  omega

set_option maxRecDepth 100000 in
theorem m118 : Meets Tryd.prog 118 sp118 := by
  refine meets_of_owed (C := c118) ⟨tab_ok, fun f s h => by cases h⟩ (by kernel_rfl) (by kernel_rfl : Tryd.prog.funcs[118]? = some Tryd.f118) (by kernel_rfl) (by kernel_rfl) (by kernel_rfl) _ ?_
  rintro _ ⟨n, rfl, hn⟩
  refine ⟨(fun h => by cases h), inv118 n, ?_⟩
  show owed c118 (inv118 n) Tryd.f118 [.val (.int .u64 (n : Int))] (.ints .u8 (padL ((n : Int)).toNat))
  rw [vc118, Int.toNat_natCast]
  simp (decide := true) only [eq_self, true_and, and_true, ne_eq, not_false_eq_true, Nat.sub_self, pz_len]
  refine ⟨⟨rfl, Nat.zero_le _⟩, fun x hx => ?_⟩
  have hz := zc_lt n
  have e1 : IntKind.u64.wrap ((n : Int) + IntKind.u64.wrap ((x + 1 : Nat) : Int)) = (((n + x + 1) % 18446744073709551616 : Nat) : Int) := by
    rw [w64, w64]; omega
  have e2 : (((n + x + 1) % 18446744073709551616 : Nat) : Int).tmod 64 = (((n + x + 1) % 18446744073709551616 % 64 : Nat) : Int) := tmodN _ 64
  rw [e1, e2]
  have ez : zc n = (119 - n % 64) % 64 := rfl
  split
  · rename_i h
    have h : (n + x + 1) % 18446744073709551616 % 64 ≠ 56 := by
      intro h3
      rw [h3] at h
      cases h
    rw [pz_succ, pz_len, Nat.add_sub_cancel]
    and_intros <;> first | rfl | omega
  · rename_i h
    have h : (n + x + 1) % 18446744073709551616 % 64 = 56 := by
      have h3 := bne_eq_false_iff_eq.1 h
      omega
    obtain rfl : x = zc n := by omega
    rw [pz_end]
    refine ⟨⟨rfl, rfl⟩, fun i hi => ?_⟩
    split
    · rename_i h4
      have h4 : i < 8 := by have := of_decide_eq_true h4; omega
      have ew : IntKind.i64.wrap ((i : Int) + 1) = ((i + 1 : Nat) : Int) := by rw [wi (by omega) (by omega)]; omega
      have e8 : IntKind.i64.wrap (8 * (i : Int)) = ((8 * i : Nat) : Int) := by rw [wi (by omega) (by omega)]; omega
      have e56 : IntKind.u64.wrap (IntKind.i64.wrap (56 - ((8 * i : Nat) : Int))) = ((8 * (7 - i) : Nat) : Int) := by
        rw [wi (by omega) (by omega), w64]; omega
      have en : IntKind.u64.wrap (8 * (n : Int)) = ((8 * n % 18446744073709551616 : Nat) : Int) := by rw [w64]; omega
      rw [ew, e8, e56, en, ishrN .u64 (show _ ≤ 64 by omega), wN8, Nat.pow_mul, show (2 : Nat) ^ 8 = 256 from rfl, ← pt_succ n h4, Int.toNat_natCast]
      have := pt_len n (i := i + 1) (by omega)
      and_intros <;> first | rfl | omega
    · rename_i h4
      obtain rfl : i = 8 := by have := of_decide_eq_false h4; omega
      rw [pt_end]

set_option maxRecDepth 100000 in
theorem m127 : Meets Tryd.prog 127 sp127 := by
  refine meets_of_owed (C := c0) ⟨tab_ok, fun f s h => by cases h⟩ (by kernel_rfl) (by kernel_rfl : Tryd.prog.funcs[127]? = some Tryd.f127) (by kernel_rfl) (by kernel_rfl) (by kernel_rfl) _ ?_
  rintro _ ⟨n, rfl, hn⟩
  refine ⟨fun _ => rfl, inv127 n, ?_⟩
  show owed c0 (inv127 n) Tryd.f127 [.val (.int .u64 (n : Int))] (.str (padL ((n : Int)).toNat))
  rw [vc127, Int.toNat_natCast]
  have i0 : ints { data := { toList := [(0 : UInt8)] } } = [0] := rfl
  have i128 : ints { data := { toList := [(128 : UInt8)] } } = [128] := rfl
  have ie : ints { data := { toList := [] } } = [] := rfl
  rw [i0, i128, ie]
  simp (decide := true) only [eq_self, true_and, and_true, ne_eq, not_false_eq_true, Nat.sub_self, pz_len, List.length_cons, List.length_nil]
  refine ⟨⟨rfl, Nat.zero_le _⟩, fun x hx => ?_⟩
  have hz := zc_lt n
  have ez : zc n = (119 - n % 64) % 64 := rfl
  have e0 : ((n : Nat) : Int).tmod 64 = ((n % 64 : Nat) : Int) := tmodN _ 64
  have e1 : IntKind.u64.wrap (IntKind.u64.wrap (((n % 64 : Nat) : Int) + IntKind.u64.wrap ((x + 1 : Nat) : Int)) + 8) = ((n % 64 + x + 9 : Nat) : Int) := by
    rw [w64, w64, w64]; omega
  have e2 : ((n % 64 + x + 9 : Nat) : Int).tmod 64 = (((n % 64 + x + 9) % 64 : Nat) : Int) := tmodN _ 64
  rw [e0, e1, e2]
  split
  · rename_i h
    have h : (n % 64 + x + 9) % 64 ≠ 0 := by
      intro h3
      rw [h3] at h
      cases h
    rw [pz_succ, pz_len, Nat.add_sub_cancel]
    and_intros <;> first | rfl | omega
  · rename_i h
    have h : (n % 64 + x + 9) % 64 = 0 := by
      have h3 := bne_eq_false_iff_eq.1 h
      omega
    obtain rfl : x = zc n := by omega
    have en : IntKind.u64.wrap ((n : Int) * 8) = ((8 * n % 18446744073709551616 : Nat) : Int) := by rw [w64]; omega
    rw [en]
    refine ⟨⟨rfl, by rw [Nat.div_one], rfl⟩, fun i hi => ?_⟩
    have hb2 : 8 * n % 18446744073709551616 < 18446744073709551616 := Nat.mod_lt _ (by decide)
    generalize hb : 8 * n % 18446744073709551616 = b at *
    split
    · rename_i h4
      have h4 : i < 8 := by have := of_decide_eq_true h4; omega
      have ew : IntKind.i64.wrap ((i : Int) + 1) = ((i + 1 : Nat) : Int) := by rw [wi (by omega) (by omega)]; omega
      have q1 : ((b / 256 ^ i : Nat) : Int).tmod 256 = ((b / 256 ^ i % 256 : Nat) : Int) := tmodN _ 256
      have q2 : ((b / 256 ^ i : Nat) : Int).tdiv 256 = ((b / 256 ^ i / 256 : Nat) : Int) := tdivN _ 256
      have q3 : b / 256 ^ (i + 1) = b / 256 ^ i / 256 := by rw [Nat.pow_succ, Nat.div_div_eq_div_mul]
      have q4 : b / 256 ^ i ≤ b := Nat.div_le_self _ _
      have ht : tl b (i + 1) = ((b / 256 ^ i % 256 : Nat) : Int) :: tl b i := rfl
      have q5 : IntKind.u8.wrap ((b / 256 ^ i % 256 : Nat) : Int) = ((b / 256 ^ i % 256 : Nat) : Int) := by rw [w8]; omega
      have q6 : IntKind.u64.wrap ((b / 256 ^ i / 256 : Nat) : Int) = ((b / 256 ^ i / 256 : Nat) : Int) := wrapN .u64 (show _ < 18446744073709551616 from Nat.lt_of_le_of_lt (Nat.le_trans (Nat.div_le_self _ _) q4) hb2)
      rw [ew, q1, q2, q5, q6, Int.toNat_natCast, q3, ht, tl_len]
      refine ⟨?_, by omega, ⟨rfl, rfl, rfl⟩, by omega, by omega⟩
      intro y hy
      rw [List.mem_singleton] at hy
      omega
    · rename_i h4
      obtain rfl : i = 8 := by have := of_decide_eq_false h4; omega
      rw [tl_len]
      refine ⟨by omega, ?_⟩
      unfold padL pz
      rw [hb]
      rfl

end Go.Proofs.YtkicjckhkefnpaaDoor
/- digests: blocks written one by one are blocks taken in a row (no program in sight). -/
namespace Go.Proofs.YtkicjckhkefnpaaDoor
open Go Go.Vg

/-- The words behind so many blocks of a text. -/
def fhK (h : R8) (m : List Int) : Nat → R8
  | 0 => h
  | k + 1 => pr (fhK h m k) ((m.drop (64 * k)).take 64)
def bt (l : List Int) (j k : Nat) : Int := ((l.getD j 0).toNat / 256 ^ k % 256 : Nat)
/-- The bytes of words. -/
def outL (x : R8) : List Int := (List.range 32).map fun i => bt x.l (i / 4) (3 - i % 4)
/-- A state's digest. -/
def sumL (s : HS) : List Int := outL (wrS s (padL s.n)).h
def iv : R8 := ⟨0x6a09e667, 0xbb67ae85, 0x3c6ef372, 0xa54ff53a, 0x510e527f, 0x9b05688c, 0x1f83d9ab, 0x5be0cd19⟩
def st0 : HS := ⟨iv, 0, List.replicate 64 0⟩
/-- The reference's digest: from words that have n bytes, p more. -/
def fromL (x : R8) (n : Nat) (p : List Int) : List Int :=
  outL (fhK x (p ++ padL ((n + p.length) % 18446744073709551616)) ((p ++ padL ((n + p.length) % 18446744073709551616)).length / 64))
def digL (p : List Int) : List Int := fromL iv 0 p

theorem fh_app (h : R8) (m t : List Int) : ∀ k, 64 * k ≤ m.length → fhK h (m ++ t) k = fhK h m k
  | 0, _ => rfl
  | k + 1, hk => by
    show pr (fhK h (m ++ t) k) (((m ++ t).drop (64 * k)).take 64) = pr (fhK h m k) ((m.drop (64 * k)).take 64)
    rw [fh_app h m t k (by omega), List.drop_append_of_le_length (by omega), List.take_append_of_le_length (by rw [List.length_drop]; omega)]
theorem set_take (L : List Int) (r : Nat) (b : Int) (h : r < L.length) : (L.set r b).take (r + 1) = L.take r ++ [b] := by
  rw [take_snoc (p := L.set r b) (by rw [List.length_set]; exact h), List.take_set, List.set_eq_of_length_le (by rw [List.length_take]; omega)]
  rw [List.getD_eq_getElem?_getD, List.getElem?_set_self h]
  rfl
theorem wr_fh (h : R8) (n : Nat) (l : List Int) (hl : l.length = 64) (hn : n % 64 = 0) (hn2 : n < 18446744073709551616) (m : List Int) :
    ∀ k, k ≤ m.length → ∃ L : List Int, L.length = 64 ∧ wrS ⟨h, n, l⟩ (m.take k) = ⟨fhK h m (k / 64), (n + k) % 18446744073709551616, L⟩ ∧ L.take (k % 64) = (m.take k).drop (64 * (k / 64))
  | 0, _ => ⟨l, hl, by
      show HS.mk h n l = ⟨h, (n + 0) % 18446744073709551616, l⟩
      rw [show (n + 0) % 18446744073709551616 = n by omega], rfl⟩
  | k + 1, hk => by
    obtain ⟨L, h1, h2, h3⟩ := wr_fh h n l hl hn hn2 m k (by omega)
    have hlt : k % 64 < L.length := by omega
    have e1 : (n + k) % 18446744073709551616 % 64 = k % 64 := by omega
    have e2 : ((n + k) % 18446744073709551616 + 1) % 18446744073709551616 = (n + (k + 1)) % 18446744073709551616 := by omega
    have e3 : (L.set (k % 64) (m.getD k 0)).take (k % 64 + 1) = (m.take (k + 1)).drop (64 * (k / 64)) := by
      rw [set_take _ _ _ hlt, h3, take_snoc (show k < m.length by omega), List.drop_append_of_le_length (by rw [List.length_take]; omega)]
    rw [wr_snoc _ (show k < m.length by omega), h2]
    refine ⟨L.set (k % 64) (m.getD k 0), by rw [List.length_set]; exact h1, ?_⟩
    unfold stp
    simp only [e1, e2]
    by_cases hc : (n + (k + 1)) % 18446744073709551616 % 64 = 0
    · have hc2 : (k + 1) % 64 = 0 := by omega
      have q : (k + 1) / 64 = k / 64 + 1 := by omega
      have r : k % 64 + 1 = 64 := by omega
      rw [if_pos hc, q, hc2]
      rw [r, List.take_of_length_le (by rw [List.length_set]; omega), List.drop_take, show k + 1 - 64 * (k / 64) = 64 by omega] at e3
      refine ⟨?_, ?_⟩
      · rw [e3]
        rfl
      · rw [List.drop_eq_nil_of_le (by rw [List.length_take]; omega)]
        rfl
    · have q : (k + 1) / 64 = k / 64 := by omega
      have r : (k + 1) % 64 = k % 64 + 1 := by omega
      rw [if_neg hc, q, r]
      exact ⟨rfl, e3⟩
theorem padL_len (n : Nat) : (padL n).length = 9 + zc n := by
  unfold padL
  rw [List.length_cons, List.length_append, List.length_replicate, tl_len]
  omega
theorem wr_full (h : R8) (n : Nat) (l : List Int) (hl : l.length = 64) (hn : n % 64 = 0) (hn2 : n < 18446744073709551616) (m : List Int) :
    (wrS ⟨h, n, l⟩ m).h = fhK h m (m.length / 64) ∧ (wrS ⟨h, n, l⟩ m).n = (n + m.length) % 18446744073709551616 := by
  obtain ⟨L, _, h2, _⟩ := wr_fh h n l hl hn hn2 m m.length (Nat.le_refl _)
  rw [List.take_length] at h2
  rw [h2]
  exact ⟨rfl, rfl⟩
theorem sum_from (h : R8) (n : Nat) (l : List Int) (hl : l.length = 64) (hn : n % 64 = 0) (hn2 : n < 18446744073709551616) (p : List Int) :
    sumL (wrS ⟨h, n, l⟩ p) = fromL h n p := by
  unfold sumL fromL
  rw [(wr_full h n l hl hn hn2 p).2, ← wr_app, (wr_full h n l hl hn hn2 _).1]
theorem sum_st0 (p : List Int) : sumL (wrS st0 p) = digL p := sum_from iv 0 _ (by simp) rfl (by decide) p
theorem mul64 (n : Nat) (p : List Int) (hn : n % 64 = 0) : (p ++ padL ((n + p.length) % 18446744073709551616)).length % 64 = 0 := by
  rw [List.length_append, padL_len]
  unfold zc
  omega
theorem outL_len (x : R8) : (outL x).length = 32 := by unfold outL; simp
theorem outL_bytes (x : R8) : isBytes (outL x) := by
  intro y hy
  unfold outL at hy
  obtain ⟨i, _, rfl⟩ := List.mem_map.1 hy
  unfold bt
  omega
theorem outL_get (x : R8) {i : Nat} (h : i < 32) : (outL x).getD i 0 = bt x.l (i / 4) (3 - i % 4) := by
  unfold outL
  rw [List.getD_eq_getElem?_getD, List.getElem?_map, List.getElem?_range h]
  rfl
theorem fill (L : List Int) {k n : Nat} (hn : L.length = n) (h : k < n) : (L.take k ++ List.replicate (n - k) 0).set k (L.getD k 0) = L.take (k + 1) ++ List.replicate (n - (k + 1)) 0 := by
  have e : n - k = (n - (k + 1)) + 1 := by omega
  have el : (L.take k).length = k := by rw [List.length_take]; omega
  rw [e, List.replicate_succ, List.set_append_right _ _ (by omega), el, Nat.sub_self, List.set_cons_zero, take_snoc (by omega), List.append_assoc]
  rfl
theorem st0_ok : okS st0 := ⟨rfl, by intro x hx; rw [show st0.l = List.replicate 64 0 from rfl] at hx; have := List.eq_of_mem_replicate hx; omega, by decide⟩
theorem xl_get (x : R8) {j : Nat} (h : j < 8) : ∃ w : W, x.l.getD j 0 = ((w.toNat : Nat) : Int) := by
  rcases (by omega : j = 0 ∨ j = 1 ∨ j = 2 ∨ j = 3 ∨ j = 4 ∨ j = 5 ∨ j = 6 ∨ j = 7) with rfl | rfl | rfl | rfl | rfl | rfl | rfl | rfl <;> exact ⟨_, rfl⟩
end Go.Proofs.YtkicjckhkefnpaaDoor
/- package hash: New, Sum, Resume, and the reference's words, From, Sum. -/
namespace Go.Proofs.YtkicjckhkefnpaaDoor
open Go Go.Vg

def woL (l : List Int) : R8 := ⟨wn l 0, wn l 1, wn l 2, wn l 3, wn l 4, wn l 5, wn l 6, wn l 7⟩
def rsS (l : List Int) (n : Nat) : HS := if n % 64 = 0 then ⟨woL l, n, List.replicate 64 0⟩ else st0
def rsE (n : Nat) : Int := if n % 64 = 0 then 0 else 1
abbrev d32 (l : List Int) : D := .arr .u8 32 l
def isD (l : List Int) : Prop := isBytes l ∧ l.length = 32
def big : Nat := 1000000000000000
def sp75 : Go.Vg.Spec := ⟨fun ds => ds.length = 0, fun _ => stD st0, true, []⟩
def sp77 : Go.Vg.Spec := ⟨fun ds => ∃ s, ds = [stD s] ∧ okS s, fun ds => d32 (sumL (ofS (ds.headD default))), true, [117]⟩
def sp116 : Go.Vg.Spec := ⟨fun ds => ds.length = 0, fun _ => .ints .u32 iv.l, false, []⟩
def sp115 : Go.Vg.Spec := ⟨fun ds => ∃ (x : R8) (n : Nat) (p : List Int), ds = [.ints .u32 x.l, u64 (n : Int), .str p] ∧ isBytes p ∧ p.length ≤ 1000000000000000 ∧ n % 64 = 0 ∧ n < 18446744073709551616,
  fun ds => d32 (fromL (ofR (intsOf (ds.headD default))) (numOf (ds.getD 1 default)).toNat (strOf (ds.getD 2 default))), true, [170, 73, 9]⟩
def sp70 : Go.Vg.Spec := ⟨fun ds => ∃ p, ds = [.ints .u8 p] ∧ isBytes p ∧ p.length ≤ 1000000000000000, fun ds => d32 (digL (intsOf (ds.headD default))), true, [26]⟩
def sp71 : Go.Vg.Spec := ⟨fun ds => ∃ p, ds = [.str p] ∧ isBytes p ∧ p.length ≤ 1000000000000000, fun ds => d32 (digL (strOf (ds.headD default))), true, [9]⟩
def c77 : Ctx := ⟨tab, lkS [(76, sp76), (118, sp118)], [], []⟩
def c115 : Ctx := ⟨tab, lkS [(127, sp127), (128, sp128)], [], []⟩
def c70 : Ctx := ⟨tab, lkS [(75, sp75), (76, sp76), (77, sp77)], [], []⟩
def c71 : Ctx := ⟨tab, lkS [(116, sp116), (115, sp115)], [], []⟩
def inv77 (s : HS) : Nat → Option Inv
  | 4 => some ⟨Nat, fun i => [(13, .d (i64 i))], fun i => [(3, .fix (d32 ((sumL s).take (4 * i) ++ List.replicate (32 - 4 * i) 0)))], fun s => (slotN s 13).toNat, fun _ i => i ≤ 8, fun i => 8 - i⟩
  | _ => none
def fullL (n : Nat) (p : List Int) : List Int := p ++ padL ((n + p.length) % 18446744073709551616)
def inv115 (x : R8) (n : Nat) (p : List Int) : Nat → Option Inv
  | 3 => some ⟨Nat, fun k => [(7, .d (i64 ((64 * k : Nat) : Int))), (0, .d (.ints .u32 (fhK x (fullL n p) k).l))], fun _ => [], fun s => (slotN s 7).toNat / 64, fun _ k => k ≤ (fullL n p).length / 64, fun k => (fullL n p).length / 64 - k⟩
  | 8 => some ⟨Nat, fun i => [(31, .d (i64 i))], fun i => [(8, .fix (d32 ((fromL x n p).take i ++ List.replicate (32 - i) 0)))], fun s => (slotN s 31).toNat, fun _ i => i ≤ 32, fun i => 32 - i⟩
  | _ => none
def woI (l : List Int) (i : Nat) : List Int := (woL l).l.take i ++ iv.l.drop i
--KEEP ofR BitVec.toNat prL pr Go.Proofs.YtkicjckhkefnpaaDoor.R8.l wrS ofS okS padL fhK outL sumL fromL digL woL wl woI iv st0 rsS rsE wat fullL
set_option maxRecDepth 100000 in
theorem vc75  (F : D)  :
    (owed c0 (fun _ => none) Tryd.f75 [] F) = (
 (True ∧ (73 : Nat) ≠ (0 : Nat)) ∧
   ((1 : Nat) = (1 : Nat) ∧
     false = false ∧
      ((0 : Nat) < (8 : Nat) ∧ ([] : List Nat) = [] ∧ true = true) ∧
       false = false ∧
        ((1 : Nat) < (8 : Nat) ∧ ([] : List Nat) = [] ∧ true = true) ∧
         false = false ∧
          ((2 : Nat) < (8 : Nat) ∧ ([] : List Nat) = [] ∧ true = true) ∧
           false = false ∧ ((3 : Nat) < (8 : Nat) ∧ ([] : List Nat) = [] ∧ true = true) ∧ false = false ∧ ((4 : Nat) < (8 : Nat) ∧ ([] : List Nat) = [] ∧ true = true) ∧ false = false ∧ ((5 : Nat) < (8 : Nat) ∧ ([] : List Nat) = [] ∧ true = true) ∧ false = false ∧ ((6 : Nat) < (8 : Nat) ∧ ([] : List Nat) = [] ∧ true = true) ∧ false = false ∧ ((7 : Nat) < (8 : Nat) ∧ ([] : List Nat) = [] ∧ true = true) ∧ True) ∧
    (false = false ∧ ((0 : Nat) < (3 : Nat) ∧ Sk.arr (8 : Nat) = Sk.arr (8 : Nat)) ∧ True) ∧
     (Sk.st [Sk.arr (8 : Nat), Sk.one, Sk.arr (64 : Nat)] = Sk.st [Sk.arr (8 : Nat), Sk.one, Sk.arr (64 : Nat)] ∧ (73 : Nat) ≠ (0 : Nat) ∧ (73 : Nat) = (73 : Nat) ∧ false = false) ∧
      (((73 : Nat) ≠ (0 : Nat) ∧ (73 : Nat) = (73 : Nat) ∧ true = true) ∧ True) ∧
       D.st
         [D.arr IntKind.u32 (8 : Nat) [(1779033703 : Int), (3144134277 : Int), (1013904242 : Int), (2773480762 : Int), (1359893119 : Int), (2600822924 : Int), (528734635 : Int), (1541459225 : Int)], D.val (Value.int IntKind.u64 (0 : Int)),
          D.arr IntKind.u8 (64 : Nat)
           (List.replicate (64 : Nat) (0 : Int))] =
        F) := by kernel_rfl
set_option maxRecDepth 100000 in
theorem vc77  (s : HS) (F : D)  :
    (owed c77 (inv77 s) Tryd.f77 [stD s] F) = (
 (True ∧ false = false) ∧
   (True ∧ (32 : Nat) ≠ (0 : Nat)) ∧
    ((73 : Nat) ≠ (0 : Nat) ∧ (73 : Nat) = (73 : Nat) ∧ true = true) ∧
     (Sk.st [Sk.arr (8 : Nat), Sk.one, Sk.arr (64 : Nat)] = Sk.st [Sk.arr (8 : Nat), Sk.one, Sk.arr (64 : Nat)] ∧ (1 : Nat) < (3 : Nat)) ∧
      ((1 : Nat) ≠ (0 : Nat) ∧ (1 : Nat) = (1 : Nat) ∧ false = false) ∧
       (∃ (n : Nat), [D.val (Value.int IntKind.u64 (↑s.n : Int))] = [D.val (Value.int IntKind.u64 (↑n : Int))] ∧ n < (18446744073709551616 : Nat)) ∧
        (∃ (s_1 : HS),
          ∃ (p : List Int),
           [D.st [D.arr IntKind.u32 (8 : Nat) s.h.l, D.val (Value.int IntKind.u64 (↑s.n : Int)), D.arr IntKind.u8 (64 : Nat) s.l], D.ints IntKind.u8 (padL (↑s.n : Int).toNat)] = [D.st [D.arr IntKind.u32 (8 : Nat) s_1.h.l, D.val (Value.int IntKind.u64 (↑s_1.n : Int)), D.arr IntKind.u8 (64 : Nat) s_1.l], D.ints IntKind.u8 p] ∧ okS s_1 ∧ isBytes p ∧ p.length ≤ (1000000000000000 : Nat)) ∧
         (Sk.st [Sk.arr (8 : Nat), Sk.one, Sk.arr (64 : Nat)] = Sk.st [Sk.arr (8 : Nat), Sk.one, Sk.arr (64 : Nat)] ∧ (73 : Nat) ≠ (0 : Nat) ∧ (73 : Nat) = (73 : Nat) ∧ false = false) ∧
          (True ∧ (32 : Nat) ≠ (0 : Nat)) ∧
           (Sk.st [Sk.arr (8 : Nat), Sk.one, Sk.arr (64 : Nat)] = Sk.st [Sk.arr (8 : Nat), Sk.one, Sk.arr (64 : Nat)] ∧ (0 : Nat) < (3 : Nat)) ∧
            ((8 : Nat) ≠ (0 : Nat) ∧ (8 : Nat) = (8 : Nat) ∧ true = true) ∧
             True ∧
              (((AV.d (D.val (Value.int IntKind.i64 (0 : Int))) = AV.d (D.val (Value.int IntKind.i64 (↑(Int.toNat (0 : Int)) : Int))) ∧ True) ∧
                 (some
                     (Blk.fix
                      (D.st
                       [D.arr IntKind.u32 (8 : Nat) (wrS (ofS (D.st [D.arr IntKind.u32 (8 : Nat) s.h.l, D.val (Value.int IntKind.u64 (↑s.n : Int)), D.arr IntKind.u8 (64 : Nat) s.l])) (padL (↑s.n : Int).toNat)).h.l,
                        D.val (Value.int IntKind.u64 (↑(wrS (ofS (D.st [D.arr IntKind.u32 (8 : Nat) s.h.l, D.val (Value.int IntKind.u64 (↑s.n : Int)), D.arr IntKind.u8 (64 : Nat) s.l])) (padL (↑s.n : Int).toNat)).n : Int)),
                        D.arr IntKind.u8 (64 : Nat) (wrS (ofS (D.st [D.arr IntKind.u32 (8 : Nat) s.h.l, D.val (Value.int IntKind.u64 (↑s.n : Int)), D.arr IntKind.u8 (64 : Nat) s.l])) (padL (↑s.n : Int).toNat)).l])) =
                    some
                     (Blk.fix
                      (D.st
                       [D.arr IntKind.u32 (8 : Nat) (wrS (ofS (D.st [D.arr IntKind.u32 (8 : Nat) s.h.l, D.val (Value.int IntKind.u64 (↑s.n : Int)), D.arr IntKind.u8 (64 : Nat) s.l])) (padL (↑s.n : Int).toNat)).h.l,
                        D.val (Value.int IntKind.u64 (↑(wrS (ofS (D.st [D.arr IntKind.u32 (8 : Nat) s.h.l, D.val (Value.int IntKind.u64 (↑s.n : Int)), D.arr IntKind.u8 (64 : Nat) s.l])) (padL (↑s.n : Int).toNat)).n : Int)),
                        D.arr IntKind.u8 (64 : Nat) (wrS (ofS (D.st [D.arr IntKind.u32 (8 : Nat) s.h.l, D.val (Value.int IntKind.u64 (↑s.n : Int)), D.arr IntKind.u8 (64 : Nat) s.l])) (padL (↑s.n : Int).toNat)).l])) ∧
                   some
                      (Blk.fix
                       (D.arr IntKind.u8 (32 : Nat)
                        [(0 : Int), (0 : Int), (0 : Int), (0 : Int), (0 : Int), (0 : Int), (0 : Int), (0 : Int), (0 : Int), (0 : Int), (0 : Int), (0 : Int), (0 : Int), (0 : Int), (0 : Int), (0 : Int), (0 : Int), (0 : Int), (0 : Int), (0 : Int), (0 : Int), (0 : Int), (0 : Int), (0 : Int), (0 : Int), (0 : Int), (0 : Int), (0 : Int), (0 : Int), (0 : Int), (0 : Int),
                         (0 : Int)])) =
                     some
                      (Blk.fix
                       (D.arr IntKind.u8 (32 : Nat)
                        [(0 : Int), (0 : Int), (0 : Int), (0 : Int), (0 : Int), (0 : Int), (0 : Int), (0 : Int), (0 : Int), (0 : Int), (0 : Int), (0 : Int), (0 : Int), (0 : Int), (0 : Int), (0 : Int), (0 : Int), (0 : Int), (0 : Int), (0 : Int), (0 : Int), (0 : Int), (0 : Int), (0 : Int), (0 : Int), (0 : Int), (0 : Int), (0 : Int), (0 : Int), (0 : Int), (0 : Int),
                         (0 : Int)])) ∧
                    some
                       (Blk.fix
                        (D.arr IntKind.u8 (32 : Nat)
                         [(0 : Int), (0 : Int), (0 : Int), (0 : Int), (0 : Int), (0 : Int), (0 : Int), (0 : Int), (0 : Int), (0 : Int), (0 : Int), (0 : Int), (0 : Int), (0 : Int), (0 : Int), (0 : Int), (0 : Int), (0 : Int), (0 : Int), (0 : Int), (0 : Int), (0 : Int), (0 : Int), (0 : Int), (0 : Int), (0 : Int), (0 : Int), (0 : Int), (0 : Int), (0 : Int), (0 : Int),
                          (0 : Int)])) =
                      some
                       (Blk.fix
                        (D.arr IntKind.u8 (32 : Nat)
                         (List.take (0 : Nat) (sumL s) ++
                          [(0 : Int), (0 : Int), (0 : Int), (0 : Int), (0 : Int), (0 : Int), (0 : Int), (0 : Int), (0 : Int), (0 : Int), (0 : Int), (0 : Int), (0 : Int), (0 : Int), (0 : Int), (0 : Int), (0 : Int), (0 : Int), (0 : Int), (0 : Int), (0 : Int), (0 : Int), (0 : Int), (0 : Int), (0 : Int), (0 : Int), (0 : Int), (0 : Int), (0 : Int), (0 : Int), (0 : Int),
                           (0 : Int)]))) ∧
                     True) ∧
                  true = true) ∧
                Int.toNat (0 : Int) ≤ (8 : Nat)) ∧
               ∀ (x : Nat),
                x ≤ (8 : Nat) →
                 true = true ∧
                  True ∧
                   match decide ((↑x : Int) < (8 : Int)) with
                   | true =>
                    True ∧
                     ((0 : Int) ≤ (↑x : Int) ∧ (↑x : Int) < (↑(8 : Nat) : Int) ∧ (8 : Nat) = (8 : Nat) ∧ Ty.int IntKind.u32 = Ty.int IntKind.u32 ∧ (1 : Nat) = (1 : Nat)) ∧
                      True ∧
                       True ∧
                        True ∧
                         True ∧
                          True ∧
                           True ∧
                            True ∧
                             True ∧
                              True ∧
                               True ∧
                                True ∧
                                 True ∧
                                  True ∧
                                   True ∧
                                    (0 : Int) ≤ (24 : Int) ∧
                                     True ∧
                                      True ∧
                                       (0 : Int) ≤ (16 : Int) ∧
                                        True ∧
                                         True ∧
                                          (0 : Int) ≤ (8 : Int) ∧
                                           True ∧
                                            True ∧
                                             True ∧
                                              ((0 : Int) ≤ IntKind.i64.wrap ((4 : Int) * (↑x : Int)) ∧ IntKind.i64.wrap ((4 : Int) * (↑x : Int)) < (↑(32 : Nat) : Int) ∧ (32 : Nat) = (32 : Nat) ∧ (1 : Nat) = (1 : Nat)) ∧
                                               (((IntKind.i64.wrap ((4 : Int) * (↑x : Int))).toNat < (32 : Nat) ∧ ([] : List Nat) = [] ∧ true = true) ∧ (1 : Nat) ≠ (0 : Nat) ∧ (1 : Nat) = (1 : Nat) ∧ false = false) ∧
                                                ((0 : Int) ≤ IntKind.i64.wrap (IntKind.i64.wrap ((4 : Int) * (↑x : Int)) + (1 : Int)) ∧ IntKind.i64.wrap (IntKind.i64.wrap ((4 : Int) * (↑x : Int)) + (1 : Int)) < (↑(32 : Nat) : Int) ∧ (32 : Nat) = (32 : Nat) ∧ (1 : Nat) = (1 : Nat)) ∧
                                                 (((IntKind.i64.wrap (IntKind.i64.wrap ((4 : Int) * (↑x : Int)) + (1 : Int))).toNat < (32 : Nat) ∧ ([] : List Nat) = [] ∧ true = true) ∧ (1 : Nat) ≠ (0 : Nat) ∧ (1 : Nat) = (1 : Nat) ∧ false = false) ∧
                                                  ((0 : Int) ≤ IntKind.i64.wrap (IntKind.i64.wrap ((4 : Int) * (↑x : Int)) + (2 : Int)) ∧ IntKind.i64.wrap (IntKind.i64.wrap ((4 : Int) * (↑x : Int)) + (2 : Int)) < (↑(32 : Nat) : Int) ∧ (32 : Nat) = (32 : Nat) ∧ (1 : Nat) = (1 : Nat)) ∧
                                                   (((IntKind.i64.wrap (IntKind.i64.wrap ((4 : Int) * (↑x : Int)) + (2 : Int))).toNat < (32 : Nat) ∧ ([] : List Nat) = [] ∧ true = true) ∧ (1 : Nat) ≠ (0 : Nat) ∧ (1 : Nat) = (1 : Nat) ∧ false = false) ∧
                                                    ((0 : Int) ≤ IntKind.i64.wrap (IntKind.i64.wrap ((4 : Int) * (↑x : Int)) + (3 : Int)) ∧ IntKind.i64.wrap (IntKind.i64.wrap ((4 : Int) * (↑x : Int)) + (3 : Int)) < (↑(32 : Nat) : Int) ∧ (32 : Nat) = (32 : Nat) ∧ (1 : Nat) = (1 : Nat)) ∧
                                                     (((IntKind.i64.wrap (IntKind.i64.wrap ((4 : Int) * (↑x : Int)) + (3 : Int))).toNat < (32 : Nat) ∧ ([] : List Nat) = [] ∧ true = true) ∧ (1 : Nat) ≠ (0 : Nat) ∧ (1 : Nat) = (1 : Nat) ∧ false = false) ∧
                                                      True ∧
                                                       True ∧
                                                        ((AV.d (D.val (Value.int IntKind.i64 (IntKind.i64.wrap ((↑x : Int) + (1 : Int))))) = AV.d (D.val (Value.int IntKind.i64 (↑(IntKind.i64.wrap ((↑x : Int) + (1 : Int))).toNat : Int))) ∧ True) ∧
                                                          (some
                                                              (Blk.fix
                                                               (D.st
                                                                [D.arr IntKind.u32 (8 : Nat) (wrS (ofS (D.st [D.arr IntKind.u32 (8 : Nat) s.h.l, D.val (Value.int IntKind.u64 (↑s.n : Int)), D.arr IntKind.u8 (64 : Nat) s.l])) (padL (↑s.n : Int).toNat)).h.l,
                                                                 D.val (Value.int IntKind.u64 (↑(wrS (ofS (D.st [D.arr IntKind.u32 (8 : Nat) s.h.l, D.val (Value.int IntKind.u64 (↑s.n : Int)), D.arr IntKind.u8 (64 : Nat) s.l])) (padL (↑s.n : Int).toNat)).n : Int)),
                                                                 D.arr IntKind.u8 (64 : Nat) (wrS (ofS (D.st [D.arr IntKind.u32 (8 : Nat) s.h.l, D.val (Value.int IntKind.u64 (↑s.n : Int)), D.arr IntKind.u8 (64 : Nat) s.l])) (padL (↑s.n : Int).toNat)).l])) =
                                                             some
                                                              (Blk.fix
                                                               (D.st
                                                                [D.arr IntKind.u32 (8 : Nat) (wrS (ofS (D.st [D.arr IntKind.u32 (8 : Nat) s.h.l, D.val (Value.int IntKind.u64 (↑s.n : Int)), D.arr IntKind.u8 (64 : Nat) s.l])) (padL (↑s.n : Int).toNat)).h.l,
                                                                 D.val (Value.int IntKind.u64 (↑(wrS (ofS (D.st [D.arr IntKind.u32 (8 : Nat) s.h.l, D.val (Value.int IntKind.u64 (↑s.n : Int)), D.arr IntKind.u8 (64 : Nat) s.l])) (padL (↑s.n : Int).toNat)).n : Int)),
                                                                 D.arr IntKind.u8 (64 : Nat) (wrS (ofS (D.st [D.arr IntKind.u32 (8 : Nat) s.h.l, D.val (Value.int IntKind.u64 (↑s.n : Int)), D.arr IntKind.u8 (64 : Nat) s.l])) (padL (↑s.n : Int).toNat)).l])) ∧
                                                            some
                                                               (Blk.fix
                                                                (D.arr IntKind.u8 (32 : Nat)
                                                                 [(0 : Int), (0 : Int), (0 : Int), (0 : Int), (0 : Int), (0 : Int), (0 : Int), (0 : Int), (0 : Int), (0 : Int), (0 : Int), (0 : Int), (0 : Int), (0 : Int), (0 : Int), (0 : Int), (0 : Int), (0 : Int), (0 : Int), (0 : Int), (0 : Int), (0 : Int), (0 : Int), (0 : Int),
                                                                  (0 : Int), (0 : Int), (0 : Int), (0 : Int), (0 : Int), (0 : Int), (0 : Int), (0 : Int)])) =
                                                              some
                                                               (Blk.fix
                                                                (D.arr IntKind.u8 (32 : Nat)
                                                                 [(0 : Int), (0 : Int), (0 : Int), (0 : Int), (0 : Int), (0 : Int), (0 : Int), (0 : Int), (0 : Int), (0 : Int), (0 : Int), (0 : Int), (0 : Int), (0 : Int), (0 : Int), (0 : Int), (0 : Int), (0 : Int), (0 : Int), (0 : Int), (0 : Int), (0 : Int), (0 : Int), (0 : Int),
                                                                  (0 : Int), (0 : Int), (0 : Int), (0 : Int), (0 : Int), (0 : Int), (0 : Int), (0 : Int)])) ∧
                                                             some
                                                                (Blk.fix
                                                                 (D.arr IntKind.u8 (32 : Nat)
                                                                  (((((List.take ((4 : Nat) * x) (sumL s) ++ List.replicate ((32 : Nat) - (4 : Nat) * x) (0 : Int)).set (IntKind.i64.wrap ((4 : Int) * (↑x : Int))).toNat
                                                                         (IntKind.u8.wrap (ishr IntKind.u32 ((wrS (ofS (D.st [D.arr IntKind.u32 (8 : Nat) s.h.l, D.val (Value.int IntKind.u64 (↑s.n : Int)), D.arr IntKind.u8 (64 : Nat) s.l])) (padL (↑s.n : Int).toNat)).h.l.getD (↑x : Int).toNat (0 : Int)) (24 : Int)))).set
                                                                       (IntKind.i64.wrap (IntKind.i64.wrap ((4 : Int) * (↑x : Int)) + (1 : Int))).toNat
                                                                       (IntKind.u8.wrap (ishr IntKind.u32 ((wrS (ofS (D.st [D.arr IntKind.u32 (8 : Nat) s.h.l, D.val (Value.int IntKind.u64 (↑s.n : Int)), D.arr IntKind.u8 (64 : Nat) s.l])) (padL (↑s.n : Int).toNat)).h.l.getD (↑x : Int).toNat (0 : Int)) (16 : Int)))).set
                                                                     (IntKind.i64.wrap (IntKind.i64.wrap ((4 : Int) * (↑x : Int)) + (2 : Int))).toNat
                                                                     (IntKind.u8.wrap (ishr IntKind.u32 ((wrS (ofS (D.st [D.arr IntKind.u32 (8 : Nat) s.h.l, D.val (Value.int IntKind.u64 (↑s.n : Int)), D.arr IntKind.u8 (64 : Nat) s.l])) (padL (↑s.n : Int).toNat)).h.l.getD (↑x : Int).toNat (0 : Int)) (8 : Int)))).set
                                                                   (IntKind.i64.wrap (IntKind.i64.wrap ((4 : Int) * (↑x : Int)) + (3 : Int))).toNat
                                                                   (IntKind.u8.wrap ((wrS (ofS (D.st [D.arr IntKind.u32 (8 : Nat) s.h.l, D.val (Value.int IntKind.u64 (↑s.n : Int)), D.arr IntKind.u8 (64 : Nat) s.l])) (padL (↑s.n : Int).toNat)).h.l.getD (↑x : Int).toNat (0 : Int)))))) =
                                                               some (Blk.fix (D.arr IntKind.u8 (32 : Nat) (List.take ((4 : Nat) * (IntKind.i64.wrap ((↑x : Int) + (1 : Int))).toNat) (sumL s) ++ List.replicate ((32 : Nat) - (4 : Nat) * (IntKind.i64.wrap ((↑x : Int) + (1 : Int))).toNat) (0 : Int)))) ∧
                                                              True) ∧
                                                           true = true) ∧
                                                         (IntKind.i64.wrap ((↑x : Int) + (1 : Int))).toNat ≤ (8 : Nat) ∧ (8 : Nat) - (IntKind.i64.wrap ((↑x : Int) + (1 : Int))).toNat < (8 : Nat) - x
                   | false =>
                    ((32 : Nat) ≠ (0 : Nat) ∧ (32 : Nat) = (32 : Nat) ∧ true = true) ∧
                     (Sk.arr (32 : Nat) = Sk.arr (32 : Nat) ∧ (32 : Nat) ≠ (0 : Nat) ∧ (32 : Nat) = (32 : Nat) ∧ false = false) ∧ (((32 : Nat) ≠ (0 : Nat) ∧ (32 : Nat) = (32 : Nat) ∧ true = true) ∧ True) ∧ D.arr IntKind.u8 (32 : Nat) (List.take ((4 : Nat) * x) (sumL s) ++ List.replicate ((32 : Nat) - (4 : Nat) * x) (0 : Int)) = F) := by kernel_rfl
set_option maxRecDepth 100000 in
theorem vc116  (F : D)  :
    (owed c0 (fun _ => none) Tryd.f116 [] F) = (
 True ∧ ((1 : Nat) = (1 : Nat) ∧ (8 : Nat) ≤ (4096 : Nat)) ∧ True ∧ (false = false ∧ True) ∧ D.ints IntKind.u32 [(1779033703 : Int), (3144134277 : Int), (1013904242 : Int), (2773480762 : Int), (1359893119 : Int), (2600822924 : Int), (528734635 : Int), (1541459225 : Int)] = F) := by kernel_rfl
set_option maxRecDepth 100000 in
theorem vc115  (x : R8) (n : Nat) (p : List Int) (F : D)  :
    (owed c115 (inv115 x n p) Tryd.f115 [.ints .u32 x.l, u64 (n : Int), .str p] F) = (
 (True ∧ (32 : Nat) ≠ (0 : Nat)) ∧
   True ∧
    True ∧
     True ∧
      True ∧
       True ∧
        True ∧
         (∃ (n_1 : Nat), [D.val (Value.int IntKind.u64 (IntKind.u64.wrap ((↑n : Int) + IntKind.u64.wrap (↑p.length : Int))))] = [D.val (Value.int IntKind.u64 (↑n_1 : Int))] ∧ n_1 < (18446744073709551616 : Nat)) ∧
          (↑(p.length + (padL (IntKind.u64.wrap ((↑n : Int) + IntKind.u64.wrap (↑p.length : Int))).toNat).length) : Int) ≤ (9223372036854775807 : Int) ∧
           True ∧
            True ∧
             (((AV.d (D.val (Value.int IntKind.i64 (0 : Int))) = AV.d (D.val (Value.int IntKind.i64 (↑(0 : Nat) : Int))) ∧ AV.d (D.ints IntKind.u32 x.l) = AV.d (D.ints IntKind.u32 (fhK x (fullL n p) (0 / 64 : Nat)).l) ∧ True) ∧
                (some
                    (Blk.fix
                     (D.arr IntKind.u8 (32 : Nat)
                      [(0 : Int), (0 : Int), (0 : Int), (0 : Int), (0 : Int), (0 : Int), (0 : Int), (0 : Int), (0 : Int), (0 : Int), (0 : Int), (0 : Int), (0 : Int), (0 : Int), (0 : Int), (0 : Int), (0 : Int), (0 : Int), (0 : Int), (0 : Int), (0 : Int), (0 : Int), (0 : Int), (0 : Int), (0 : Int), (0 : Int), (0 : Int), (0 : Int), (0 : Int), (0 : Int), (0 : Int), (0 : Int)])) =
                   some
                    (Blk.fix
                     (D.arr IntKind.u8 (32 : Nat)
                      [(0 : Int), (0 : Int), (0 : Int), (0 : Int), (0 : Int), (0 : Int), (0 : Int), (0 : Int), (0 : Int), (0 : Int), (0 : Int), (0 : Int), (0 : Int), (0 : Int), (0 : Int), (0 : Int), (0 : Int), (0 : Int), (0 : Int), (0 : Int), (0 : Int), (0 : Int), (0 : Int), (0 : Int), (0 : Int), (0 : Int), (0 : Int), (0 : Int), (0 : Int), (0 : Int), (0 : Int), (0 : Int)])) ∧
                  True) ∧
                 true = true) ∧
               (0 / 64 : Nat) ≤ (fullL n p).length / (64 : Nat)) ∧
              ∀ (x_1 : Nat),
               x_1 ≤ (fullL n p).length / (64 : Nat) →
                true = true ∧
                 True ∧
                  True ∧
                   True ∧
                    True ∧
                     match decide ((↑((64 : Nat) * x_1) : Int) < (↑(p ++ padL (IntKind.u64.wrap ((↑n : Int) + IntKind.u64.wrap (↑p.length : Int))).toNat).length : Int)) with
                     | true =>
                      True ∧
                       True ∧
                        True ∧
                         True ∧
                          True ∧
                           ((0 : Int) ≤ (↑((64 : Nat) * x_1) : Int) ∧ (↑((64 : Nat) * x_1) : Int) ≤ IntKind.i64.wrap ((↑((64 : Nat) * x_1) : Int) + (64 : Int)) ∧ IntKind.i64.wrap ((↑((64 : Nat) * x_1) : Int) + (64 : Int)) ≤ (↑(p ++ padL (IntKind.u64.wrap ((↑n : Int) + IntKind.u64.wrap (↑p.length : Int))).toNat).length : Int)) ∧
                            (∃ (x_2 : R8),
                              ∃ (l : List Int),
                               [D.ints IntKind.u32 (fhK x (fullL n p) x_1).l, D.str (List.drop (↑((64 : Nat) * x_1) : Int).toNat (List.take (IntKind.i64.wrap ((↑((64 : Nat) * x_1) : Int) + (64 : Int))).toNat (p ++ padL (IntKind.u64.wrap ((↑n : Int) + IntKind.u64.wrap (↑p.length : Int))).toNat)))] = [D.ints IntKind.u32 x_2.l, D.str l] ∧
                                isBytes l ∧ l.length = (64 : Nat)) ∧
                             True ∧
                              True ∧
                               True ∧
                                True ∧
                                 ((AV.d (D.val (Value.int IntKind.i64 (IntKind.i64.wrap ((↑((64 : Nat) * x_1) : Int) + (64 : Int))))) = AV.d (D.val (Value.int IntKind.i64 (↑((64 : Nat) * ((IntKind.i64.wrap ((↑((64 : Nat) * x_1) : Int) + (64 : Int))).toNat / (64 : Nat))) : Int))) ∧
                                    AV.d (D.ints IntKind.u32 (prL (fhK x (fullL n p) x_1).l (List.drop (↑((64 : Nat) * x_1) : Int).toNat (List.take (IntKind.i64.wrap ((↑((64 : Nat) * x_1) : Int) + (64 : Int))).toNat (p ++ padL (IntKind.u64.wrap ((↑n : Int) + IntKind.u64.wrap (↑p.length : Int))).toNat))))) =
                                      AV.d (D.ints IntKind.u32 (fhK x (fullL n p) ((IntKind.i64.wrap ((↑((64 : Nat) * x_1) : Int) + (64 : Int))).toNat / (64 : Nat))).l) ∧
                                     True) ∧
                                   (some
                                       (Blk.fix
                                        (D.arr IntKind.u8 (32 : Nat)
                                         [(0 : Int), (0 : Int), (0 : Int), (0 : Int), (0 : Int), (0 : Int), (0 : Int), (0 : Int), (0 : Int), (0 : Int), (0 : Int), (0 : Int), (0 : Int), (0 : Int), (0 : Int), (0 : Int), (0 : Int), (0 : Int), (0 : Int), (0 : Int), (0 : Int), (0 : Int), (0 : Int), (0 : Int), (0 : Int), (0 : Int), (0 : Int), (0 : Int), (0 : Int),
                                          (0 : Int), (0 : Int), (0 : Int)])) =
                                      some
                                       (Blk.fix
                                        (D.arr IntKind.u8 (32 : Nat)
                                         [(0 : Int), (0 : Int), (0 : Int), (0 : Int), (0 : Int), (0 : Int), (0 : Int), (0 : Int), (0 : Int), (0 : Int), (0 : Int), (0 : Int), (0 : Int), (0 : Int), (0 : Int), (0 : Int), (0 : Int), (0 : Int), (0 : Int), (0 : Int), (0 : Int), (0 : Int), (0 : Int), (0 : Int), (0 : Int), (0 : Int), (0 : Int), (0 : Int), (0 : Int),
                                          (0 : Int), (0 : Int), (0 : Int)])) ∧
                                     True) ∧
                                    true = true) ∧
                                  (IntKind.i64.wrap ((↑((64 : Nat) * x_1) : Int) + (64 : Int))).toNat / (64 : Nat) ≤ (fullL n p).length / (64 : Nat) ∧ (fullL n p).length / (64 : Nat) - (IntKind.i64.wrap ((↑((64 : Nat) * x_1) : Int) + (64 : Int))).toNat / (64 : Nat) < (fullL n p).length / (64 : Nat) - x_1
                     | false =>
                      (True ∧ (32 : Nat) ≠ (0 : Nat)) ∧
                       True ∧
                        (((AV.d (D.val (Value.int IntKind.i64 (0 : Int))) = AV.d (D.val (Value.int IntKind.i64 (↑(Int.toNat (0 : Int)) : Int))) ∧ True) ∧
                           (some
                               (Blk.fix
                                (D.arr IntKind.u8 (32 : Nat)
                                 [(0 : Int), (0 : Int), (0 : Int), (0 : Int), (0 : Int), (0 : Int), (0 : Int), (0 : Int), (0 : Int), (0 : Int), (0 : Int), (0 : Int), (0 : Int), (0 : Int), (0 : Int), (0 : Int), (0 : Int), (0 : Int), (0 : Int), (0 : Int), (0 : Int), (0 : Int), (0 : Int), (0 : Int), (0 : Int), (0 : Int), (0 : Int), (0 : Int), (0 : Int), (0 : Int),
                                  (0 : Int), (0 : Int)])) =
                              some
                               (Blk.fix
                                (D.arr IntKind.u8 (32 : Nat)
                                 [(0 : Int), (0 : Int), (0 : Int), (0 : Int), (0 : Int), (0 : Int), (0 : Int), (0 : Int), (0 : Int), (0 : Int), (0 : Int), (0 : Int), (0 : Int), (0 : Int), (0 : Int), (0 : Int), (0 : Int), (0 : Int), (0 : Int), (0 : Int), (0 : Int), (0 : Int), (0 : Int), (0 : Int), (0 : Int), (0 : Int), (0 : Int), (0 : Int), (0 : Int), (0 : Int),
                                  (0 : Int), (0 : Int)])) ∧
                             some
                                (Blk.fix
                                 (D.arr IntKind.u8 (32 : Nat)
                                  [(0 : Int), (0 : Int), (0 : Int), (0 : Int), (0 : Int), (0 : Int), (0 : Int), (0 : Int), (0 : Int), (0 : Int), (0 : Int), (0 : Int), (0 : Int), (0 : Int), (0 : Int), (0 : Int), (0 : Int), (0 : Int), (0 : Int), (0 : Int), (0 : Int), (0 : Int), (0 : Int), (0 : Int), (0 : Int), (0 : Int), (0 : Int), (0 : Int), (0 : Int), (0 : Int),
                                   (0 : Int), (0 : Int)])) =
                               some
                                (Blk.fix
                                 (D.arr IntKind.u8 (32 : Nat)
                                  (List.take (Int.toNat (0 : Int)) (fromL x n p) ++
                                   [(0 : Int), (0 : Int), (0 : Int), (0 : Int), (0 : Int), (0 : Int), (0 : Int), (0 : Int), (0 : Int), (0 : Int), (0 : Int), (0 : Int), (0 : Int), (0 : Int), (0 : Int), (0 : Int), (0 : Int), (0 : Int), (0 : Int), (0 : Int), (0 : Int), (0 : Int), (0 : Int), (0 : Int), (0 : Int), (0 : Int), (0 : Int), (0 : Int), (0 : Int), (0 : Int),
                                    (0 : Int), (0 : Int)]))) ∧
                              True) ∧
                            true = true) ∧
                          Int.toNat (0 : Int) ≤ (32 : Nat)) ∧
                         ∀ (x_2 : Nat),
                          x_2 ≤ (32 : Nat) →
                           true = true ∧
                            True ∧
                             match decide ((↑x_2 : Int) < (32 : Int)) with
                             | true =>
                              True ∧
                               True ∧
                                True ∧
                                 True ∧
                                  True ∧
                                   (4 : Int) ≠ (0 : Int) ∧
                                    ((0 : Int) ≤ IntKind.i64.wrap ((↑x_2 : Int).tdiv (4 : Int)) ∧ IntKind.i64.wrap ((↑x_2 : Int).tdiv (4 : Int)) < (↑(fhK x (fullL n p) x_1).l.length : Int) ∧ (1 : Nat) = (1 : Nat)) ∧
                                     ((1 : Nat) ≠ (0 : Nat) ∧ (1 : Nat) = (1 : Nat) ∧ false = false) ∧
                                      True ∧
                                       (4 : Int) ≠ (0 : Int) ∧
                                        True ∧
                                         True ∧
                                          (0 : Int) ≤ IntKind.i64.wrap ((24 : Int) - IntKind.i64.wrap ((8 : Int) * (↑x_2 : Int).tmod (4 : Int))) ∧
                                           True ∧
                                            ((0 : Int) ≤ (↑x_2 : Int) ∧ (↑x_2 : Int) < (↑(32 : Nat) : Int) ∧ (32 : Nat) = (32 : Nat) ∧ (1 : Nat) = (1 : Nat)) ∧
                                             (((↑x_2 : Int).toNat < (32 : Nat) ∧ ([] : List Nat) = [] ∧ true = true) ∧ (1 : Nat) ≠ (0 : Nat) ∧ (1 : Nat) = (1 : Nat) ∧ false = false) ∧
                                              True ∧
                                               True ∧
                                                ((AV.d (D.val (Value.int IntKind.i64 (IntKind.i64.wrap ((↑x_2 : Int) + (1 : Int))))) = AV.d (D.val (Value.int IntKind.i64 (↑(IntKind.i64.wrap ((↑x_2 : Int) + (1 : Int))).toNat : Int))) ∧ True) ∧
                                                  (some
                                                      (Blk.fix
                                                       (D.arr IntKind.u8 (32 : Nat)
                                                        [(0 : Int), (0 : Int), (0 : Int), (0 : Int), (0 : Int), (0 : Int), (0 : Int), (0 : Int), (0 : Int), (0 : Int), (0 : Int), (0 : Int), (0 : Int), (0 : Int), (0 : Int), (0 : Int), (0 : Int), (0 : Int), (0 : Int), (0 : Int), (0 : Int), (0 : Int), (0 : Int), (0 : Int), (0 : Int), (0 : Int),
                                                         (0 : Int), (0 : Int), (0 : Int), (0 : Int), (0 : Int), (0 : Int)])) =
                                                     some
                                                      (Blk.fix
                                                       (D.arr IntKind.u8 (32 : Nat)
                                                        [(0 : Int), (0 : Int), (0 : Int), (0 : Int), (0 : Int), (0 : Int), (0 : Int), (0 : Int), (0 : Int), (0 : Int), (0 : Int), (0 : Int), (0 : Int), (0 : Int), (0 : Int), (0 : Int), (0 : Int), (0 : Int), (0 : Int), (0 : Int), (0 : Int), (0 : Int), (0 : Int), (0 : Int), (0 : Int), (0 : Int),
                                                         (0 : Int), (0 : Int), (0 : Int), (0 : Int), (0 : Int), (0 : Int)])) ∧
                                                    some
                                                       (Blk.fix
                                                        (D.arr IntKind.u8 (32 : Nat)
                                                         ((List.take x_2 (fromL x n p) ++ List.replicate ((32 : Nat) - x_2) (0 : Int)).set (↑x_2 : Int).toNat
                                                          (IntKind.u8.wrap (ishr IntKind.u32 ((fhK x (fullL n p) x_1).l.getD (IntKind.i64.wrap ((↑x_2 : Int).tdiv (4 : Int))).toNat (0 : Int)) (IntKind.i64.wrap ((24 : Int) - IntKind.i64.wrap ((8 : Int) * (↑x_2 : Int).tmod (4 : Int))))))))) =
                                                      some (Blk.fix (D.arr IntKind.u8 (32 : Nat) (List.take (IntKind.i64.wrap ((↑x_2 : Int) + (1 : Int))).toNat (fromL x n p) ++ List.replicate ((32 : Nat) - (IntKind.i64.wrap ((↑x_2 : Int) + (1 : Int))).toNat) (0 : Int)))) ∧
                                                     True) ∧
                                                   true = true) ∧
                                                 (IntKind.i64.wrap ((↑x_2 : Int) + (1 : Int))).toNat ≤ (32 : Nat) ∧ (32 : Nat) - (IntKind.i64.wrap ((↑x_2 : Int) + (1 : Int))).toNat < (32 : Nat) - x_2
                             | false =>
                              ((32 : Nat) ≠ (0 : Nat) ∧ (32 : Nat) = (32 : Nat) ∧ true = true) ∧
                               (Sk.arr (32 : Nat) = Sk.arr (32 : Nat) ∧ (32 : Nat) ≠ (0 : Nat) ∧ (32 : Nat) = (32 : Nat) ∧ false = false) ∧ (((32 : Nat) ≠ (0 : Nat) ∧ (32 : Nat) = (32 : Nat) ∧ true = true) ∧ True) ∧ D.arr IntKind.u8 (32 : Nat) (List.take x_2 (fromL x n p) ++ List.replicate ((32 : Nat) - x_2) (0 : Int)) = F) := by kernel_rfl
set_option maxRecDepth 100000 in
theorem vc70  (p : List Int) (F : D)  :
    (owed c70 (fun _ => none) Tryd.f70 [.ints .u8 p] F) = (
 (True ∧ (32 : Nat) ≠ (0 : Nat)) ∧
   (0 : Nat) = (0 : Nat) ∧
    True ∧
     (∃ (s : HS), ∃ (p_1 : List Int), [D.st [D.arr IntKind.u32 (8 : Nat) st0.h.l, D.val (Value.int IntKind.u64 (↑st0.n : Int)), D.arr IntKind.u8 (64 : Nat) st0.l], D.ints IntKind.u8 p] = [D.st [D.arr IntKind.u32 (8 : Nat) s.h.l, D.val (Value.int IntKind.u64 (↑s.n : Int)), D.arr IntKind.u8 (64 : Nat) s.l], D.ints IntKind.u8 p_1] ∧ okS s ∧ isBytes p_1 ∧ p_1.length ≤ (1000000000000000 : Nat)) ∧
      (∃ (s : HS),
        [D.st
            [D.arr IntKind.u32 (8 : Nat) (wrS (ofS (D.st [D.arr IntKind.u32 (8 : Nat) st0.h.l, D.val (Value.int IntKind.u64 (↑st0.n : Int)), D.arr IntKind.u8 (64 : Nat) st0.l])) p).h.l, D.val (Value.int IntKind.u64 (↑(wrS (ofS (D.st [D.arr IntKind.u32 (8 : Nat) st0.h.l, D.val (Value.int IntKind.u64 (↑st0.n : Int)), D.arr IntKind.u8 (64 : Nat) st0.l])) p).n : Int)),
             D.arr IntKind.u8 (64 : Nat) (wrS (ofS (D.st [D.arr IntKind.u32 (8 : Nat) st0.h.l, D.val (Value.int IntKind.u64 (↑st0.n : Int)), D.arr IntKind.u8 (64 : Nat) st0.l])) p).l]] =
          [D.st [D.arr IntKind.u32 (8 : Nat) s.h.l, D.val (Value.int IntKind.u64 (↑s.n : Int)), D.arr IntKind.u8 (64 : Nat) s.l]] ∧
         okS s) ∧
       (Sk.arr (32 : Nat) = Sk.arr (32 : Nat) ∧ (32 : Nat) ≠ (0 : Nat) ∧ (32 : Nat) = (32 : Nat) ∧ false = false) ∧
        (((32 : Nat) ≠ (0 : Nat) ∧ (32 : Nat) = (32 : Nat) ∧ true = true) ∧ True) ∧
         D.arr IntKind.u8 (32 : Nat)
           (sumL
            (ofS
             (D.st
              [D.arr IntKind.u32 (8 : Nat) (wrS (ofS (D.st [D.arr IntKind.u32 (8 : Nat) st0.h.l, D.val (Value.int IntKind.u64 (↑st0.n : Int)), D.arr IntKind.u8 (64 : Nat) st0.l])) p).h.l, D.val (Value.int IntKind.u64 (↑(wrS (ofS (D.st [D.arr IntKind.u32 (8 : Nat) st0.h.l, D.val (Value.int IntKind.u64 (↑st0.n : Int)), D.arr IntKind.u8 (64 : Nat) st0.l])) p).n : Int)),
               D.arr IntKind.u8 (64 : Nat) (wrS (ofS (D.st [D.arr IntKind.u32 (8 : Nat) st0.h.l, D.val (Value.int IntKind.u64 (↑st0.n : Int)), D.arr IntKind.u8 (64 : Nat) st0.l])) p).l]))) =
          F) := by kernel_rfl
set_option maxRecDepth 100000 in
theorem vc71  (p : List Int) (F : D)  :
    (owed c71 (fun _ => none) Tryd.f71 [.str p] F) = (
 (True ∧ (32 : Nat) ≠ (0 : Nat)) ∧
   (0 : Nat) = (0 : Nat) ∧
    True ∧
     (∃ (x : R8), ∃ (n : Nat), ∃ (p_1 : List Int), [D.ints IntKind.u32 iv.l, D.val (Value.int IntKind.u64 (0 : Int)), D.str p] = [D.ints IntKind.u32 x.l, D.val (Value.int IntKind.u64 (↑n : Int)), D.str p_1] ∧ isBytes p_1 ∧ p_1.length ≤ (1000000000000000 : Nat) ∧ n % (64 : Nat) = (0 : Nat) ∧ n < (18446744073709551616 : Nat)) ∧
      (Sk.arr (32 : Nat) = Sk.arr (32 : Nat) ∧ (32 : Nat) ≠ (0 : Nat) ∧ (32 : Nat) = (32 : Nat) ∧ false = false) ∧ (((32 : Nat) ≠ (0 : Nat) ∧ (32 : Nat) = (32 : Nat) ∧ true = true) ∧ True) ∧ D.arr IntKind.u8 (32 : Nat) (fromL (ofR iv.l) (0 : Nat) p) = F) := by kernel_rfl

end Go.Proofs.YtkicjckhkefnpaaDoor
/- package hash: New, Sum, Resume, and the reference's words, From, Sum: the proofs. -/
namespace Go.Proofs.YtkicjckhkefnpaaDoor
open Go Go.Vg

theorem btw (x : R8) {j : Nat} (h : j < 8) {k : Nat} (hk : k ≤ 3) : IntKind.u8.wrap (ishr .u32 (x.l.getD j 0) ((8 * k : Nat) : Int)) = bt x.l j k := by
  obtain ⟨w, e⟩ := xl_get x h
  unfold bt
  rw [e, ishrN .u32 (show 8 * k ≤ 32 by omega), wN8, Int.toNat_natCast, Nat.pow_mul]
theorem btw0 (x : R8) {j : Nat} (h : j < 8) : IntKind.u8.wrap (x.l.getD j 0) = bt x.l j 0 := by
  obtain ⟨w, e⟩ := xl_get x h
  unfold bt
  rw [e, wN8, Int.toNat_natCast, Nat.pow_zero, Nat.div_one]
theorem tl_bytes (b : Nat) : ∀ k, isBytes (tl b k)
  | 0 => fun x hx => by cases hx
  | k + 1 => fun x hx => by
    rcases List.mem_cons.1 hx with rfl | h
    · omega
    · exact tl_bytes b k x h
theorem padL_bytes (n : Nat) : isBytes (padL n) := by
  intro x hx
  unfold padL at hx
  rcases List.mem_cons.1 hx with rfl | h
  · omega
  · rcases List.mem_append.1 h with h | h
    · have := List.eq_of_mem_replicate h
      omega
    · exact tl_bytes _ _ x h
theorem bytes_app {a b : List Int} (ha : isBytes a) (hb : isBytes b) : isBytes (a ++ b) := by
  intro x hx
  rcases List.mem_append.1 hx with h | h
  · exact ha x h
  · exact hb x h
theorem bytes_drop {l : List Int} (h : isBytes l) (n : Nat) : isBytes (l.drop n) := fun x hx => h x (List.mem_of_mem_drop hx)

set_option maxRecDepth 100000 in
theorem m75 : Meets Tryd.prog 75 sp75 := by
  refine meets_of_owed (C := c0) ⟨tab_ok, fun f s h => by cases h⟩ (by kernel_rfl) (by kernel_rfl : Tryd.prog.funcs[75]? = some Tryd.f75) (by kernel_rfl) (by kernel_rfl) (by kernel_rfl) _ ?_
  rintro ds hds
  have hds : ds.length = 0 := hds
  obtain rfl := List.eq_nil_of_length_eq_zero hds
  refine ⟨fun _ => rfl, fun _ => none, ?_⟩
  show owed c0 (fun _ => none) Tryd.f75 [] (stD st0)
  rw [vc75]
  and_intros <;> first | rfl | decide | trivial

set_option maxRecDepth 100000 in
theorem m116 : Meets Tryd.prog 116 sp116 := by
  refine meets_of_owed (C := c0) ⟨tab_ok, fun f s h => by cases h⟩ (by kernel_rfl) (by kernel_rfl : Tryd.prog.funcs[116]? = some Tryd.f116) (by kernel_rfl) (by kernel_rfl) (by kernel_rfl) _ ?_
  rintro ds hds
  have hds : ds.length = 0 := hds
  obtain rfl := List.eq_nil_of_length_eq_zero hds
  refine ⟨(fun h => by cases h), fun _ => none, ?_⟩
  show owed c0 (fun _ => none) Tryd.f116 [] (.ints .u32 iv.l)
  rw [vc116]
  and_intros <;> first | rfl | decide | trivial

set_option maxRecDepth 100000 in
theorem m77 : Meets Tryd.prog 77 sp77 := by
  refine meets_of_owed (C := c77) ⟨tab_ok, lkS_ok ⟨m76, m118, trivial⟩⟩ (by kernel_rfl) (by kernel_rfl : Tryd.prog.funcs[77]? = some Tryd.f77) (by kernel_rfl) (by kernel_rfl) (by kernel_rfl) _ ?_
  rintro _ ⟨s, rfl, hs⟩
  refine ⟨fun _ => rfl, inv77 s, ?_⟩
  show owed c77 (inv77 s) Tryd.f77 [stD s] (d32 (sumL (ofS (stD s))))
  have e : ofS (D.st [D.arr .u32 8 s.h.l, D.val (.int .u64 (s.n : Int)), D.arr .u8 64 s.l]) = s := ofS_eq s
  rw [vc77]
  simp (decide := true) only [e, eq_self, true_and, and_true, ne_eq, not_false_eq_true, Int.toNat_natCast]
  have hz := zc_lt s.n
  have hl := padL_len s.n
  have hy : sumL s = outL (wrS s (padL s.n)).h := rfl
  refine ⟨⟨s.n, rfl, hs.2.2⟩, ⟨s, padL s.n, rfl, hs, padL_bytes _, by omega⟩, (by and_intros <;> first | rfl | trivial | omega), fun x hx => ?_⟩
  generalize wrS s (padL s.n) = y at *
  have hL : (sumL s).length = 32 := by rw [hy]; exact outL_len _
  have g : ∀ j, j ≤ 3 → 4 * x + j < 32 → (sumL s).getD (4 * x + j) 0 = bt y.h.l x (3 - j) := by
    intro j hj hlt
    rw [hy, outL_get _ hlt, show (4 * x + j) / 4 = x by omega, show (4 * x + j) % 4 = j by omega]
  generalize sumL s = L at *
  split
  · rename_i h
    have h : x < 8 := by have := of_decide_eq_true h; omega
    have ew : IntKind.i64.wrap ((x : Int) + 1) = ((x + 1 : Nat) : Int) := by rw [wi (by omega) (by omega)]; omega
    have e4 : IntKind.i64.wrap (4 * (x : Int)) = ((4 * x : Nat) : Int) := by rw [wi (by omega) (by omega)]; omega
    have e1 : ∀ j : Nat, j ≤ 3 → IntKind.i64.wrap (((4 * x : Nat) : Int) + (j : Int)) = ((4 * x + j : Nat) : Int) := fun j hj => by rw [wi (by omega) (by omega)]; omega
    have e41 := e1 1 (by decide)
    have e42 := e1 2 (by decide)
    have e43 := e1 3 (by decide)
    have b3 := btw y.h h (k := 3) (by decide)
    have b2 := btw y.h h (k := 2) (by decide)
    have b1 := btw y.h h (k := 1) (by decide)
    have b0 := btw0 y.h h
    have g0 := g 0 (by decide) (by omega)
    have g1 := g 1 (by decide) (by omega)
    have g2 := g 2 (by decide) (by omega)
    have g3 := g 3 (by decide) (by omega)
    have f0 := fill L (n := 32) (k := 4 * x + 0) hL (by omega)
    have f1 := fill L (n := 32) (k := 4 * x + 1) hL (by omega)
    have f2 := fill L (n := 32) (k := 4 * x + 2) hL (by omega)
    have f3 := fill L (n := 32) (k := 4 * x + 3) hL (by omega)
    rw [g0] at f0
    rw [g1] at f1
    rw [g2] at f2
    rw [g3] at f3
    change IntKind.u8.wrap (ishr .u32 (y.h.l.getD x 0) 24) = _ at b3
    change IntKind.u8.wrap (ishr .u32 (y.h.l.getD x 0) 16) = _ at b2
    change IntKind.u8.wrap (ishr .u32 (y.h.l.getD x 0) 8) = _ at b1
    change IntKind.i64.wrap (((4 * x : Nat) : Int) + 1) = _ at e41
    change IntKind.i64.wrap (((4 * x : Nat) : Int) + 2) = _ at e42
    change IntKind.i64.wrap (((4 * x : Nat) : Int) + 3) = _ at e43
    simp only [Nat.add_zero, Nat.sub_zero, Nat.sub_self, show 3 - 1 = 2 from rfl, show 3 - 2 = 1 from rfl] at f0 f1 f2 f3
    simp only [ew, e4, e41, e42, e43, Int.toNat_natCast, b3, b2, b1, b0, f0, f1, f2, f3]
    and_intros <;> first | rfl | omega | trivial
  · rename_i h
    obtain rfl : x = 8 := by have := of_decide_eq_false h; omega
    rw [List.take_of_length_le (by omega)]
    show d32 (L ++ []) = d32 L
    rw [List.append_nil]

set_option maxRecDepth 100000 in
theorem m115 : Meets Tryd.prog 115 sp115 := by
  refine meets_of_owed (C := c115) ⟨tab_ok, lkS_ok ⟨m127, m128, trivial⟩⟩ (by kernel_rfl) (by kernel_rfl : Tryd.prog.funcs[115]? = some Tryd.f115) (by kernel_rfl) (by kernel_rfl) (by kernel_rfl) _ ?_
  rintro _ ⟨x, n, p, rfl, hb, hl, hn, hn2⟩
  refine ⟨fun _ => rfl, inv115 x n p, ?_⟩
  show owed c115 (inv115 x n p) Tryd.f115 [.ints .u32 x.l, u64 (n : Int), .str p] (d32 (fromL (ofR x.l) ((n : Int)).toNat p))
  rw [vc115, ofR_l, Int.toNat_natCast]
  have ew : IntKind.u64.wrap ((n : Int) + IntKind.u64.wrap (p.length : Int)) = (((n + p.length) % 18446744073709551616 : Nat) : Int) := by
    rw [w64, w64]; omega
  have ef : p ++ padL ((n + p.length) % 18446744073709551616) = fullL n p := rfl
  have hm : (fullL n p).length % 64 = 0 := mul64 n p hn
  have hmb : isBytes (fullL n p) := bytes_app hb (padL_bytes _)
  have hz := zc_lt ((n + p.length) % 18446744073709551616)
  have hpl := padL_len ((n + p.length) % 18446744073709551616)
  have hml : (fullL n p).length = p.length + (padL ((n + p.length) % 18446744073709551616)).length := List.length_append
  have hfr : fromL x n p = outL (fhK x (fullL n p) ((fullL n p).length / 64)) := rfl
  simp (decide := true) only [ew, ef, eq_self, true_and, and_true, ne_eq, not_false_eq_true, Int.toNat_natCast]
  have hk0 : fhK x (fullL n p) (0 / 64) = x := rfl
  rw [hk0]
  generalize hM : fullL n p = M at *
  refine ⟨⟨_, rfl, Nat.mod_lt _ (by decide)⟩, by omega, (by and_intros <;> first | rfl | trivial | omega), fun k hk => ?_⟩
  split
  · rename_i h
    have h : 64 * k < M.length := by have := of_decide_eq_true h; omega
    have e1 : IntKind.i64.wrap (((64 * k : Nat) : Int) + 64) = ((64 * k + 64 : Nat) : Int) := by rw [wi (by omega) (by omega)]; omega
    have e2 : (64 * k + 64) / 64 = k + 1 := by omega
    have e3 : prL (fhK x M k).l (List.take 64 (List.drop (64 * k) M)) = (fhK x M (k + 1)).l := by
      unfold prL
      rw [ofR_l]
      rfl
    have e4 : List.drop (64 * k) (List.take (64 * k + 64) M) = List.take 64 (List.drop (64 * k) M) := by
      rw [List.drop_take, show 64 * k + 64 - 64 * k = 64 by omega]
    simp only [e1, Int.toNat_natCast, e2, e4, e3]
    refine ⟨by omega, ⟨_, _, rfl, bytes_take (bytes_drop hmb _) _, by rw [List.length_take, List.length_drop]; omega⟩, ?_, by omega, by omega⟩
    rw [show 64 * (k + 1) = 64 * k + 64 by omega]
    and_intros <;> first | rfl | trivial
  · rename_i h
    obtain rfl : k = M.length / 64 := by have := of_decide_eq_false h; omega
    have hL : (fromL x n p).length = 32 := by rw [hfr]; exact outL_len _
    refine ⟨(by and_intros <;> first | rfl | trivial | omega), fun i hi => ?_⟩
    split
    · rename_i h
      have h : i < 32 := by have := of_decide_eq_true h; omega
      have g := outL_get (fhK x M (M.length / 64)) h
      have f := fill (fromL x n p) hL h
      have d1 : ((i : Nat) : Int).tdiv 4 = ((i / 4 : Nat) : Int) := tdivN _ 4
      have d2 : ((i : Nat) : Int).tmod 4 = ((i % 4 : Nat) : Int) := tmodN _ 4
      have d3 : IntKind.i64.wrap ((i / 4 : Nat) : Int) = ((i / 4 : Nat) : Int) := by rw [wi (by omega) (by omega)]
      have d4 : IntKind.i64.wrap (24 - IntKind.i64.wrap (8 * ((i % 4 : Nat) : Int))) = ((8 * (3 - i % 4) : Nat) : Int) := by
        rw [wi (n := 8 * ((i % 4 : Nat) : Int)) (by omega) (by omega), wi (by omega) (by omega)]; omega
      have d5 : IntKind.i64.wrap ((i : Int) + 1) = ((i + 1 : Nat) : Int) := by rw [wi (by omega) (by omega)]; omega
      have d6 : (fhK x M (M.length / 64)).l.length = 8 := rfl
      have b := btw (fhK x M (M.length / 64)) (j := i / 4) (by omega) (k := 3 - i % 4) (by omega)
      rw [hfr, g] at f
      rw [hfr]
      simp only [d1, d2, d3, d4, d5, d6, Int.toNat_natCast, b, f]
      and_intros <;> first | rfl | omega | trivial
    · rename_i h
      obtain rfl : i = 32 := by have := of_decide_eq_false h; omega
      rw [List.take_of_length_le (by omega)]
      show d32 (fromL x n p ++ []) = d32 (fromL x n p)
      rw [List.append_nil]

end Go.Proofs.YtkicjckhkefnpaaDoor
/- package hash: Resume, Sum of a text, and the reference's: the proofs. -/
namespace Go.Proofs.YtkicjckhkefnpaaDoor
open Go Go.Vg

theorem w4_sum {a b c d : Nat} (ha : a < 256) (hb : b < 256) (hc : c < 256) (hd : d < 256) :
    IntKind.u32.wrap (IntKind.u32.wrap (IntKind.u32.wrap (IntKind.u32.wrap (IntKind.u32.wrap (a : Int) * 16777216) + IntKind.u32.wrap (IntKind.u32.wrap (b : Int) * 65536)) + IntKind.u32.wrap (IntKind.u32.wrap (c : Int) * 256)) + IntKind.u32.wrap (d : Int)) = ((w4 a b c d).toNat : Int) := by
  unfold w4
  simp only [Int.toNat_natCast]
  rw [ofW _ (by omega)]
  simp only [w32]
  omega
theorem wl8 (l : List Int) : (woL l).l = wl l 8 := rfl

theorem wo_gen (a b : R8) {i : Nat} (h : i < 8) : (a.l.take i ++ b.l.drop i).set i (a.l.getD i 0) = a.l.take (i + 1) ++ b.l.drop (i + 1) := by
  rcases (by omega : i = 0 ∨ i = 1 ∨ i = 2 ∨ i = 3 ∨ i = 4 ∨ i = 5 ∨ i = 6 ∨ i = 7) with rfl | rfl | rfl | rfl | rfl | rfl | rfl | rfl <;> rfl
theorem wo_get (l : List Int) {i : Nat} (h : i < 8) : (woL l).l.getD i 0 = ((wat l (4 * i)).toNat : Int) := by
  rw [← wn_lo l (by omega)]
  rcases (by omega : i = 0 ∨ i = 1 ∨ i = 2 ∨ i = 3 ∨ i = 4 ∨ i = 5 ∨ i = 6 ∨ i = 7) with rfl | rfl | rfl | rfl | rfl | rfl | rfl | rfl <;> rfl

set_option maxRecDepth 100000 in
theorem m70 : Meets Tryd.prog 70 sp70 := by
  refine meets_of_owed (C := c70) ⟨tab_ok, lkS_ok ⟨m75, m76, m77, trivial⟩⟩ (by kernel_rfl) (by kernel_rfl : Tryd.prog.funcs[70]? = some Tryd.f70) (by kernel_rfl) (by kernel_rfl) (by kernel_rfl) _ ?_
  rintro _ ⟨p, rfl, hb, hl⟩
  refine ⟨fun _ => rfl, fun _ => none, ?_⟩
  show owed c70 (fun _ => none) Tryd.f70 [.ints .u8 p] (d32 (digL p))
  have e : ∀ s : HS, ofS (D.st [D.arr .u32 8 s.h.l, D.val (.int .u64 (s.n : Int)), D.arr .u8 64 s.l]) = s := ofS_eq
  rw [vc70]
  simp (decide := true) only [e, eq_self, true_and, and_true, ne_eq, not_false_eq_true, Int.toNat_natCast, sum_st0]
  exact ⟨⟨st0, p, rfl, st0_ok, hb, hl⟩, ⟨_, rfl, wr_ok p st0_ok hb⟩⟩

set_option maxRecDepth 100000 in
theorem m71 : Meets Tryd.prog 71 sp71 := by
  refine meets_of_owed (C := c71) ⟨tab_ok, lkS_ok ⟨m116, m115, trivial⟩⟩ (by kernel_rfl) (by kernel_rfl : Tryd.prog.funcs[71]? = some Tryd.f71) (by kernel_rfl) (by kernel_rfl) (by kernel_rfl) _ ?_
  rintro _ ⟨p, rfl, hb, hl⟩
  refine ⟨fun _ => rfl, fun _ => none, ?_⟩
  show owed c71 (fun _ => none) Tryd.f71 [.str p] (d32 (digL p))
  rw [vc71, ofR_l]
  simp (decide := true) only [eq_self, true_and, and_true, ne_eq, not_false_eq_true, Int.toNat_natCast]
  exact ⟨⟨iv, 0, p, rfl, hb, hl, rfl, by decide⟩, rfl⟩

end Go.Proofs.YtkicjckhkefnpaaDoor
/- What laws are handed: bytes, marks. -/
namespace Go.Proofs.YtkicjckhkefnpaaDoor
open Go Go.Vg

theorem okAll2 {t : Tab} {n : Nat} {a b : TypeId} : ∀ {ds : List D}, OkAll t n [a, b] ds → ∃ d e, ds = [d, e] ∧ OkT t n a d ∧ OkT t n b e
  | [], h => by cases h
  | [_], h => by cases h.2
  | [d, e], h => ⟨d, e, rfl, h.1, h.2.1⟩
  | _ :: _ :: _ :: _, h => by cases h.2.2
theorem okAll3 {t : Tab} {n : Nat} {a b c : TypeId} : ∀ {ds : List D}, OkAll t n [a, b, c] ds → ∃ d e f, ds = [d, e, f] ∧ OkT t n a d ∧ OkT t n b e ∧ OkT t n c f
  | [], h => by cases h
  | [_], h => by cases h.2
  | [_, _], h => by cases h.2.2
  | [d, e, f], h => ⟨d, e, f, rfl, h.1, h.2.1, h.2.2.1⟩
  | _ :: _ :: _ :: _ :: _, h => by cases h.2.2.2
set_option maxRecDepth 100000 in
theorem ok26  (d : D)  :
    (OkT tab 8 26 d) = (
 ∃ (l : List Int), d = D.ints IntKind.u8 l ∧ (∀ (z : Int), z ∈ l → (0 : Int) ≤ z ∧ z ≤ IntKind.u8.max) ∧ l.length ≤ (9223372036854775807 : Nat) ∧ l.length * (1 : Nat) ≤ (140737488351232 : Nat)) := by kernel_rfl
set_option maxRecDepth 100000 in
theorem ok28  (d : D)  :
    (OkT tab 8 28 d) = (
 ∃ (l : List Int), d = D.arr IntKind.u8 (32 : Nat) l ∧ l.length = (32 : Nat) ∧ ∀ (z : Int), z ∈ l → (0 : Int) ≤ z ∧ z ≤ IntKind.u8.max) := by kernel_rfl
set_option maxRecDepth 100000 in
theorem ok44  (d : D)  :
    (OkT tab 8 44 d) = (
 ∃ (ds : List D), d = D.st ds ∧ OkL (OkT tab (7 : Nat)) [((0 : Nat), (28 : TypeId)), ((32 : Nat), (3 : TypeId))] ds) := by kernel_rfl
theorem eqB_refl (l : List Int) : eqB l l = true := eqB_iff.2 rfl
theorem ofS' (s : HS) : ofS (D.st [D.arr .u32 8 s.h.l, D.val (.int .u64 (s.n : Int)), D.arr .u8 64 s.l]) = s := ofS_eq s
theorem bytes_of {d : D} {n : Nat} (h : OkT tab 8 26 d) (e : n = 1000000000000000) : ∃ l : List Int, d = .ints .u8 l ∧ isBytes l ∧ l.length ≤ 140737488351232 := by
  rw [ok26] at h
  obtain ⟨l, rfl, h1, _, h2⟩ := h
  refine ⟨l, rfl, fun x hx => ?_, by omega⟩
  have := h1 x hx
  have e : IntKind.u8.max = 255 := rfl
  rw [e] at this
  omega
theorem digL_len (p : List Int) : (digL p).length = 32 := outL_len _
theorem digL_bytes (p : List Int) : isBytes (digL p) := outL_bytes _
end Go.Proofs.YtkicjckhkefnpaaDoor
/- package tree and its reference: Leaf, Node, Check. -/
namespace Go.Proofs.YtkicjckhkefnpaaDoor
open Go Go.Vg

def nodeL (a b : List Int) : List Int := digL (1 :: (a ++ b))
def leafL (p : List Int) : List Int := digL (0 :: p)
/-- The greatest power of 2 below m. -/
def hf (m : Nat) : Nat := 2 ^ Nat.log2 (m - 1)
def isP (xs : List D) : Prop := ∀ x ∈ xs, ∃ l, x = d32 l ∧ isD l
/-- Who stands beside, floor by floor: true: the leaf's side is the left one. -/
def bS (n i : Nat) : List Bool := if i ^^^ 1 < n then [i % 2 == 0] else []
def sQf : Nat → Nat → Nat → List Bool
  | 0, _, _ => []
  | f + 1, n, i => if n ≤ 1 then [] else bS n i ++ sQf f ((n + 1) / 2) (i / 2)
def sQ (n i : Nat) : List Bool := sQf n n i
def stepS (b : Bool) (d : List Int) (x : D) : List Int := if b then nodeL d (arrOf x) else nodeL (arrOf x) d
def foldS (d : List Int) : List Bool → List D → List Int
  | b :: t, x :: p => foldS (stepS b d x) t p
  | _, _ => d
noncomputable def restB (n i : Nat) (p : List D) (d root : List Int) : Bool := decide (p.length = (sQ n i).length) && eqB (foldS d (sQ n i) p) root
noncomputable def chkB (root : List Int) (n i : Int) (p : List Int) (path : List D) : Bool :=
  if n < 1 ∨ 65536 < n ∨ i < 0 ∨ n ≤ i then false else restB n.toNat i.toNat path (leafL p) root
/-- The path from the top down. -/
def clR : List D → Nat → Nat → List Int → List Int × Bool
  | [], n, _, d => (d, n == 1)
  | x :: r, n, i, d => if n = 1 then (d, false) else if i < hf n then (nodeL (clR r (hf n) i d).1 (arrOf x), (clR r (hf n) i d).2) else (nodeL (arrOf x) (clR r (n - hf n) (i - hf n) d).1, (clR r (n - hf n) (i - hf n) d).2)
def clD (n i : Nat) (d : List Int) (p : List D) : List Int := (clR p.reverse n i d).1
def clB (n i : Nat) (d : List Int) (p : List D) : Bool := (clR p.reverse n i d).2
def xsOf : D → List D
  | .slc _ xs => xs
  | _ => []
abbrev pth (xs : List D) : D := .slc 32 xs
def sp74 : Go.Vg.Spec := ⟨fun ds => ∃ m, ds = [i64 ((m : Nat) : Int)] ∧ 2 ≤ m ∧ m ≤ 65536, fun ds => i64 (hf (numOf (ds.headD default)).toNat : Nat), true, [3]⟩
def sp22 : Go.Vg.Spec := ⟨fun ds => ∃ a b, ds = [d32 a, d32 b] ∧ isD a ∧ isD b, fun ds => d32 (nodeL (arrOf (ds.headD default)) (arrOf (ds.getD 1 default))), true, [28, 28]⟩
def sp20 : Go.Vg.Spec := ⟨fun ds => ∃ p, ds = [.ints .u8 p] ∧ isBytes p ∧ p.length ≤ 900000000000000, fun ds => d32 (leafL (intsOf (ds.headD default))), true, [26]⟩
def sp21 : Go.Vg.Spec := ⟨fun ds => ∃ p, ds = [.str p] ∧ isBytes p ∧ p.length ≤ 900000000000000, fun ds => d32 (leafL (strOf (ds.headD default))), true, [9]⟩
def c20 : Ctx := ⟨tab, lkS [(75, sp75), (76, sp76), (77, sp77)], [], []⟩
def c21 : Ctx := ⟨tab, lkS [(71, sp71)], [], []⟩
def inv74 (m : Nat) : Nat → Option Inv
  | 2 => some ⟨Nat, fun k => [(3, .d (i64 (k : Int)))], fun _ => [], fun s => (slotN s 3).toNat, fun _ k => (∃ j, k = 2 ^ j) ∧ k < m, fun k => m - k⟩
  | _ => none
def okR (r : List Int) (n0 i0 : Int) (p0 : List Int) (xs0 : List D) (x : Nat × Nat × List D × List Int) : Prop :=
  1 ≤ x.1 ∧ x.2.1 < x.1 ∧ x.1 ≤ 65536 ∧ isD x.2.2.2 ∧ isP x.2.2.1 ∧ x.2.2.1.length ≤ 100 ∧ restB x.1 x.2.1 x.2.2.1 x.2.2.2 r = chkB r n0 i0 p0 xs0
--KEEP ofR BitVec.toNat prL pr Go.Proofs.YtkicjckhkefnpaaDoor.R8.l wrS ofS okS padL fhK outL sumL fromL digL iv st0 Go.Vg.eqB nodeL leafL hf restB chkB clD clB isP isD okR
set_option maxRecDepth 100000 in
theorem vc74  (m : Nat) (F : D)  :
    (owed c0 (inv74 m) Tryd.f74 [i64 (m : Int)] F) = (
 True ∧
   True ∧
    (((AV.d (D.val (Value.int IntKind.i64 (1 : Int))) = AV.d (D.val (Value.int IntKind.i64 (↑(Int.toNat (1 : Int)) : Int))) ∧ True) ∧ True ∧ true = true) ∧ (∃ (j : Nat), Int.toNat (1 : Int) = (2 : Nat) ^ j) ∧ Int.toNat (1 : Int) < m) ∧
     ∀ (x : Nat),
      (∃ (j : Nat), x = (2 : Nat) ^ j) ∧ x < m →
       true = true ∧
        True ∧
         True ∧
          True ∧
           True ∧
            True ∧
             match decide ((↑x : Int) < IntKind.i64.wrap ((↑m : Int) - (↑x : Int))) with
             | true =>
              True ∧
               True ∧
                True ∧
                 ((AV.d (D.val (Value.int IntKind.i64 (IntKind.i64.wrap ((↑x : Int) * (2 : Int))))) = AV.d (D.val (Value.int IntKind.i64 (↑(IntKind.i64.wrap ((↑x : Int) * (2 : Int))).toNat : Int))) ∧ True) ∧ True ∧ true = true) ∧
                  ((∃ (j : Nat), (IntKind.i64.wrap ((↑x : Int) * (2 : Int))).toNat = (2 : Nat) ^ j) ∧ (IntKind.i64.wrap ((↑x : Int) * (2 : Int))).toNat < m) ∧ m - (IntKind.i64.wrap ((↑x : Int) * (2 : Int))).toNat < m - x
             | false => True ∧ True ∧ (false = false ∧ True) ∧ D.val (Value.int IntKind.i64 (↑x : Int)) = F) := by kernel_rfl
set_option maxRecDepth 100000 in
theorem vc22  (a b : List Int) (F : D)  :
    (owed c20 (fun _ => none) Tryd.f22 [d32 a, d32 b] F) = (
 (True ∧ false = false) ∧
   (True ∧ false = false) ∧
    (True ∧ (32 : Nat) ≠ (0 : Nat)) ∧
     (0 : Nat) = (0 : Nat) ∧
      ((1 : Nat) = (1 : Nat) ∧ (1 : Nat) ≤ (4096 : Nat)) ∧
       (∃ (s : HS),
         ∃ (p : List Int), [D.st [D.arr IntKind.u32 (8 : Nat) st0.h.l, D.val (Value.int IntKind.u64 (↑st0.n : Int)), D.arr IntKind.u8 (64 : Nat) st0.l], D.ints IntKind.u8 [(1 : Int)]] = [D.st [D.arr IntKind.u32 (8 : Nat) s.h.l, D.val (Value.int IntKind.u64 (↑s.n : Int)), D.arr IntKind.u8 (64 : Nat) s.l], D.ints IntKind.u8 p] ∧ okS s ∧ isBytes p ∧ p.length ≤ (1000000000000000 : Nat)) ∧
        ((0 : Int) ≤ (0 : Int) ∧ (0 : Int) ≤ (↑(32 : Nat) : Int) ∧ (↑(32 : Nat) : Int) ≤ (↑(32 : Nat) : Int) ∧ (32 : Nat) = (32 : Nat) ∧ (1 : Nat) = (1 : Nat)) ∧
         (∃ (s : HS),
           ∃ (p : List Int),
            [D.st
                [D.arr IntKind.u32 (8 : Nat) (wrS (ofS (D.st [D.arr IntKind.u32 (8 : Nat) st0.h.l, D.val (Value.int IntKind.u64 (↑st0.n : Int)), D.arr IntKind.u8 (64 : Nat) st0.l])) [(1 : Int)]).h.l,
                 D.val (Value.int IntKind.u64 (↑(wrS (ofS (D.st [D.arr IntKind.u32 (8 : Nat) st0.h.l, D.val (Value.int IntKind.u64 (↑st0.n : Int)), D.arr IntKind.u8 (64 : Nat) st0.l])) [(1 : Int)]).n : Int)),
                 D.arr IntKind.u8 (64 : Nat) (wrS (ofS (D.st [D.arr IntKind.u32 (8 : Nat) st0.h.l, D.val (Value.int IntKind.u64 (↑st0.n : Int)), D.arr IntKind.u8 (64 : Nat) st0.l])) [(1 : Int)]).l],
               D.ints IntKind.u8 (List.take ((↑(32 : Nat) : Int).toNat - (0 : Nat)) (List.drop (0 : Nat) a))] =
              [D.st [D.arr IntKind.u32 (8 : Nat) s.h.l, D.val (Value.int IntKind.u64 (↑s.n : Int)), D.arr IntKind.u8 (64 : Nat) s.l], D.ints IntKind.u8 p] ∧
             okS s ∧ isBytes p ∧ p.length ≤ (1000000000000000 : Nat)) ∧
          ((0 : Int) ≤ (0 : Int) ∧ (0 : Int) ≤ (↑(32 : Nat) : Int) ∧ (↑(32 : Nat) : Int) ≤ (↑(32 : Nat) : Int) ∧ (32 : Nat) = (32 : Nat) ∧ (1 : Nat) = (1 : Nat)) ∧
           (∃ (s : HS),
             ∃ (p : List Int),
              [D.st
                  [D.arr IntKind.u32 (8 : Nat)
                    (wrS
                       (ofS
                        (D.st
                         [D.arr IntKind.u32 (8 : Nat) (wrS (ofS (D.st [D.arr IntKind.u32 (8 : Nat) st0.h.l, D.val (Value.int IntKind.u64 (↑st0.n : Int)), D.arr IntKind.u8 (64 : Nat) st0.l])) [(1 : Int)]).h.l,
                          D.val (Value.int IntKind.u64 (↑(wrS (ofS (D.st [D.arr IntKind.u32 (8 : Nat) st0.h.l, D.val (Value.int IntKind.u64 (↑st0.n : Int)), D.arr IntKind.u8 (64 : Nat) st0.l])) [(1 : Int)]).n : Int)),
                          D.arr IntKind.u8 (64 : Nat) (wrS (ofS (D.st [D.arr IntKind.u32 (8 : Nat) st0.h.l, D.val (Value.int IntKind.u64 (↑st0.n : Int)), D.arr IntKind.u8 (64 : Nat) st0.l])) [(1 : Int)]).l]))
                       (List.take ((↑(32 : Nat) : Int).toNat - (0 : Nat)) (List.drop (0 : Nat) a))).h.l,
                   D.val
                    (Value.int IntKind.u64
                     (↑(wrS
                         (ofS
                          (D.st
                           [D.arr IntKind.u32 (8 : Nat) (wrS (ofS (D.st [D.arr IntKind.u32 (8 : Nat) st0.h.l, D.val (Value.int IntKind.u64 (↑st0.n : Int)), D.arr IntKind.u8 (64 : Nat) st0.l])) [(1 : Int)]).h.l,
                            D.val (Value.int IntKind.u64 (↑(wrS (ofS (D.st [D.arr IntKind.u32 (8 : Nat) st0.h.l, D.val (Value.int IntKind.u64 (↑st0.n : Int)), D.arr IntKind.u8 (64 : Nat) st0.l])) [(1 : Int)]).n : Int)),
                            D.arr IntKind.u8 (64 : Nat) (wrS (ofS (D.st [D.arr IntKind.u32 (8 : Nat) st0.h.l, D.val (Value.int IntKind.u64 (↑st0.n : Int)), D.arr IntKind.u8 (64 : Nat) st0.l])) [(1 : Int)]).l]))
                         (List.take ((↑(32 : Nat) : Int).toNat - (0 : Nat)) (List.drop (0 : Nat) a))).n :
                      Int)),
                   D.arr IntKind.u8 (64 : Nat)
                    (wrS
                      (ofS
                       (D.st
                        [D.arr IntKind.u32 (8 : Nat) (wrS (ofS (D.st [D.arr IntKind.u32 (8 : Nat) st0.h.l, D.val (Value.int IntKind.u64 (↑st0.n : Int)), D.arr IntKind.u8 (64 : Nat) st0.l])) [(1 : Int)]).h.l,
                         D.val (Value.int IntKind.u64 (↑(wrS (ofS (D.st [D.arr IntKind.u32 (8 : Nat) st0.h.l, D.val (Value.int IntKind.u64 (↑st0.n : Int)), D.arr IntKind.u8 (64 : Nat) st0.l])) [(1 : Int)]).n : Int)),
                         D.arr IntKind.u8 (64 : Nat) (wrS (ofS (D.st [D.arr IntKind.u32 (8 : Nat) st0.h.l, D.val (Value.int IntKind.u64 (↑st0.n : Int)), D.arr IntKind.u8 (64 : Nat) st0.l])) [(1 : Int)]).l]))
                      (List.take ((↑(32 : Nat) : Int).toNat - (0 : Nat)) (List.drop (0 : Nat) a))).l],
                 D.ints IntKind.u8 (List.take ((↑(32 : Nat) : Int).toNat - (0 : Nat)) (List.drop (0 : Nat) b))] =
                [D.st [D.arr IntKind.u32 (8 : Nat) s.h.l, D.val (Value.int IntKind.u64 (↑s.n : Int)), D.arr IntKind.u8 (64 : Nat) s.l], D.ints IntKind.u8 p] ∧
               okS s ∧ isBytes p ∧ p.length ≤ (1000000000000000 : Nat)) ∧
            (∃ (s : HS),
              [D.st
                  [D.arr IntKind.u32 (8 : Nat)
                    (wrS
                       (ofS
                        (D.st
                         [D.arr IntKind.u32 (8 : Nat)
                           (wrS
                              (ofS
                               (D.st
                                [D.arr IntKind.u32 (8 : Nat) (wrS (ofS (D.st [D.arr IntKind.u32 (8 : Nat) st0.h.l, D.val (Value.int IntKind.u64 (↑st0.n : Int)), D.arr IntKind.u8 (64 : Nat) st0.l])) [(1 : Int)]).h.l,
                                 D.val (Value.int IntKind.u64 (↑(wrS (ofS (D.st [D.arr IntKind.u32 (8 : Nat) st0.h.l, D.val (Value.int IntKind.u64 (↑st0.n : Int)), D.arr IntKind.u8 (64 : Nat) st0.l])) [(1 : Int)]).n : Int)),
                                 D.arr IntKind.u8 (64 : Nat) (wrS (ofS (D.st [D.arr IntKind.u32 (8 : Nat) st0.h.l, D.val (Value.int IntKind.u64 (↑st0.n : Int)), D.arr IntKind.u8 (64 : Nat) st0.l])) [(1 : Int)]).l]))
                              (List.take ((↑(32 : Nat) : Int).toNat - (0 : Nat)) (List.drop (0 : Nat) a))).h.l,
                          D.val
                           (Value.int IntKind.u64
                            (↑(wrS
                                (ofS
                                 (D.st
                                  [D.arr IntKind.u32 (8 : Nat) (wrS (ofS (D.st [D.arr IntKind.u32 (8 : Nat) st0.h.l, D.val (Value.int IntKind.u64 (↑st0.n : Int)), D.arr IntKind.u8 (64 : Nat) st0.l])) [(1 : Int)]).h.l,
                                   D.val (Value.int IntKind.u64 (↑(wrS (ofS (D.st [D.arr IntKind.u32 (8 : Nat) st0.h.l, D.val (Value.int IntKind.u64 (↑st0.n : Int)), D.arr IntKind.u8 (64 : Nat) st0.l])) [(1 : Int)]).n : Int)),
                                   D.arr IntKind.u8 (64 : Nat) (wrS (ofS (D.st [D.arr IntKind.u32 (8 : Nat) st0.h.l, D.val (Value.int IntKind.u64 (↑st0.n : Int)), D.arr IntKind.u8 (64 : Nat) st0.l])) [(1 : Int)]).l]))
                                (List.take ((↑(32 : Nat) : Int).toNat - (0 : Nat)) (List.drop (0 : Nat) a))).n :
                             Int)),
                          D.arr IntKind.u8 (64 : Nat)
                           (wrS
                             (ofS
                              (D.st
                               [D.arr IntKind.u32 (8 : Nat) (wrS (ofS (D.st [D.arr IntKind.u32 (8 : Nat) st0.h.l, D.val (Value.int IntKind.u64 (↑st0.n : Int)), D.arr IntKind.u8 (64 : Nat) st0.l])) [(1 : Int)]).h.l,
                                D.val (Value.int IntKind.u64 (↑(wrS (ofS (D.st [D.arr IntKind.u32 (8 : Nat) st0.h.l, D.val (Value.int IntKind.u64 (↑st0.n : Int)), D.arr IntKind.u8 (64 : Nat) st0.l])) [(1 : Int)]).n : Int)),
                                D.arr IntKind.u8 (64 : Nat) (wrS (ofS (D.st [D.arr IntKind.u32 (8 : Nat) st0.h.l, D.val (Value.int IntKind.u64 (↑st0.n : Int)), D.arr IntKind.u8 (64 : Nat) st0.l])) [(1 : Int)]).l]))
                             (List.take ((↑(32 : Nat) : Int).toNat - (0 : Nat)) (List.drop (0 : Nat) a))).l]))
                       (List.take ((↑(32 : Nat) : Int).toNat - (0 : Nat)) (List.drop (0 : Nat) b))).h.l,
                   D.val
                    (Value.int IntKind.u64
                     (↑(wrS
                         (ofS
                          (D.st
                           [D.arr IntKind.u32 (8 : Nat)
                             (wrS
                                (ofS
                                 (D.st
                                  [D.arr IntKind.u32 (8 : Nat) (wrS (ofS (D.st [D.arr IntKind.u32 (8 : Nat) st0.h.l, D.val (Value.int IntKind.u64 (↑st0.n : Int)), D.arr IntKind.u8 (64 : Nat) st0.l])) [(1 : Int)]).h.l,
                                   D.val (Value.int IntKind.u64 (↑(wrS (ofS (D.st [D.arr IntKind.u32 (8 : Nat) st0.h.l, D.val (Value.int IntKind.u64 (↑st0.n : Int)), D.arr IntKind.u8 (64 : Nat) st0.l])) [(1 : Int)]).n : Int)),
                                   D.arr IntKind.u8 (64 : Nat) (wrS (ofS (D.st [D.arr IntKind.u32 (8 : Nat) st0.h.l, D.val (Value.int IntKind.u64 (↑st0.n : Int)), D.arr IntKind.u8 (64 : Nat) st0.l])) [(1 : Int)]).l]))
                                (List.take ((↑(32 : Nat) : Int).toNat - (0 : Nat)) (List.drop (0 : Nat) a))).h.l,
                            D.val
                             (Value.int IntKind.u64
                              (↑(wrS
                                  (ofS
                                   (D.st
                                    [D.arr IntKind.u32 (8 : Nat) (wrS (ofS (D.st [D.arr IntKind.u32 (8 : Nat) st0.h.l, D.val (Value.int IntKind.u64 (↑st0.n : Int)), D.arr IntKind.u8 (64 : Nat) st0.l])) [(1 : Int)]).h.l,
                                     D.val (Value.int IntKind.u64 (↑(wrS (ofS (D.st [D.arr IntKind.u32 (8 : Nat) st0.h.l, D.val (Value.int IntKind.u64 (↑st0.n : Int)), D.arr IntKind.u8 (64 : Nat) st0.l])) [(1 : Int)]).n : Int)),
                                     D.arr IntKind.u8 (64 : Nat) (wrS (ofS (D.st [D.arr IntKind.u32 (8 : Nat) st0.h.l, D.val (Value.int IntKind.u64 (↑st0.n : Int)), D.arr IntKind.u8 (64 : Nat) st0.l])) [(1 : Int)]).l]))
                                  (List.take ((↑(32 : Nat) : Int).toNat - (0 : Nat)) (List.drop (0 : Nat) a))).n :
                               Int)),
                            D.arr IntKind.u8 (64 : Nat)
                             (wrS
                               (ofS
                                (D.st
                                 [D.arr IntKind.u32 (8 : Nat) (wrS (ofS (D.st [D.arr IntKind.u32 (8 : Nat) st0.h.l, D.val (Value.int IntKind.u64 (↑st0.n : Int)), D.arr IntKind.u8 (64 : Nat) st0.l])) [(1 : Int)]).h.l,
                                  D.val (Value.int IntKind.u64 (↑(wrS (ofS (D.st [D.arr IntKind.u32 (8 : Nat) st0.h.l, D.val (Value.int IntKind.u64 (↑st0.n : Int)), D.arr IntKind.u8 (64 : Nat) st0.l])) [(1 : Int)]).n : Int)),
                                  D.arr IntKind.u8 (64 : Nat) (wrS (ofS (D.st [D.arr IntKind.u32 (8 : Nat) st0.h.l, D.val (Value.int IntKind.u64 (↑st0.n : Int)), D.arr IntKind.u8 (64 : Nat) st0.l])) [(1 : Int)]).l]))
                               (List.take ((↑(32 : Nat) : Int).toNat - (0 : Nat)) (List.drop (0 : Nat) a))).l]))
                         (List.take ((↑(32 : Nat) : Int).toNat - (0 : Nat)) (List.drop (0 : Nat) b))).n :
                      Int)),
                   D.arr IntKind.u8 (64 : Nat)
                    (wrS
                      (ofS
                       (D.st
                        [D.arr IntKind.u32 (8 : Nat)
                          (wrS
                             (ofS
                              (D.st
                               [D.arr IntKind.u32 (8 : Nat) (wrS (ofS (D.st [D.arr IntKind.u32 (8 : Nat) st0.h.l, D.val (Value.int IntKind.u64 (↑st0.n : Int)), D.arr IntKind.u8 (64 : Nat) st0.l])) [(1 : Int)]).h.l,
                                D.val (Value.int IntKind.u64 (↑(wrS (ofS (D.st [D.arr IntKind.u32 (8 : Nat) st0.h.l, D.val (Value.int IntKind.u64 (↑st0.n : Int)), D.arr IntKind.u8 (64 : Nat) st0.l])) [(1 : Int)]).n : Int)),
                                D.arr IntKind.u8 (64 : Nat) (wrS (ofS (D.st [D.arr IntKind.u32 (8 : Nat) st0.h.l, D.val (Value.int IntKind.u64 (↑st0.n : Int)), D.arr IntKind.u8 (64 : Nat) st0.l])) [(1 : Int)]).l]))
                             (List.take ((↑(32 : Nat) : Int).toNat - (0 : Nat)) (List.drop (0 : Nat) a))).h.l,
                         D.val
                          (Value.int IntKind.u64
                           (↑(wrS
                               (ofS
                                (D.st
                                 [D.arr IntKind.u32 (8 : Nat) (wrS (ofS (D.st [D.arr IntKind.u32 (8 : Nat) st0.h.l, D.val (Value.int IntKind.u64 (↑st0.n : Int)), D.arr IntKind.u8 (64 : Nat) st0.l])) [(1 : Int)]).h.l,
                                  D.val (Value.int IntKind.u64 (↑(wrS (ofS (D.st [D.arr IntKind.u32 (8 : Nat) st0.h.l, D.val (Value.int IntKind.u64 (↑st0.n : Int)), D.arr IntKind.u8 (64 : Nat) st0.l])) [(1 : Int)]).n : Int)),
                                  D.arr IntKind.u8 (64 : Nat) (wrS (ofS (D.st [D.arr IntKind.u32 (8 : Nat) st0.h.l, D.val (Value.int IntKind.u64 (↑st0.n : Int)), D.arr IntKind.u8 (64 : Nat) st0.l])) [(1 : Int)]).l]))
                               (List.take ((↑(32 : Nat) : Int).toNat - (0 : Nat)) (List.drop (0 : Nat) a))).n :
                            Int)),
                         D.arr IntKind.u8 (64 : Nat)
                          (wrS
                            (ofS
                             (D.st
                              [D.arr IntKind.u32 (8 : Nat) (wrS (ofS (D.st [D.arr IntKind.u32 (8 : Nat) st0.h.l, D.val (Value.int IntKind.u64 (↑st0.n : Int)), D.arr IntKind.u8 (64 : Nat) st0.l])) [(1 : Int)]).h.l,
                               D.val (Value.int IntKind.u64 (↑(wrS (ofS (D.st [D.arr IntKind.u32 (8 : Nat) st0.h.l, D.val (Value.int IntKind.u64 (↑st0.n : Int)), D.arr IntKind.u8 (64 : Nat) st0.l])) [(1 : Int)]).n : Int)),
                               D.arr IntKind.u8 (64 : Nat) (wrS (ofS (D.st [D.arr IntKind.u32 (8 : Nat) st0.h.l, D.val (Value.int IntKind.u64 (↑st0.n : Int)), D.arr IntKind.u8 (64 : Nat) st0.l])) [(1 : Int)]).l]))
                            (List.take ((↑(32 : Nat) : Int).toNat - (0 : Nat)) (List.drop (0 : Nat) a))).l]))
                      (List.take ((↑(32 : Nat) : Int).toNat - (0 : Nat)) (List.drop (0 : Nat) b))).l]] =
                [D.st [D.arr IntKind.u32 (8 : Nat) s.h.l, D.val (Value.int IntKind.u64 (↑s.n : Int)), D.arr IntKind.u8 (64 : Nat) s.l]] ∧
               okS s) ∧
             (Sk.arr (32 : Nat) = Sk.arr (32 : Nat) ∧ (32 : Nat) ≠ (0 : Nat) ∧ (32 : Nat) = (32 : Nat) ∧ false = false) ∧
              (((32 : Nat) ≠ (0 : Nat) ∧ (32 : Nat) = (32 : Nat) ∧ true = true) ∧ True) ∧
               D.arr IntKind.u8 (32 : Nat)
                 (sumL
                  (ofS
                   (D.st
                    [D.arr IntKind.u32 (8 : Nat)
                      (wrS
                         (ofS
                          (D.st
                           [D.arr IntKind.u32 (8 : Nat)
                             (wrS
                                (ofS
                                 (D.st
                                  [D.arr IntKind.u32 (8 : Nat) (wrS (ofS (D.st [D.arr IntKind.u32 (8 : Nat) st0.h.l, D.val (Value.int IntKind.u64 (↑st0.n : Int)), D.arr IntKind.u8 (64 : Nat) st0.l])) [(1 : Int)]).h.l,
                                   D.val (Value.int IntKind.u64 (↑(wrS (ofS (D.st [D.arr IntKind.u32 (8 : Nat) st0.h.l, D.val (Value.int IntKind.u64 (↑st0.n : Int)), D.arr IntKind.u8 (64 : Nat) st0.l])) [(1 : Int)]).n : Int)),
                                   D.arr IntKind.u8 (64 : Nat) (wrS (ofS (D.st [D.arr IntKind.u32 (8 : Nat) st0.h.l, D.val (Value.int IntKind.u64 (↑st0.n : Int)), D.arr IntKind.u8 (64 : Nat) st0.l])) [(1 : Int)]).l]))
                                (List.take ((↑(32 : Nat) : Int).toNat - (0 : Nat)) (List.drop (0 : Nat) a))).h.l,
                            D.val
                             (Value.int IntKind.u64
                              (↑(wrS
                                  (ofS
                                   (D.st
                                    [D.arr IntKind.u32 (8 : Nat) (wrS (ofS (D.st [D.arr IntKind.u32 (8 : Nat) st0.h.l, D.val (Value.int IntKind.u64 (↑st0.n : Int)), D.arr IntKind.u8 (64 : Nat) st0.l])) [(1 : Int)]).h.l,
                                     D.val (Value.int IntKind.u64 (↑(wrS (ofS (D.st [D.arr IntKind.u32 (8 : Nat) st0.h.l, D.val (Value.int IntKind.u64 (↑st0.n : Int)), D.arr IntKind.u8 (64 : Nat) st0.l])) [(1 : Int)]).n : Int)),
                                     D.arr IntKind.u8 (64 : Nat) (wrS (ofS (D.st [D.arr IntKind.u32 (8 : Nat) st0.h.l, D.val (Value.int IntKind.u64 (↑st0.n : Int)), D.arr IntKind.u8 (64 : Nat) st0.l])) [(1 : Int)]).l]))
                                  (List.take ((↑(32 : Nat) : Int).toNat - (0 : Nat)) (List.drop (0 : Nat) a))).n :
                               Int)),
                            D.arr IntKind.u8 (64 : Nat)
                             (wrS
                               (ofS
                                (D.st
                                 [D.arr IntKind.u32 (8 : Nat) (wrS (ofS (D.st [D.arr IntKind.u32 (8 : Nat) st0.h.l, D.val (Value.int IntKind.u64 (↑st0.n : Int)), D.arr IntKind.u8 (64 : Nat) st0.l])) [(1 : Int)]).h.l,
                                  D.val (Value.int IntKind.u64 (↑(wrS (ofS (D.st [D.arr IntKind.u32 (8 : Nat) st0.h.l, D.val (Value.int IntKind.u64 (↑st0.n : Int)), D.arr IntKind.u8 (64 : Nat) st0.l])) [(1 : Int)]).n : Int)),
                                  D.arr IntKind.u8 (64 : Nat) (wrS (ofS (D.st [D.arr IntKind.u32 (8 : Nat) st0.h.l, D.val (Value.int IntKind.u64 (↑st0.n : Int)), D.arr IntKind.u8 (64 : Nat) st0.l])) [(1 : Int)]).l]))
                               (List.take ((↑(32 : Nat) : Int).toNat - (0 : Nat)) (List.drop (0 : Nat) a))).l]))
                         (List.take ((↑(32 : Nat) : Int).toNat - (0 : Nat)) (List.drop (0 : Nat) b))).h.l,
                     D.val
                      (Value.int IntKind.u64
                       (↑(wrS
                           (ofS
                            (D.st
                             [D.arr IntKind.u32 (8 : Nat)
                               (wrS
                                  (ofS
                                   (D.st
                                    [D.arr IntKind.u32 (8 : Nat) (wrS (ofS (D.st [D.arr IntKind.u32 (8 : Nat) st0.h.l, D.val (Value.int IntKind.u64 (↑st0.n : Int)), D.arr IntKind.u8 (64 : Nat) st0.l])) [(1 : Int)]).h.l,
                                     D.val (Value.int IntKind.u64 (↑(wrS (ofS (D.st [D.arr IntKind.u32 (8 : Nat) st0.h.l, D.val (Value.int IntKind.u64 (↑st0.n : Int)), D.arr IntKind.u8 (64 : Nat) st0.l])) [(1 : Int)]).n : Int)),
                                     D.arr IntKind.u8 (64 : Nat) (wrS (ofS (D.st [D.arr IntKind.u32 (8 : Nat) st0.h.l, D.val (Value.int IntKind.u64 (↑st0.n : Int)), D.arr IntKind.u8 (64 : Nat) st0.l])) [(1 : Int)]).l]))
                                  (List.take ((↑(32 : Nat) : Int).toNat - (0 : Nat)) (List.drop (0 : Nat) a))).h.l,
                              D.val
                               (Value.int IntKind.u64
                                (↑(wrS
                                    (ofS
                                     (D.st
                                      [D.arr IntKind.u32 (8 : Nat) (wrS (ofS (D.st [D.arr IntKind.u32 (8 : Nat) st0.h.l, D.val (Value.int IntKind.u64 (↑st0.n : Int)), D.arr IntKind.u8 (64 : Nat) st0.l])) [(1 : Int)]).h.l,
                                       D.val (Value.int IntKind.u64 (↑(wrS (ofS (D.st [D.arr IntKind.u32 (8 : Nat) st0.h.l, D.val (Value.int IntKind.u64 (↑st0.n : Int)), D.arr IntKind.u8 (64 : Nat) st0.l])) [(1 : Int)]).n : Int)),
                                       D.arr IntKind.u8 (64 : Nat) (wrS (ofS (D.st [D.arr IntKind.u32 (8 : Nat) st0.h.l, D.val (Value.int IntKind.u64 (↑st0.n : Int)), D.arr IntKind.u8 (64 : Nat) st0.l])) [(1 : Int)]).l]))
                                    (List.take ((↑(32 : Nat) : Int).toNat - (0 : Nat)) (List.drop (0 : Nat) a))).n :
                                 Int)),
                              D.arr IntKind.u8 (64 : Nat)
                               (wrS
                                 (ofS
                                  (D.st
                                   [D.arr IntKind.u32 (8 : Nat) (wrS (ofS (D.st [D.arr IntKind.u32 (8 : Nat) st0.h.l, D.val (Value.int IntKind.u64 (↑st0.n : Int)), D.arr IntKind.u8 (64 : Nat) st0.l])) [(1 : Int)]).h.l,
                                    D.val (Value.int IntKind.u64 (↑(wrS (ofS (D.st [D.arr IntKind.u32 (8 : Nat) st0.h.l, D.val (Value.int IntKind.u64 (↑st0.n : Int)), D.arr IntKind.u8 (64 : Nat) st0.l])) [(1 : Int)]).n : Int)),
                                    D.arr IntKind.u8 (64 : Nat) (wrS (ofS (D.st [D.arr IntKind.u32 (8 : Nat) st0.h.l, D.val (Value.int IntKind.u64 (↑st0.n : Int)), D.arr IntKind.u8 (64 : Nat) st0.l])) [(1 : Int)]).l]))
                                 (List.take ((↑(32 : Nat) : Int).toNat - (0 : Nat)) (List.drop (0 : Nat) a))).l]))
                           (List.take ((↑(32 : Nat) : Int).toNat - (0 : Nat)) (List.drop (0 : Nat) b))).n :
                        Int)),
                     D.arr IntKind.u8 (64 : Nat)
                      (wrS
                        (ofS
                         (D.st
                          [D.arr IntKind.u32 (8 : Nat)
                            (wrS
                               (ofS
                                (D.st
                                 [D.arr IntKind.u32 (8 : Nat) (wrS (ofS (D.st [D.arr IntKind.u32 (8 : Nat) st0.h.l, D.val (Value.int IntKind.u64 (↑st0.n : Int)), D.arr IntKind.u8 (64 : Nat) st0.l])) [(1 : Int)]).h.l,
                                  D.val (Value.int IntKind.u64 (↑(wrS (ofS (D.st [D.arr IntKind.u32 (8 : Nat) st0.h.l, D.val (Value.int IntKind.u64 (↑st0.n : Int)), D.arr IntKind.u8 (64 : Nat) st0.l])) [(1 : Int)]).n : Int)),
                                  D.arr IntKind.u8 (64 : Nat) (wrS (ofS (D.st [D.arr IntKind.u32 (8 : Nat) st0.h.l, D.val (Value.int IntKind.u64 (↑st0.n : Int)), D.arr IntKind.u8 (64 : Nat) st0.l])) [(1 : Int)]).l]))
                               (List.take ((↑(32 : Nat) : Int).toNat - (0 : Nat)) (List.drop (0 : Nat) a))).h.l,
                           D.val
                            (Value.int IntKind.u64
                             (↑(wrS
                                 (ofS
                                  (D.st
                                   [D.arr IntKind.u32 (8 : Nat) (wrS (ofS (D.st [D.arr IntKind.u32 (8 : Nat) st0.h.l, D.val (Value.int IntKind.u64 (↑st0.n : Int)), D.arr IntKind.u8 (64 : Nat) st0.l])) [(1 : Int)]).h.l,
                                    D.val (Value.int IntKind.u64 (↑(wrS (ofS (D.st [D.arr IntKind.u32 (8 : Nat) st0.h.l, D.val (Value.int IntKind.u64 (↑st0.n : Int)), D.arr IntKind.u8 (64 : Nat) st0.l])) [(1 : Int)]).n : Int)),
                                    D.arr IntKind.u8 (64 : Nat) (wrS (ofS (D.st [D.arr IntKind.u32 (8 : Nat) st0.h.l, D.val (Value.int IntKind.u64 (↑st0.n : Int)), D.arr IntKind.u8 (64 : Nat) st0.l])) [(1 : Int)]).l]))
                                 (List.take ((↑(32 : Nat) : Int).toNat - (0 : Nat)) (List.drop (0 : Nat) a))).n :
                              Int)),
                           D.arr IntKind.u8 (64 : Nat)
                            (wrS
                              (ofS
                               (D.st
                                [D.arr IntKind.u32 (8 : Nat) (wrS (ofS (D.st [D.arr IntKind.u32 (8 : Nat) st0.h.l, D.val (Value.int IntKind.u64 (↑st0.n : Int)), D.arr IntKind.u8 (64 : Nat) st0.l])) [(1 : Int)]).h.l,
                                 D.val (Value.int IntKind.u64 (↑(wrS (ofS (D.st [D.arr IntKind.u32 (8 : Nat) st0.h.l, D.val (Value.int IntKind.u64 (↑st0.n : Int)), D.arr IntKind.u8 (64 : Nat) st0.l])) [(1 : Int)]).n : Int)),
                                 D.arr IntKind.u8 (64 : Nat) (wrS (ofS (D.st [D.arr IntKind.u32 (8 : Nat) st0.h.l, D.val (Value.int IntKind.u64 (↑st0.n : Int)), D.arr IntKind.u8 (64 : Nat) st0.l])) [(1 : Int)]).l]))
                              (List.take ((↑(32 : Nat) : Int).toNat - (0 : Nat)) (List.drop (0 : Nat) a))).l]))
                        (List.take ((↑(32 : Nat) : Int).toNat - (0 : Nat)) (List.drop (0 : Nat) b))).l]))) =
                F) := by kernel_rfl
set_option maxRecDepth 100000 in
theorem vc23  (a b : List Int) (F : D)  :
    (owed c21 (fun _ => none) Tryd.f23 [d32 a, d32 b] F) = (
 (True ∧ false = false) ∧
   (True ∧ false = false) ∧
    (True ∧ (32 : Nat) ≠ (0 : Nat)) ∧
     ((0 : Int) ≤ (0 : Int) ∧ (0 : Int) ≤ (↑(32 : Nat) : Int) ∧ (↑(32 : Nat) : Int) ≤ (↑(32 : Nat) : Int) ∧ (32 : Nat) = (32 : Nat) ∧ (1 : Nat) = (1 : Nat)) ∧
      isBytes (List.take ((↑(32 : Nat) : Int).toNat - (0 : Nat)) (List.drop (0 : Nat) a)) ∧
       (↑((ints { data := { toList := [(1 : UInt8)] } }).length + (List.take ((↑(32 : Nat) : Int).toNat - (0 : Nat)) (List.drop (0 : Nat) a)).length) : Int) ≤ (9223372036854775807 : Int) ∧
        ((0 : Int) ≤ (0 : Int) ∧ (0 : Int) ≤ (↑(32 : Nat) : Int) ∧ (↑(32 : Nat) : Int) ≤ (↑(32 : Nat) : Int) ∧ (32 : Nat) = (32 : Nat) ∧ (1 : Nat) = (1 : Nat)) ∧
         isBytes (List.take ((↑(32 : Nat) : Int).toNat - (0 : Nat)) (List.drop (0 : Nat) b)) ∧
          (↑((ints { data := { toList := [(1 : UInt8)] } } ++ List.take ((↑(32 : Nat) : Int).toNat - (0 : Nat)) (List.drop (0 : Nat) a)).length + (List.take ((↑(32 : Nat) : Int).toNat - (0 : Nat)) (List.drop (0 : Nat) b)).length) : Int) ≤ (9223372036854775807 : Int) ∧
           (∃ (p : List Int), [D.str (ints { data := { toList := [(1 : UInt8)] } } ++ List.take ((↑(32 : Nat) : Int).toNat - (0 : Nat)) (List.drop (0 : Nat) a) ++ List.take ((↑(32 : Nat) : Int).toNat - (0 : Nat)) (List.drop (0 : Nat) b))] = [D.str p] ∧ isBytes p ∧ p.length ≤ (1000000000000000 : Nat)) ∧
            (Sk.arr (32 : Nat) = Sk.arr (32 : Nat) ∧ (32 : Nat) ≠ (0 : Nat) ∧ (32 : Nat) = (32 : Nat) ∧ false = false) ∧
             (((32 : Nat) ≠ (0 : Nat) ∧ (32 : Nat) = (32 : Nat) ∧ true = true) ∧ True) ∧ D.arr IntKind.u8 (32 : Nat) (digL (ints { data := { toList := [(1 : UInt8)] } } ++ List.take ((↑(32 : Nat) : Int).toNat - (0 : Nat)) (List.drop (0 : Nat) a) ++ List.take ((↑(32 : Nat) : Int).toNat - (0 : Nat)) (List.drop (0 : Nat) b))) = F) := by kernel_rfl
set_option maxRecDepth 100000 in
theorem vc20  (p : List Int) (F : D)  :
    (owed c20 (fun _ => none) Tryd.f20 [.ints .u8 p] F) = (
 (True ∧ (32 : Nat) ≠ (0 : Nat)) ∧
   (0 : Nat) = (0 : Nat) ∧
    ((1 : Nat) = (1 : Nat) ∧ (1 : Nat) ≤ (4096 : Nat)) ∧
     (∃ (s : HS), ∃ (p : List Int), [D.st [D.arr IntKind.u32 (8 : Nat) st0.h.l, D.val (Value.int IntKind.u64 (↑st0.n : Int)), D.arr IntKind.u8 (64 : Nat) st0.l], D.ints IntKind.u8 [(0 : Int)]] = [D.st [D.arr IntKind.u32 (8 : Nat) s.h.l, D.val (Value.int IntKind.u64 (↑s.n : Int)), D.arr IntKind.u8 (64 : Nat) s.l], D.ints IntKind.u8 p] ∧ okS s ∧ isBytes p ∧ p.length ≤ (1000000000000000 : Nat)) ∧
      True ∧
       (∃ (s : HS),
         ∃ (p_1 : List Int),
          [D.st
              [D.arr IntKind.u32 (8 : Nat) (wrS (ofS (D.st [D.arr IntKind.u32 (8 : Nat) st0.h.l, D.val (Value.int IntKind.u64 (↑st0.n : Int)), D.arr IntKind.u8 (64 : Nat) st0.l])) [(0 : Int)]).h.l,
               D.val (Value.int IntKind.u64 (↑(wrS (ofS (D.st [D.arr IntKind.u32 (8 : Nat) st0.h.l, D.val (Value.int IntKind.u64 (↑st0.n : Int)), D.arr IntKind.u8 (64 : Nat) st0.l])) [(0 : Int)]).n : Int)),
               D.arr IntKind.u8 (64 : Nat) (wrS (ofS (D.st [D.arr IntKind.u32 (8 : Nat) st0.h.l, D.val (Value.int IntKind.u64 (↑st0.n : Int)), D.arr IntKind.u8 (64 : Nat) st0.l])) [(0 : Int)]).l],
             D.ints IntKind.u8 p] =
            [D.st [D.arr IntKind.u32 (8 : Nat) s.h.l, D.val (Value.int IntKind.u64 (↑s.n : Int)), D.arr IntKind.u8 (64 : Nat) s.l], D.ints IntKind.u8 p_1] ∧
           okS s ∧ isBytes p_1 ∧ p_1.length ≤ (1000000000000000 : Nat)) ∧
        (∃ (s : HS),
          [D.st
              [D.arr IntKind.u32 (8 : Nat)
                (wrS
                   (ofS
                    (D.st
                     [D.arr IntKind.u32 (8 : Nat) (wrS (ofS (D.st [D.arr IntKind.u32 (8 : Nat) st0.h.l, D.val (Value.int IntKind.u64 (↑st0.n : Int)), D.arr IntKind.u8 (64 : Nat) st0.l])) [(0 : Int)]).h.l,
                      D.val (Value.int IntKind.u64 (↑(wrS (ofS (D.st [D.arr IntKind.u32 (8 : Nat) st0.h.l, D.val (Value.int IntKind.u64 (↑st0.n : Int)), D.arr IntKind.u8 (64 : Nat) st0.l])) [(0 : Int)]).n : Int)),
                      D.arr IntKind.u8 (64 : Nat) (wrS (ofS (D.st [D.arr IntKind.u32 (8 : Nat) st0.h.l, D.val (Value.int IntKind.u64 (↑st0.n : Int)), D.arr IntKind.u8 (64 : Nat) st0.l])) [(0 : Int)]).l]))
                   p).h.l,
               D.val
                (Value.int IntKind.u64
                 (↑(wrS
                     (ofS
                      (D.st
                       [D.arr IntKind.u32 (8 : Nat) (wrS (ofS (D.st [D.arr IntKind.u32 (8 : Nat) st0.h.l, D.val (Value.int IntKind.u64 (↑st0.n : Int)), D.arr IntKind.u8 (64 : Nat) st0.l])) [(0 : Int)]).h.l,
                        D.val (Value.int IntKind.u64 (↑(wrS (ofS (D.st [D.arr IntKind.u32 (8 : Nat) st0.h.l, D.val (Value.int IntKind.u64 (↑st0.n : Int)), D.arr IntKind.u8 (64 : Nat) st0.l])) [(0 : Int)]).n : Int)),
                        D.arr IntKind.u8 (64 : Nat) (wrS (ofS (D.st [D.arr IntKind.u32 (8 : Nat) st0.h.l, D.val (Value.int IntKind.u64 (↑st0.n : Int)), D.arr IntKind.u8 (64 : Nat) st0.l])) [(0 : Int)]).l]))
                     p).n :
                  Int)),
               D.arr IntKind.u8 (64 : Nat)
                (wrS
                  (ofS
                   (D.st
                    [D.arr IntKind.u32 (8 : Nat) (wrS (ofS (D.st [D.arr IntKind.u32 (8 : Nat) st0.h.l, D.val (Value.int IntKind.u64 (↑st0.n : Int)), D.arr IntKind.u8 (64 : Nat) st0.l])) [(0 : Int)]).h.l,
                     D.val (Value.int IntKind.u64 (↑(wrS (ofS (D.st [D.arr IntKind.u32 (8 : Nat) st0.h.l, D.val (Value.int IntKind.u64 (↑st0.n : Int)), D.arr IntKind.u8 (64 : Nat) st0.l])) [(0 : Int)]).n : Int)),
                     D.arr IntKind.u8 (64 : Nat) (wrS (ofS (D.st [D.arr IntKind.u32 (8 : Nat) st0.h.l, D.val (Value.int IntKind.u64 (↑st0.n : Int)), D.arr IntKind.u8 (64 : Nat) st0.l])) [(0 : Int)]).l]))
                  p).l]] =
            [D.st [D.arr IntKind.u32 (8 : Nat) s.h.l, D.val (Value.int IntKind.u64 (↑s.n : Int)), D.arr IntKind.u8 (64 : Nat) s.l]] ∧
           okS s) ∧
         (Sk.arr (32 : Nat) = Sk.arr (32 : Nat) ∧ (32 : Nat) ≠ (0 : Nat) ∧ (32 : Nat) = (32 : Nat) ∧ false = false) ∧
          (((32 : Nat) ≠ (0 : Nat) ∧ (32 : Nat) = (32 : Nat) ∧ true = true) ∧ True) ∧
           D.arr IntKind.u8 (32 : Nat)
             (sumL
              (ofS
               (D.st
                [D.arr IntKind.u32 (8 : Nat)
                  (wrS
                     (ofS
                      (D.st
                       [D.arr IntKind.u32 (8 : Nat) (wrS (ofS (D.st [D.arr IntKind.u32 (8 : Nat) st0.h.l, D.val (Value.int IntKind.u64 (↑st0.n : Int)), D.arr IntKind.u8 (64 : Nat) st0.l])) [(0 : Int)]).h.l,
                        D.val (Value.int IntKind.u64 (↑(wrS (ofS (D.st [D.arr IntKind.u32 (8 : Nat) st0.h.l, D.val (Value.int IntKind.u64 (↑st0.n : Int)), D.arr IntKind.u8 (64 : Nat) st0.l])) [(0 : Int)]).n : Int)),
                        D.arr IntKind.u8 (64 : Nat) (wrS (ofS (D.st [D.arr IntKind.u32 (8 : Nat) st0.h.l, D.val (Value.int IntKind.u64 (↑st0.n : Int)), D.arr IntKind.u8 (64 : Nat) st0.l])) [(0 : Int)]).l]))
                     p).h.l,
                 D.val
                  (Value.int IntKind.u64
                   (↑(wrS
                       (ofS
                        (D.st
                         [D.arr IntKind.u32 (8 : Nat) (wrS (ofS (D.st [D.arr IntKind.u32 (8 : Nat) st0.h.l, D.val (Value.int IntKind.u64 (↑st0.n : Int)), D.arr IntKind.u8 (64 : Nat) st0.l])) [(0 : Int)]).h.l,
                          D.val (Value.int IntKind.u64 (↑(wrS (ofS (D.st [D.arr IntKind.u32 (8 : Nat) st0.h.l, D.val (Value.int IntKind.u64 (↑st0.n : Int)), D.arr IntKind.u8 (64 : Nat) st0.l])) [(0 : Int)]).n : Int)),
                          D.arr IntKind.u8 (64 : Nat) (wrS (ofS (D.st [D.arr IntKind.u32 (8 : Nat) st0.h.l, D.val (Value.int IntKind.u64 (↑st0.n : Int)), D.arr IntKind.u8 (64 : Nat) st0.l])) [(0 : Int)]).l]))
                       p).n :
                    Int)),
                 D.arr IntKind.u8 (64 : Nat)
                  (wrS
                    (ofS
                     (D.st
                      [D.arr IntKind.u32 (8 : Nat) (wrS (ofS (D.st [D.arr IntKind.u32 (8 : Nat) st0.h.l, D.val (Value.int IntKind.u64 (↑st0.n : Int)), D.arr IntKind.u8 (64 : Nat) st0.l])) [(0 : Int)]).h.l,
                       D.val (Value.int IntKind.u64 (↑(wrS (ofS (D.st [D.arr IntKind.u32 (8 : Nat) st0.h.l, D.val (Value.int IntKind.u64 (↑st0.n : Int)), D.arr IntKind.u8 (64 : Nat) st0.l])) [(0 : Int)]).n : Int)),
                       D.arr IntKind.u8 (64 : Nat) (wrS (ofS (D.st [D.arr IntKind.u32 (8 : Nat) st0.h.l, D.val (Value.int IntKind.u64 (↑st0.n : Int)), D.arr IntKind.u8 (64 : Nat) st0.l])) [(0 : Int)]).l]))
                    p).l]))) =
            F) := by kernel_rfl
set_option maxRecDepth 100000 in
theorem vc21  (p : List Int) (F : D)  :
    (owed c21 (fun _ => none) Tryd.f21 [.str p] F) = (
 (True ∧ (32 : Nat) ≠ (0 : Nat)) ∧
   True ∧
    (↑((ints { data := { toList := [(0 : UInt8)] } }).length + p.length) : Int) ≤ (9223372036854775807 : Int) ∧
     (∃ (p_1 : List Int), [D.str (ints { data := { toList := [(0 : UInt8)] } } ++ p)] = [D.str p_1] ∧ isBytes p_1 ∧ p_1.length ≤ (1000000000000000 : Nat)) ∧
      (Sk.arr (32 : Nat) = Sk.arr (32 : Nat) ∧ (32 : Nat) ≠ (0 : Nat) ∧ (32 : Nat) = (32 : Nat) ∧ false = false) ∧ (((32 : Nat) ≠ (0 : Nat) ∧ (32 : Nat) = (32 : Nat) ∧ true = true) ∧ True) ∧ D.arr IntKind.u8 (32 : Nat) (digL (ints { data := { toList := [(0 : UInt8)] } } ++ p)) = F) := by kernel_rfl
end Go.Proofs.YtkicjckhkefnpaaDoor
/- paths in trees: from the top down as from the bottom up (no program in sight). -/
namespace Go.Proofs.YtkicjckhkefnpaaDoor
open Go Go.Vg

theorem sQf_eq : ∀ (f g n i : Nat), n ≤ f → n ≤ g → sQf f n i = sQf g n i
  | 0, 0, _, _, _, _ => rfl
  | 0, g + 1, n, i, h, _ => by
    obtain rfl : n = 0 := by omega
    rfl
  | f + 1, 0, n, i, _, h => by
    obtain rfl : n = 0 := by omega
    rfl
  | f + 1, g + 1, n, i, h1, h2 => by
    simp only [sQf]
    split
    · rfl
    · rw [sQf_eq f g _ _ (by omega) (by omega)]
theorem sQ_one (i : Nat) : sQ 1 i = [] := rfl
theorem sQ_step {n : Nat} (h : 1 < n) (i : Nat) : sQ n i = bS n i ++ sQ ((n + 1) / 2) (i / 2) := by
  obtain ⟨m, rfl⟩ : ∃ m, n = m + 1 := ⟨n - 1, by omega⟩
  unfold sQ
  rw [sQf, if_neg (by omega), sQf_eq m ((m + 1 + 1) / 2) _ _ (by omega) (by omega)]
theorem hf_unique {m j : Nat} (h1 : 2 ^ j < m) (h2 : m ≤ 2 * 2 ^ j) : hf m = 2 ^ j := by
  have hp : 0 < 2 ^ j := Nat.two_pow_pos j
  unfold hf
  rw [(Nat.log2_eq_iff (n := m - 1) (k := j) (by omega)).2 ⟨by omega, by rw [Nat.pow_succ]; omega⟩]
theorem hf_spec {m : Nat} (h : 2 ≤ m) : ∃ j, hf m = 2 ^ j ∧ hf m < m ∧ m ≤ 2 * hf m := by
  refine ⟨Nat.log2 (m - 1), rfl, ?_, ?_⟩
  · have := Nat.log2_self_le (n := m - 1) (by omega)
    unfold hf
    omega
  · have := Nat.lt_log2_self (n := m - 1)
    unfold hf
    rw [Nat.pow_succ] at this
    omega
theorem hf_pos (m : Nat) : 1 ≤ hf m := Nat.two_pow_pos _
theorem xor1 (i : Nat) : i ^^^ 1 = if i % 2 = 0 then i + 1 else i - 1 := by
  have h1 : (i ^^^ 1) / 2 = i / 2 ^^^ 1 / 2 := Nat.xor_div_two
  have h2 := Nat.xor_mod_two_eq_one (a := i) (b := 1)
  rw [show 1 / 2 = 0 from rfl, Nat.xor_zero] at h1
  split <;> omega
theorem bS_eq {n m i j : Nat} (h1 : i % 2 = j % 2) (h2 : i ^^^ 1 < n ↔ j ^^^ 1 < m) : bS n i = bS m j := by
  unfold bS
  rw [h1]
  by_cases h : i ^^^ 1 < n
  · rw [if_pos h, if_pos (h2.1 h)]
  · rw [if_neg h, if_neg (fun h3 => h (h2.2 h3))]
theorem sQ_top (n : Nat) : ∀ i, 2 ≤ n → i < n → sQ n i = if i < hf n then sQ (hf n) i ++ [true] else sQ (n - hf n) (i - hf n) ++ [false] := by
  induction n using Nat.strongRecOn with
  | _ n ih =>
    intro i hn hi
    obtain ⟨j, e, k1, k2⟩ := hf_spec hn
    by_cases h2 : n = 2
    · subst h2
      have e1 : hf 2 = 1 := hf_unique (j := 0) (by decide) (by decide)
      rw [e1]
      rcases (by omega : i = 0 ∨ i = 1) with rfl | rfl <;> rfl
    · obtain ⟨j', rfl⟩ : ∃ j', j = j' + 1 := ⟨j - 1, by
        rcases Nat.eq_zero_or_pos j with rfl | h
        · rw [e, Nat.pow_zero] at k2; omega
        · omega⟩
      have ek : hf n = 2 * 2 ^ j' := by rw [e, Nat.pow_succ]; omega
      have hp : 0 < 2 ^ j' := Nat.two_pow_pos j'
      have e' : hf ((n + 1) / 2) = 2 ^ j' := hf_unique (by omega) (by omega)
      rw [sQ_step (by omega), ih ((n + 1) / 2) (by omega) (i / 2) (by omega) (by omega), e', ek]
      generalize 2 ^ j' = k at *
      have x0 := xor1 i
      by_cases hc : i < 2 * k
      · rw [if_pos (by omega), if_pos hc, sQ_step (n := 2 * k) (by omega), show (2 * k + 1) / 2 = k by omega, ← List.append_assoc,
          bS_eq (n := n) (m := 2 * k) (i := i) (j := i) rfl (by rw [x0]; split <;> omega)]
      · rw [if_neg (by omega), if_neg hc]
        by_cases h1 : n = 2 * k + 1
        · have hi2 : i = 2 * k := by omega
          have hb : bS n i = [] := by
            unfold bS
            rw [if_neg (by rw [x0]; split <;> omega)]
          rw [hb, show (n + 1) / 2 - k = 1 by omega, show n - 2 * k = 1 by omega, sQ_one, sQ_one]
          rfl
        · have x1 := xor1 (i - 2 * k)
          rw [sQ_step (n := n - 2 * k) (by omega), show (n - 2 * k + 1) / 2 = (n + 1) / 2 - k by omega, show (i - 2 * k) / 2 = i / 2 - k by omega, ← List.append_assoc,
            bS_eq (n := n) (m := n - 2 * k) (i := i) (j := i - 2 * k) (by omega) (by rw [x0, x1]; split <;> split <;> omega)]
theorem foldS_app : ∀ (t : List Bool) (p : List D) (d : List Int) (b : Bool) (x : D), t.length = p.length → foldS d (t ++ [b]) (p ++ [x]) = stepS b (foldS d t p) x
  | [], [], _, _, _, _ => rfl
  | c :: t, y :: p, d, b, x, h => by
    show foldS (stepS c d y) (t ++ [b]) (p ++ [x]) = stepS b (foldS (stepS c d y) t p) x
    exact foldS_app t p _ b x (by simpa using h)
  | [], _ :: _, _, _, _, h => by simp at h
  | _ :: _, [], _, _, _, h => by simp at h
theorem clR_ok : ∀ (rp : List D) (n i : Nat) (d : List Int), 1 ≤ n → i < n →
    (clR rp n i d).2 = decide (rp.length = (sQ n i).length) ∧ (rp.length = (sQ n i).length → (clR rp n i d).1 = foldS d (sQ n i) rp.reverse)
  | [], n, i, d, h1, hi => by
    by_cases hn : n = 1
    · subst hn
      exact ⟨rfl, fun _ => rfl⟩
    · have ht := sQ_top n i (by omega) hi
      have hl : (sQ n i).length ≠ 0 := by
        rw [ht]
        split <;> simp
      refine ⟨?_, fun h => absurd h.symm hl⟩
      show (n == 1) = decide (0 = (sQ n i).length)
      rw [beq_eq_false_iff_ne.2 hn, decide_eq_false (fun h => hl h.symm)]
  | x :: r, n, i, d, h1, hi => by
    by_cases hn : n = 1
    · subst hn
      refine ⟨?_, fun h => by simp [sQ_one] at h⟩
      unfold clR
      rw [if_pos rfl, sQ_one]
      simp
    · have ht := sQ_top n i (by omega) hi
      obtain ⟨j, _, k1, k2⟩ := hf_spec (m := n) (by omega)
      have hp := hf_pos n
      unfold clR
      rw [if_neg hn, ht]
      by_cases hc : i < hf n
      · rw [if_pos hc, if_pos hc]
        obtain ⟨a, b⟩ := clR_ok r (hf n) i d hp hc
        refine ⟨?_, fun h => ?_⟩
        · show (clR r (hf n) i d).2 = _
          rw [a]
          simp
        · have hl : r.length = (sQ (hf n) i).length := by simpa using h
          show nodeL (clR r (hf n) i d).1 (arrOf x) = _
          rw [b hl, List.reverse_cons, foldS_app _ _ _ _ _ (by rw [List.length_reverse]; exact hl.symm)]
          rfl
      · rw [if_neg hc, if_neg hc]
        obtain ⟨a, b⟩ := clR_ok r (n - hf n) (i - hf n) d (by omega) (by omega)
        refine ⟨?_, fun h => ?_⟩
        · show (clR r (n - hf n) (i - hf n) d).2 = _
          rw [a]
          simp
        · have hl : r.length = (sQ (n - hf n) (i - hf n)).length := by simpa using h
          show nodeL (arrOf x) (clR r (n - hf n) (i - hf n) d).1 = _
          rw [b hl, List.reverse_cons, foldS_app _ _ _ _ _ (by rw [List.length_reverse]; exact hl.symm)]
          rfl
theorem rest_cl {n i : Nat} (h1 : 1 ≤ n) (hi : i < n) (p : List D) (d root : List Int) : restB n i p d root = (clB n i d p && eqB (clD n i d p) root) := by
  obtain ⟨a, b⟩ := clR_ok p.reverse n i d h1 hi
  rw [List.length_reverse, List.reverse_reverse] at *
  unfold restB clB clD
  rw [a]
  by_cases h : p.length = (sQ n i).length
  · rw [b h]
  · rw [decide_eq_false h]
    rfl
theorem nodeL_D (a b : List Int) : isD (nodeL a b) := ⟨digL_bytes _, digL_len _⟩
theorem leafL_D (p : List Int) : isD (leafL p) := ⟨digL_bytes _, digL_len _⟩
theorem clR_D : ∀ (rp : List D) (n i : Nat) (d : List Int), isD d → isD (clR rp n i d).1
  | [], _, _, _, h => h
  | x :: r, n, i, d, h => by
    unfold clR
    split
    · exact h
    · split <;> exact nodeL_D _ _
theorem rest_one (i : Nat) (p : List D) (d root : List Int) : restB 1 i p d root = (decide (p.length = 0) && eqB d root) := by
  unfold restB
  rw [sQ_one]
  cases p <;> rfl
theorem rest_none {n i : Nat} (h : 1 < n) (hx : i ^^^ 1 < n) (d root : List Int) : restB n i [] d root = false := by
  unfold restB
  rw [sQ_step h]
  unfold bS
  rw [if_pos hx]
  rfl
theorem rest_cons {n i : Nat} (h : 1 < n) (hx : i ^^^ 1 < n) (x : D) (p : List D) (d root : List Int) : restB n i (x :: p) d root = restB ((n + 1) / 2) (i / 2) p (stepS (i % 2 == 0) d x) root := by
  unfold restB
  rw [sQ_step h]
  unfold bS
  rw [if_pos hx]
  show (decide (p.length + 1 = (sQ ((n + 1) / 2) (i / 2)).length + 1) && eqB (foldS (stepS (i % 2 == 0) d x) (sQ ((n + 1) / 2) (i / 2)) p) root) = _
  congr 1
  rw [decide_eq_decide]
  omega
theorem rest_skip {n i : Nat} (h : 1 < n) (hx : ¬ i ^^^ 1 < n) (p : List D) (d root : List Int) : restB n i p d root = restB ((n + 1) / 2) (i / 2) p d root := by
  unfold restB
  rw [sQ_step h]
  unfold bS
  rw [if_neg hx]
  rfl
end Go.Proofs.YtkicjckhkefnpaaDoor
/- package tree and its reference: Leaf, Node, half: the proofs. -/
namespace Go.Proofs.YtkicjckhkefnpaaDoor
open Go Go.Vg

set_option maxRecDepth 100000 in
theorem m74 : Meets Tryd.prog 74 sp74 := by
  refine meets_of_owed (C := c0) ⟨tab_ok, fun f s h => by cases h⟩ (by kernel_rfl) (by kernel_rfl : Tryd.prog.funcs[74]? = some Tryd.f74) (by kernel_rfl) (by kernel_rfl) (by kernel_rfl) _ ?_
  rintro _ ⟨m, rfl, h1, h2⟩
  refine ⟨fun _ => rfl, inv74 m, ?_⟩
  show owed c0 (inv74 m) Tryd.f74 [i64 (m : Int)] (i64 (hf ((m : Int)).toNat : Nat))
  rw [vc74, Int.toNat_natCast]
  simp (decide := true) only [eq_self, true_and, and_true, ne_eq, not_false_eq_true]
  refine ⟨⟨rfl, ⟨0, rfl⟩, by show 1 < m; omega⟩, ?_⟩
  rintro k ⟨⟨j, ej⟩, hk⟩
  have e1 : IntKind.i64.wrap ((m : Int) - (k : Int)) = ((m - k : Nat) : Int) := by rw [wi (by omega) (by omega)]; omega
  have e2 : IntKind.i64.wrap ((k : Int) * 2) = ((2 * k : Nat) : Int) := by rw [wi (by omega) (by omega)]; omega
  have kp : 1 ≤ k := by rw [ej]; exact Nat.two_pow_pos j
  rw [e1, e2, Int.toNat_natCast]
  split
  · rename_i h
    have h : k < m - k := by have := of_decide_eq_true h; omega
    exact ⟨rfl, ⟨⟨j + 1, by rw [ej, Nat.pow_succ]; omega⟩, by omega⟩, by omega⟩
  · rename_i h
    have h : m - k ≤ k := by have := of_decide_eq_false h; omega
    rw [hf_unique (m := m) (j := j) (by omega) (by omega), ← ej]

set_option maxRecDepth 100000 in
theorem m22 : Meets Tryd.prog 22 sp22 := by
  refine meets_of_owed (C := c20) ⟨tab_ok, lkS_ok ⟨m75, m76, m77, trivial⟩⟩ (by kernel_rfl) (by kernel_rfl : Tryd.prog.funcs[22]? = some Tryd.f22) (by kernel_rfl) (by kernel_rfl) (by kernel_rfl) _ ?_
  rintro _ ⟨a, b, rfl, ⟨ha, hal⟩, hb, hbl⟩
  refine ⟨fun _ => rfl, fun _ => none, ?_⟩
  show owed c20 (fun _ => none) Tryd.f22 [d32 a, d32 b] (d32 (nodeL a b))
  rw [vc22]
  have b1 : isBytes [1] := fun x hx => by rw [List.mem_singleton.1 hx]; omega
  have y1 := wr_ok [1] st0_ok b1
  have y2 := wr_ok a y1 ha
  have y3 := wr_ok b y2 hb
  have ta : List.take 32 a = a := List.take_of_length_le (by omega)
  have tb : List.take 32 b = b := List.take_of_length_le (by omega)
  simp (decide := true) only [Int.toNat_natCast, show Int.toNat 32 = 32 from rfl, show Int.toNat 0 = 0 from rfl, List.drop_zero, Nat.sub_zero, ta, tb, ofS', eq_self, true_and, and_true, ne_eq, not_false_eq_true]
  refine ⟨⟨_, _, rfl, st0_ok, b1, by decide⟩, ⟨_, a, rfl, y1, ha, by omega⟩, ⟨_, b, rfl, y2, hb, by omega⟩, ⟨_, rfl, y3⟩, ?_⟩
  rw [← wr_app, ← wr_app, sum_st0]
  rfl

set_option maxRecDepth 100000 in
theorem m23 : Meets Tryd.prog 23 sp22 := by
  refine meets_of_owed (C := c21) ⟨tab_ok, lkS_ok ⟨m71, trivial⟩⟩ (by kernel_rfl) (by kernel_rfl : Tryd.prog.funcs[23]? = some Tryd.f23) (by kernel_rfl) (by kernel_rfl) (by kernel_rfl) _ ?_
  rintro _ ⟨a, b, rfl, ⟨ha, hal⟩, hb, hbl⟩
  refine ⟨fun _ => rfl, fun _ => none, ?_⟩
  show owed c21 (fun _ => none) Tryd.f23 [d32 a, d32 b] (d32 (nodeL a b))
  rw [vc23]
  have i1 : ints { data := { toList := [(1 : UInt8)] } } = [1] := rfl
  have b1 : isBytes [1] := fun x hx => by rw [List.mem_singleton.1 hx]; omega
  have ta : List.take 32 a = a := List.take_of_length_le (by omega)
  have tb : List.take 32 b = b := List.take_of_length_le (by omega)
  rw [i1]
  simp (decide := true) only [Int.toNat_natCast, show Int.toNat 32 = 32 from rfl, show Int.toNat 0 = 0 from rfl, List.drop_zero, Nat.sub_zero, ta, tb, eq_self, true_and, and_true, ne_eq, not_false_eq_true, List.length_cons, List.length_nil, List.length_append, hal, hbl]
  refine ⟨ha, hb, ⟨_, rfl, bytes_app (bytes_app b1 ha) hb, by simp [hal, hbl]⟩, ?_⟩
  unfold nodeL
  rw [List.append_assoc]
  rfl

set_option maxRecDepth 100000 in
theorem m20 : Meets Tryd.prog 20 sp20 := by
  refine meets_of_owed (C := c20) ⟨tab_ok, lkS_ok ⟨m75, m76, m77, trivial⟩⟩ (by kernel_rfl) (by kernel_rfl : Tryd.prog.funcs[20]? = some Tryd.f20) (by kernel_rfl) (by kernel_rfl) (by kernel_rfl) _ ?_
  rintro _ ⟨p, rfl, hp, hl⟩
  refine ⟨fun _ => rfl, fun _ => none, ?_⟩
  show owed c20 (fun _ => none) Tryd.f20 [.ints .u8 p] (d32 (leafL p))
  rw [vc20]
  have b1 : isBytes [0] := fun x hx => by rw [List.mem_singleton.1 hx]; omega
  have y1 := wr_ok [0] st0_ok b1
  have y2 := wr_ok p y1 hp
  simp (decide := true) only [ofS', eq_self, true_and, and_true, ne_eq, not_false_eq_true]
  refine ⟨⟨_, _, rfl, st0_ok, b1, by decide⟩, ⟨_, p, rfl, y1, hp, by omega⟩, ⟨_, rfl, y2⟩, ?_⟩
  rw [← wr_app, sum_st0]
  rfl

set_option maxRecDepth 100000 in
theorem m21 : Meets Tryd.prog 21 sp21 := by
  refine meets_of_owed (C := c21) ⟨tab_ok, lkS_ok ⟨m71, trivial⟩⟩ (by kernel_rfl) (by kernel_rfl : Tryd.prog.funcs[21]? = some Tryd.f21) (by kernel_rfl) (by kernel_rfl) (by kernel_rfl) _ ?_
  rintro _ ⟨p, rfl, hp, hl⟩
  refine ⟨fun _ => rfl, fun _ => none, ?_⟩
  show owed c21 (fun _ => none) Tryd.f21 [.str p] (d32 (leafL p))
  rw [vc21]
  have i0 : ints { data := { toList := [(0 : UInt8)] } } = [0] := rfl
  have b1 : isBytes [0] := fun x hx => by rw [List.mem_singleton.1 hx]; omega
  rw [i0]
  simp (decide := true) only [eq_self, true_and, and_true, ne_eq, not_false_eq_true, List.length_cons, List.length_nil]
  exact ⟨by omega, ⟨_, rfl, bytes_app b1 hp, by rw [List.length_append, List.length_cons, List.length_nil]; omega⟩, rfl⟩

end Go.Proofs.YtkicjckhkefnpaaDoor
/- trees of digests: from the top down as floor by floor (no program in sight). -/
namespace Go.Proofs.YtkicjckhkefnpaaDoor
open Go Go.Vg

def trf : Nat → List (List Int) → List Int
  | 0, _ => []
  | f + 1, ds => if ds.length ≤ 1 then ds.headD [] else nodeL (trf f (ds.take (hf ds.length))) (trf f (ds.drop (hf ds.length)))
/-- A tree's root, from the top down. -/
def trR (ds : List (List Int)) : List Int := trf ds.length ds
/-- A floor above a floor. -/
def flL : List (List Int) → List (List Int)
  | a :: b :: t => nodeL a b :: flL t
  | [a] => [a]
  | [] => []
def ptf : Nat → List (List Int) → Nat → List (List Int)
  | 0, _, _ => []
  | f + 1, ds, i => if ds.length ≤ 1 then [] else if i < hf ds.length then ptf f (ds.take (hf ds.length)) i ++ [trR (ds.drop (hf ds.length))] else ptf f (ds.drop (hf ds.length)) (i - hf ds.length) ++ [trR (ds.take (hf ds.length))]
/-- A leaf's path, from the top down. -/
def ptR (ds : List (List Int)) (i : Nat) : List (List Int) := ptf ds.length ds i
def sbL (ds : List (List Int)) (i : Nat) : List (List Int) := if i ^^^ 1 < ds.length then [ds.getD (i ^^^ 1) []] else []
def pff : Nat → List (List Int) → Nat → List (List Int)
  | 0, _, _ => []
  | f + 1, ds, i => if ds.length ≤ 1 then [] else sbL ds i ++ pff f (flL ds) (i / 2)
/-- A leaf's path, floor by floor. -/
def pfR (ds : List (List Int)) (i : Nat) : List (List Int) := pff ds.length ds i

theorem fl_len : ∀ n (ds : List (List Int)), ds.length ≤ n → (flL ds).length = (ds.length + 1) / 2
  | _, [], _ => by simp [flL]
  | _, [_], _ => by simp [flL]
  | 0, _ :: _ :: _, h => by simp at h
  | n + 1, a :: b :: t, h => by
    simp only [flL, List.length_cons] at h ⊢
    rw [fl_len n t (by omega)]
    omega
theorem flL_len (ds : List (List Int)) : (flL ds).length = (ds.length + 1) / 2 := fl_len _ ds (Nat.le_refl _)
theorem fl_take : ∀ (k : Nat) (ds : List (List Int)), flL (ds.take (2 * k)) = (flL ds).take k
  | 0, ds => by simp [flL]
  | k + 1, [] => by simp [flL]
  | k + 1, [a] => by
    rw [show 2 * (k + 1) = 2 * k + 1 + 1 by omega]
    simp [flL]
  | k + 1, a :: b :: t => by
    rw [show 2 * (k + 1) = 2 * k + 1 + 1 by omega]
    simp only [List.take_succ_cons, flL]
    rw [fl_take k t]
theorem fl_drop : ∀ (k : Nat) (ds : List (List Int)), flL (ds.drop (2 * k)) = (flL ds).drop k
  | 0, ds => by simp
  | k + 1, [] => by simp [flL]
  | k + 1, [a] => by
    rw [show 2 * (k + 1) = 2 * k + 1 + 1 by omega]
    simp [flL]
  | k + 1, a :: b :: t => by
    rw [show 2 * (k + 1) = 2 * k + 1 + 1 by omega]
    simp only [List.drop_succ_cons, flL]
    rw [fl_drop k t]
theorem hf_lt {n : Nat} (h : 2 ≤ n) : hf n < n := by obtain ⟨_, _, h1, _⟩ := hf_spec h; exact h1
theorem trf_eq : ∀ (f g : Nat) (ds : List (List Int)), ds.length ≤ f → ds.length ≤ g → trf f ds = trf g ds
  | 0, 0, _, _, _ => rfl
  | 0, g + 1, ds, h, _ => by
    obtain rfl := List.length_eq_zero_iff.1 (by omega : ds.length = 0)
    rfl
  | f + 1, 0, ds, _, h => by
    obtain rfl := List.length_eq_zero_iff.1 (by omega : ds.length = 0)
    rfl
  | f + 1, g + 1, ds, h1, h2 => by
    simp only [trf]
    split
    · rfl
    · have hl := hf_lt (n := ds.length) (by omega)
      have hp := hf_pos ds.length
      rw [trf_eq f g _ (by rw [List.length_take]; omega) (by rw [List.length_take]; omega), trf_eq f g (ds.drop _) (by rw [List.length_drop]; omega) (by rw [List.length_drop]; omega)]
theorem trR_one {ds : List (List Int)} (h : ds.length = 1) : trR ds = ds.headD [] := by
  unfold trR
  rw [h]
  simp only [trf]
  rw [if_pos (by omega)]
theorem trR_step {ds : List (List Int)} (h : 2 ≤ ds.length) : trR ds = nodeL (trR (ds.take (hf ds.length))) (trR (ds.drop (hf ds.length))) := by
  obtain ⟨n, hn⟩ : ∃ n, ds.length = n + 1 := ⟨ds.length - 1, by omega⟩
  have hl := hf_lt h
  have hp := hf_pos ds.length
  have e : trR ds = trf (n + 1) ds := by unfold trR; rw [hn]
  rw [e]
  simp only [trf]
  rw [if_neg (by omega)]
  unfold trR
  rw [trf_eq n _ (ds.take (hf ds.length)) (by rw [List.length_take]; omega) (Nat.le_refl _), trf_eq n _ (ds.drop (hf ds.length)) (by rw [List.length_drop]; omega) (Nat.le_refl _)]
theorem hf_half {n : Nat} (h : 3 ≤ n) : hf n = 2 * hf ((n + 1) / 2) := by
  obtain ⟨j, e, k1, k2⟩ := hf_spec (m := n) (by omega)
  obtain ⟨j', rfl⟩ : ∃ j', j = j' + 1 := ⟨j - 1, by
    rcases Nat.eq_zero_or_pos j with rfl | h
    · rw [e, Nat.pow_zero] at k2; omega
    · omega⟩
  have ek : hf n = 2 * 2 ^ j' := by rw [e, Nat.pow_succ]; omega
  rw [hf_unique (m := (n + 1) / 2) (j := j') (by omega) (by omega), ek]
theorem trR_fl : ∀ (n : Nat) (ds : List (List Int)), ds.length ≤ n → 1 ≤ ds.length → trR (flL ds) = trR ds := by
  intro n
  induction n with
  | zero => intro ds h1 h2; omega
  | succ n ih =>
    intro ds h1 h2
    match ds, h1, h2 with
    | [a], _, _ => simp [flL]
    | [a, b], _, _ =>
      have e1 : hf 2 = 1 := hf_unique (j := 0) (by decide) (by decide)
      rw [trR_step (ds := [a, b]) (Nat.le_refl _)]
      show _ = nodeL (trR (List.take (hf 2) [a, b])) (trR (List.drop (hf 2) [a, b]))
      rw [e1]
      rfl
    | a :: b :: c :: t, h1, _ =>
      have hl3 : 3 ≤ (a :: b :: c :: t).length := by simp
      generalize a :: b :: c :: t = ds at *
      have hh := hf_half hl3
      have hl := hf_lt (n := ds.length) (by omega)
      have hp := hf_pos ((ds.length + 1) / 2)
      rw [trR_step (ds := flL ds) (by rw [flL_len]; omega), flL_len, ← fl_take, ← fl_drop, ← hh]
      rw [ih (ds.take (hf ds.length)) (by rw [List.length_take]; omega) (by rw [List.length_take]; omega), ih (ds.drop (hf ds.length)) (by rw [List.length_drop]; omega) (by rw [List.length_drop]; omega)]
      rw [← trR_step (by omega)]

theorem pff_eq : ∀ (f g : Nat) (ds : List (List Int)) (i : Nat), ds.length ≤ f → ds.length ≤ g → pff f ds i = pff g ds i
  | 0, 0, _, _, _, _ => rfl
  | 0, g + 1, ds, i, h, _ => by
    obtain rfl := List.length_eq_zero_iff.1 (by omega : ds.length = 0)
    rfl
  | f + 1, 0, ds, i, _, h => by
    obtain rfl := List.length_eq_zero_iff.1 (by omega : ds.length = 0)
    rfl
  | f + 1, g + 1, ds, i, h1, h2 => by
    simp only [pff]
    split
    · rfl
    · have hl := flL_len ds
      rw [pff_eq f g _ _ (by omega) (by omega)]
theorem pfR_one {ds : List (List Int)} (i : Nat) (h : ds.length ≤ 1) : pfR ds i = [] := by
  unfold pfR
  rcases (by omega : ds.length = 0 ∨ ds.length = 1) with h | h
  · rw [h]; rfl
  · rw [h]; simp only [pff]; rw [if_pos (by omega)]
theorem pfR_step {ds : List (List Int)} (i : Nat) (h : 2 ≤ ds.length) : pfR ds i = sbL ds i ++ pfR (flL ds) (i / 2) := by
  obtain ⟨n, hn⟩ : ∃ n, ds.length = n + 1 := ⟨ds.length - 1, by omega⟩
  have hl := flL_len ds
  have e : pfR ds i = pff (n + 1) ds i := by unfold pfR; rw [hn]
  rw [e]
  simp only [pff]
  rw [if_neg (by omega)]
  unfold pfR
  rw [pff_eq n _ (flL ds) (i / 2) (by omega) (Nat.le_refl _)]
theorem sbL_eq {ds es : List (List Int)} {i j : Nat} (h : i ^^^ 1 < ds.length ↔ j ^^^ 1 < es.length) (h2 : i ^^^ 1 < ds.length → ds.getD (i ^^^ 1) [] = es.getD (j ^^^ 1) []) : sbL ds i = sbL es j := by
  unfold sbL
  by_cases h3 : i ^^^ 1 < ds.length
  · rw [if_pos h3, if_pos (h.1 h3), h2 h3]
  · rw [if_neg h3, if_neg (fun h4 => h3 (h.2 h4))]
theorem getD_take' (l : List (List Int)) {n i : Nat} (h : i < n) : (l.take n).getD i [] = l.getD i [] := by
  rw [List.getD_eq_getElem?_getD, List.getD_eq_getElem?_getD, List.getElem?_take, if_pos h]
theorem getD_drop' (l : List (List Int)) (n i : Nat) : (l.drop n).getD i [] = l.getD (n + i) [] := by
  rw [List.getD_eq_getElem?_getD, List.getD_eq_getElem?_getD, List.getElem?_drop]
theorem pfR_top : ∀ (n : Nat) (ds : List (List Int)) (i : Nat), ds.length ≤ n → 2 ≤ ds.length → i < ds.length →
    pfR ds i = if i < hf ds.length then pfR (ds.take (hf ds.length)) i ++ [trR (ds.drop (hf ds.length))] else pfR (ds.drop (hf ds.length)) (i - hf ds.length) ++ [trR (ds.take (hf ds.length))] := by
  intro n
  induction n with
  | zero => intro ds i h1 h2 h3; omega
  | succ n ih =>
    intro ds i h1 h2 hi
    match ds, h1, h2, hi with
    | [a, b], _, _, hi =>
      have e1 : hf 2 = 1 := hf_unique (j := 0) (by decide) (by decide)
      show _ = if i < hf 2 then pfR (List.take (hf 2) [a, b]) i ++ [trR (List.drop (hf 2) [a, b])] else pfR (List.drop (hf 2) [a, b]) (i - hf 2) ++ [trR (List.take (hf 2) [a, b])]
      rw [e1]
      have hi : i < 2 := hi
      rcases (by omega : i = 0 ∨ i = 1) with rfl | rfl <;> rfl
    | a :: b :: c :: t, h1, _, hi =>
      have hl3 : 3 ≤ (a :: b :: c :: t).length := by simp
      generalize a :: b :: c :: t = ds at *
      have hh := hf_half hl3
      have hl := hf_lt (n := ds.length) (by omega)
      have hp := hf_pos ((ds.length + 1) / 2)
      have hfl := flL_len ds
      have x0 := xor1 i
      rw [pfR_step i (by omega), ih (flL ds) (i / 2) (by omega) (by omega) (by omega), hfl, ← fl_take, ← fl_drop, ← hh]
      generalize hf ((ds.length + 1) / 2) = k' at *
      rw [hh] at hl ⊢
      have hdl : (ds.drop (2 * k')).length = ds.length - 2 * k' := List.length_drop
      have htl : (ds.take (2 * k')).length = 2 * k' := by rw [List.length_take]; omega
      rw [trR_fl _ (ds.drop (2 * k')) (Nat.le_refl _) (by omega), trR_fl _ (ds.take (2 * k')) (Nat.le_refl _) (by omega)]
      by_cases hc : i < 2 * k'
      · rw [if_pos (by omega), if_pos hc, pfR_step (ds := ds.take (2 * k')) i (by omega), ← List.append_assoc,
          sbL_eq (ds := ds) (es := ds.take (2 * k')) (i := i) (j := i) (by rw [x0, htl]; split <;> omega) (fun _ => (getD_take' ds (by rw [x0]; split <;> omega)).symm)]
      · rw [if_neg (by omega), if_neg hc, ← List.append_assoc]
        congr 1
        by_cases h1 : ds.length = 2 * k' + 1
        · have hi2 : i = 2 * k' := by omega
          rw [pfR_one (ds := ds.drop (2 * k')) _ (by omega), pfR_one (ds := flL (ds.drop (2 * k'))) _ (by rw [flL_len]; omega), List.append_nil]
          unfold sbL
          rw [if_neg (by rw [x0]; split <;> omega)]
        · have x1 := xor1 (i - 2 * k')
          rw [pfR_step (ds := ds.drop (2 * k')) (i - 2 * k') (by omega), show (i - 2 * k') / 2 = i / 2 - k' by omega]
          congr 1
          have ex : i ^^^ 1 = 2 * k' + ((i - 2 * k') ^^^ 1) := by
            rw [x0, x1]; split <;> split <;> omega
          refine sbL_eq (by rw [hdl, ex]; omega) (fun _ => ?_)
          rw [getD_drop', ex]
theorem ptf_pf : ∀ (f : Nat) (ds : List (List Int)) (i : Nat), ds.length ≤ f → i < ds.length → ptf f ds i = pfR ds i
  | 0, ds, i, h, hi => by omega
  | f + 1, ds, i, h, hi => by
    simp only [ptf]
    by_cases h1 : ds.length ≤ 1
    · rw [if_pos h1, pfR_one _ h1]
    · have hl := hf_lt (n := ds.length) (by omega)
      have hp := hf_pos ds.length
      rw [if_neg h1, pfR_top _ ds i (Nat.le_refl _) (by omega) hi]
      by_cases hc : i < hf ds.length
      · rw [if_pos hc, if_pos hc, ptf_pf f _ i (by rw [List.length_take]; omega) (by rw [List.length_take]; omega)]
      · rw [if_neg hc, if_neg hc, ptf_pf f _ _ (by rw [List.length_drop]; omega) (by rw [List.length_drop]; omega)]
theorem ptR_pf {ds : List (List Int)} {i : Nat} (h : i < ds.length) : ptR ds i = pfR ds i := ptf_pf _ ds i (Nat.le_refl _) h
theorem ptR_one {ds : List (List Int)} (i : Nat) (h : ds.length = 1) : ptR ds i = [] := by
  unfold ptR
  rw [h]
  simp only [ptf]
  rw [if_pos (by omega)]
theorem ptR_step {ds : List (List Int)} {i : Nat} (h : 2 ≤ ds.length) (hi : i < ds.length) :
    ptR ds i = if i < hf ds.length then ptR (ds.take (hf ds.length)) i ++ [trR (ds.drop (hf ds.length))] else ptR (ds.drop (hf ds.length)) (i - hf ds.length) ++ [trR (ds.take (hf ds.length))] := by
  have hl := hf_lt h
  have hp := hf_pos ds.length
  rw [ptR_pf hi, pfR_top _ ds i (Nat.le_refl _) h hi]
  by_cases hc : i < hf ds.length
  · rw [if_pos hc, if_pos hc, ptR_pf (by rw [List.length_take]; omega)]
  · rw [if_neg hc, if_neg hc, ptR_pf (by rw [List.length_drop]; omega)]
/-- The root of leaves. -/
def rtL (ls : List (List Int)) : List Int := if ls.length = 0 then digL [] else trR (ls.map leafL)

end Go.Proofs.YtkicjckhkefnpaaDoor
