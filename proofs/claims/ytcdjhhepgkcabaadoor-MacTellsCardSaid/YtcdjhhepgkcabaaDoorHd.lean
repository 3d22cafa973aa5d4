import Derived.Test.YtcdjhhepgkcabaaDoorHc2
/- package hash: Write, Pad; the reference's PadText. -/
namespace Go.Proofs.YtcdjhhepgkcabaaDoor
open Go Go.Vg

structure HS where
  h : R8
  n : Nat
  l : List Int
abbrev stD (s : HS) : D := .st [a8 s.h.l, .val (.int .u64 (s.n : Int)), .arr .u8 64 s.l]
def stp (s : HS) (b : Int) : HS :=
  let l' := s.l.set (s.n % 64) b
  let n' := (s.n + 1) % 18446744073709551616
  if n' % 64 = 0 then ⟨pr s.h l', n', l'⟩ else ⟨s.h, n', l'⟩
def wrS (s : HS) (p : List Int) : HS := p.foldl stp s
def ofS (d : D) : HS := ⟨ofR (arrOf (fldOf d 0)), (numOf (fldOf d 1)).toNat, arrOf (fldOf d 2)⟩
def okS (s : HS) : Prop := s.l.length = 64 ∧ isBytes s.l ∧ s.n < 18446744073709551616
def sp8 : Go.Vg.Spec := ⟨fun ds => ∃ s p, ds = [stD s, .ints .u8 p] ∧ okS s ∧ isBytes p ∧ p.length ≤ 1000000000000000, fun ds => stD (wrS (ofS (ds.headD default)) (intsOf (ds.getD 1 default))), true, [28, 22]⟩
def zc (n : Nat) : Nat := (119 - n % 64) % 64
def tl (b : Nat) : Nat → List Int
  | 0 => []
  | k + 1 => ((b / 256 ^ k % 256 : Nat) : Int) :: tl b k
def padL (n : Nat) : List Int := 128 :: (List.replicate (zc n) 0 ++ tl (8 * n % 18446744073709551616) 8)
def sp11 : Go.Vg.Spec := ⟨fun ds => ∃ n, ds = [.val (.int .u64 ((n : Nat) : Int))] ∧ n < 18446744073709551616, fun ds => .ints .u8 (padL (numOf (ds.headD default)).toNat), false, [23]⟩
def sp12 : Go.Vg.Spec := ⟨fun ds => ∃ n, ds = [.val (.int .u64 ((n : Nat) : Int))] ∧ n < 18446744073709551616, fun ds => .str (padL (numOf (ds.headD default)).toNat), true, [23]⟩
def c8 : Ctx := ⟨tab, lkS [(26, sp26)], [], []⟩
def c11 : Ctx := ⟨tab, fun _ => none, [5], []⟩
def inv8 (s : HS) (p : List Int) : Nat → Option Inv
  | 2 => some ⟨Nat, fun i => [(9, .d (i64 i))], fun i => [(2, .fix (stD (wrS s (p.take i))))], fun s => (slotN s 9).toNat, fun _ i => i ≤ p.length, fun i => p.length - i⟩
  | _ => none
def pz (n i : Nat) : List Int := 128 :: List.replicate i 0
def pt (n i : Nat) : List Int := 128 :: (List.replicate (zc n) 0 ++ (tl (8 * n % 18446744073709551616) 8).take i)
def inv11 (n : Nat) : Nat → Option Inv
  | 2 => some ⟨Nat, fun _ => [(3, .row 5), (5, .any)], fun i => [(5, .row 5 (.ints .u8 (pz n i)))], fun s => (rowD s 5).length - 1, fun _ i => i ≤ zc n, fun i => zc n - i⟩
  | 5 => some ⟨Nat, fun i => [(16, .d (i64 i)), (3, .row 5), (7, .any)], fun i => [(5, .row 5 (.ints .u8 (pt n i)))], fun s => (slotN s 16).toNat, fun _ i => i ≤ 8, fun i => 8 - i⟩
  | _ => none
def inv12 (n : Nat) : Nat → Option Inv
  | 3 => some ⟨Nat, fun i => [(3, .d (.str (pz n i)))], fun _ => [], fun s => (strOf (slotD s 3)).length - 1, fun _ i => i ≤ zc n, fun i => zc n - i⟩
  | 8 => some ⟨Nat, fun i => [(21, .d (i64 i)), (5, .d (.val (.int .u64 ((8 * n % 18446744073709551616 / 256 ^ i : Nat) : Int)))), (6, .d (.str (tl (8 * n % 18446744073709551616) i)))], fun _ => [], fun s => (slotN s 21).toNat, fun _ i => i ≤ 8, fun i => 8 - i⟩
  | _ => none
--KEEP BitVec.toNat prL pr R8.l wrS ofS okS padL zc tl pz pt
set_option maxRecDepth 100000 in
theorem vc8  (s : HS) (p : List Int) (F : D)  :
    (owed c8 (inv8 s p) Tryd.f8 [stD s, .ints .u8 p] F) = (
 (True ∧ false = false) ∧
   (True ∧ (73 : Nat) ≠ (0 : Nat)) ∧
    True ∧
     True ∧
      True ∧
       (((AV.d (D.val (Value.int IntKind.i64 (0 : Int))) = AV.d (D.val (Value.int IntKind.i64 (↑(Int.toNat (0 : Int)) : Int))) ∧ True) ∧
          (some (Blk.fix (D.st [D.arr IntKind.u32 (8 : Nat) [(↑(BitVec.toNat s.h.a) : Int), (↑(BitVec.toNat s.h.b) : Int), (↑(BitVec.toNat s.h.c) : Int), (↑(BitVec.toNat s.h.d) : Int), (↑(BitVec.toNat s.h.e) : Int), (↑(BitVec.toNat s.h.f) : Int), (↑(BitVec.toNat s.h.g) : Int), (↑(BitVec.toNat s.h.h) : Int)], D.val (Value.int IntKind.u64 (↑s.n : Int)), D.arr IntKind.u8 (64 : Nat) s.l])) =
             some
              (Blk.fix
               (D.st
                [D.arr IntKind.u32 (8 : Nat)
                  [(↑(BitVec.toNat (wrS s (List.take (Int.toNat (0 : Int)) p)).h.a) : Int), (↑(BitVec.toNat (wrS s (List.take (Int.toNat (0 : Int)) p)).h.b) : Int), (↑(BitVec.toNat (wrS s (List.take (Int.toNat (0 : Int)) p)).h.c) : Int), (↑(BitVec.toNat (wrS s (List.take (Int.toNat (0 : Int)) p)).h.d) : Int), (↑(BitVec.toNat (wrS s (List.take (Int.toNat (0 : Int)) p)).h.e) : Int),
                   (↑(BitVec.toNat (wrS s (List.take (Int.toNat (0 : Int)) p)).h.f) : Int), (↑(BitVec.toNat (wrS s (List.take (Int.toNat (0 : Int)) p)).h.g) : Int), (↑(BitVec.toNat (wrS s (List.take (Int.toNat (0 : Int)) p)).h.h) : Int)],
                 D.val (Value.int IntKind.u64 (↑(wrS s (List.take (Int.toNat (0 : Int)) p)).n : Int)), D.arr IntKind.u8 (64 : Nat) (wrS s (List.take (Int.toNat (0 : Int)) p)).l])) ∧
            some
               (Blk.fix
                (D.st
                 [D.arr IntKind.u32 (8 : Nat) [(0 : Int), (0 : Int), (0 : Int), (0 : Int), (0 : Int), (0 : Int), (0 : Int), (0 : Int)], D.val (Value.int IntKind.u64 (0 : Int)),
                  D.arr IntKind.u8 (64 : Nat)
                   (List.replicate (64 : Nat) (0 : Int))])) =
              some
               (Blk.fix
                (D.st
                 [D.arr IntKind.u32 (8 : Nat) [(0 : Int), (0 : Int), (0 : Int), (0 : Int), (0 : Int), (0 : Int), (0 : Int), (0 : Int)], D.val (Value.int IntKind.u64 (0 : Int)),
                  D.arr IntKind.u8 (64 : Nat)
                   (List.replicate (64 : Nat) (0 : Int))])) ∧
             True) ∧
           true = true) ∧
         Int.toNat (0 : Int) ≤ p.length) ∧
        ∀ (x : Nat),
         x ≤ p.length →
          true = true ∧
           True ∧
            match decide ((↑x : Int) < (↑p.length : Int)) with
            | true =>
             ((0 : Int) ≤ (↑x : Int) ∧ (↑x : Int) < (↑p.length : Int) ∧ (1 : Nat) = (1 : Nat)) ∧
              ((1 : Nat) ≠ (0 : Nat) ∧ (1 : Nat) = (1 : Nat) ∧ false = false) ∧
               True ∧
                (Sk.st [Sk.arr (8 : Nat), Sk.one, Sk.arr (64 : Nat)] = Sk.st [Sk.arr (8 : Nat), Sk.one, Sk.arr (64 : Nat)] ∧ (1 : Nat) < (3 : Nat)) ∧
                 ((1 : Nat) ≠ (0 : Nat) ∧ (1 : Nat) = (1 : Nat) ∧ false = false) ∧
                  (64 : Int) ≠ (0 : Int) ∧
                   True ∧
                    (Sk.st [Sk.arr (8 : Nat), Sk.one, Sk.arr (64 : Nat)] = Sk.st [Sk.arr (8 : Nat), Sk.one, Sk.arr (64 : Nat)] ∧ (2 : Nat) < (3 : Nat)) ∧
                     ((0 : Int) ≤ (↑(wrS s (List.take x p)).n : Int).tmod (64 : Int) ∧ (↑(wrS s (List.take x p)).n : Int).tmod (64 : Int) < (↑(64 : Nat) : Int) ∧ (64 : Nat) = (64 : Nat) ∧ (1 : Nat) = (1 : Nat)) ∧
                      (((2 : Nat) < (3 : Nat) ∧ ((↑(wrS s (List.take x p)).n : Int).tmod (64 : Int)).toNat < (64 : Nat) ∧ ([] : List Nat) = [] ∧ true = true) ∧ (1 : Nat) ≠ (0 : Nat) ∧ (1 : Nat) = (1 : Nat) ∧ false = false) ∧
                       (Sk.st [Sk.arr (8 : Nat), Sk.one, Sk.arr (64 : Nat)] = Sk.st [Sk.arr (8 : Nat), Sk.one, Sk.arr (64 : Nat)] ∧ (1 : Nat) < (3 : Nat)) ∧
                        ((1 : Nat) ≠ (0 : Nat) ∧ (1 : Nat) = (1 : Nat) ∧ false = false) ∧
                         True ∧
                          (Sk.st [Sk.arr (8 : Nat), Sk.one, Sk.arr (64 : Nat)] = Sk.st [Sk.arr (8 : Nat), Sk.one, Sk.arr (64 : Nat)] ∧ (1 : Nat) < (3 : Nat)) ∧
                           (((1 : Nat) < (3 : Nat) ∧ Sk.one = Sk.one) ∧ (1 : Nat) ≠ (0 : Nat) ∧ (1 : Nat) = (1 : Nat) ∧ false = false) ∧
                            (Sk.st [Sk.arr (8 : Nat), Sk.one, Sk.arr (64 : Nat)] = Sk.st [Sk.arr (8 : Nat), Sk.one, Sk.arr (64 : Nat)] ∧ (1 : Nat) < (3 : Nat)) ∧
                             ((1 : Nat) ≠ (0 : Nat) ∧ (1 : Nat) = (1 : Nat) ∧ false = false) ∧
                              (64 : Int) ≠ (0 : Int) ∧
                               True ∧
                                match (IntKind.u64.wrap ((↑(wrS s (List.take x p)).n : Int) + (1 : Int))).tmod (64 : Int) == (0 : Int) with
                                | true =>
                                 (Sk.st [Sk.arr (8 : Nat), Sk.one, Sk.arr (64 : Nat)] = Sk.st [Sk.arr (8 : Nat), Sk.one, Sk.arr (64 : Nat)] ∧ (0 : Nat) < (3 : Nat)) ∧
                                  ((8 : Nat) ≠ (0 : Nat) ∧ (8 : Nat) = (8 : Nat) ∧ true = true) ∧
                                   (Sk.st [Sk.arr (8 : Nat), Sk.one, Sk.arr (64 : Nat)] = Sk.st [Sk.arr (8 : Nat), Sk.one, Sk.arr (64 : Nat)] ∧ (2 : Nat) < (3 : Nat)) ∧
                                    ((64 : Nat) ≠ (0 : Nat) ∧ (64 : Nat) = (64 : Nat) ∧ true = true) ∧
                                     (∃ (x_1 : R8),
                                       ∃ (l : List Int),
                                        [D.arr IntKind.u32 (8 : Nat)
                                            [(↑(BitVec.toNat (wrS s (List.take x p)).h.a) : Int), (↑(BitVec.toNat (wrS s (List.take x p)).h.b) : Int), (↑(BitVec.toNat (wrS s (List.take x p)).h.c) : Int), (↑(BitVec.toNat (wrS s (List.take x p)).h.d) : Int), (↑(BitVec.toNat (wrS s (List.take x p)).h.e) : Int),
                                             (↑(BitVec.toNat (wrS s (List.take x p)).h.f) : Int), (↑(BitVec.toNat (wrS s (List.take x p)).h.g) : Int), (↑(BitVec.toNat (wrS s (List.take x p)).h.h) : Int)],
                                           D.arr IntKind.u8 (64 : Nat) ((wrS s (List.take x p)).l.set ((↑(wrS s (List.take x p)).n : Int).tmod (64 : Int)).toNat (p.getD (↑x : Int).toNat (0 : Int)))] =
                                          [D.arr IntKind.u32 (8 : Nat) [(↑(BitVec.toNat x_1.a) : Int), (↑(BitVec.toNat x_1.b) : Int), (↑(BitVec.toNat x_1.c) : Int), (↑(BitVec.toNat x_1.d) : Int), (↑(BitVec.toNat x_1.e) : Int), (↑(BitVec.toNat x_1.f) : Int), (↑(BitVec.toNat x_1.g) : Int), (↑(BitVec.toNat x_1.h) : Int)], D.arr IntKind.u8 (64 : Nat) l] ∧
                                         isBytes l ∧ l.length = (64 : Nat)) ∧
                                      (Sk.st [Sk.arr (8 : Nat), Sk.one, Sk.arr (64 : Nat)] = Sk.st [Sk.arr (8 : Nat), Sk.one, Sk.arr (64 : Nat)] ∧ (0 : Nat) < (3 : Nat)) ∧
                                       (((0 : Nat) < (3 : Nat) ∧ Sk.arr (8 : Nat) = Sk.arr (8 : Nat)) ∧ (8 : Nat) ≠ (0 : Nat) ∧ (8 : Nat) = (8 : Nat) ∧ false = false) ∧
                                        True ∧
                                         True ∧
                                          ((AV.d (D.val (Value.int IntKind.i64 (IntKind.i64.wrap ((↑x : Int) + (1 : Int))))) = AV.d (D.val (Value.int IntKind.i64 (↑(IntKind.i64.wrap ((↑x : Int) + (1 : Int))).toNat : Int))) ∧ True) ∧
                                            (some
                                                (Blk.fix
                                                 (D.st
                                                  [D.arr IntKind.u32 (8 : Nat)
                                                    (prL
                                                     [(↑(BitVec.toNat (wrS s (List.take x p)).h.a) : Int), (↑(BitVec.toNat (wrS s (List.take x p)).h.b) : Int), (↑(BitVec.toNat (wrS s (List.take x p)).h.c) : Int), (↑(BitVec.toNat (wrS s (List.take x p)).h.d) : Int), (↑(BitVec.toNat (wrS s (List.take x p)).h.e) : Int),
                                                      (↑(BitVec.toNat (wrS s (List.take x p)).h.f) : Int), (↑(BitVec.toNat (wrS s (List.take x p)).h.g) : Int), (↑(BitVec.toNat (wrS s (List.take x p)).h.h) : Int)]
                                                     ((wrS s (List.take x p)).l.set ((↑(wrS s (List.take x p)).n : Int).tmod (64 : Int)).toNat (p.getD (↑x : Int).toNat (0 : Int)))),
                                                   D.val (Value.int IntKind.u64 (IntKind.u64.wrap ((↑(wrS s (List.take x p)).n : Int) + (1 : Int)))), D.arr IntKind.u8 (64 : Nat) ((wrS s (List.take x p)).l.set ((↑(wrS s (List.take x p)).n : Int).tmod (64 : Int)).toNat (p.getD (↑x : Int).toNat (0 : Int)))])) =
                                               some
                                                (Blk.fix
                                                 (D.st
                                                  [D.arr IntKind.u32 (8 : Nat)
                                                    [(↑(BitVec.toNat (wrS s (List.take (IntKind.i64.wrap ((↑x : Int) + (1 : Int))).toNat p)).h.a) : Int), (↑(BitVec.toNat (wrS s (List.take (IntKind.i64.wrap ((↑x : Int) + (1 : Int))).toNat p)).h.b) : Int),
                                                     (↑(BitVec.toNat (wrS s (List.take (IntKind.i64.wrap ((↑x : Int) + (1 : Int))).toNat p)).h.c) : Int), (↑(BitVec.toNat (wrS s (List.take (IntKind.i64.wrap ((↑x : Int) + (1 : Int))).toNat p)).h.d) : Int),
                                                     (↑(BitVec.toNat (wrS s (List.take (IntKind.i64.wrap ((↑x : Int) + (1 : Int))).toNat p)).h.e) : Int), (↑(BitVec.toNat (wrS s (List.take (IntKind.i64.wrap ((↑x : Int) + (1 : Int))).toNat p)).h.f) : Int),
                                                     (↑(BitVec.toNat (wrS s (List.take (IntKind.i64.wrap ((↑x : Int) + (1 : Int))).toNat p)).h.g) : Int), (↑(BitVec.toNat (wrS s (List.take (IntKind.i64.wrap ((↑x : Int) + (1 : Int))).toNat p)).h.h) : Int)],
                                                   D.val (Value.int IntKind.u64 (↑(wrS s (List.take (IntKind.i64.wrap ((↑x : Int) + (1 : Int))).toNat p)).n : Int)), D.arr IntKind.u8 (64 : Nat) (wrS s (List.take (IntKind.i64.wrap ((↑x : Int) + (1 : Int))).toNat p)).l])) ∧
                                              some
                                                 (Blk.fix
                                                  (D.st
                                                   [D.arr IntKind.u32 (8 : Nat) [(0 : Int), (0 : Int), (0 : Int), (0 : Int), (0 : Int), (0 : Int), (0 : Int), (0 : Int)], D.val (Value.int IntKind.u64 (0 : Int)),
                                                    D.arr IntKind.u8 (64 : Nat)
                                                     (List.replicate (64 : Nat) (0 : Int))])) =
                                                some
                                                 (Blk.fix
                                                  (D.st
                                                   [D.arr IntKind.u32 (8 : Nat) [(0 : Int), (0 : Int), (0 : Int), (0 : Int), (0 : Int), (0 : Int), (0 : Int), (0 : Int)], D.val (Value.int IntKind.u64 (0 : Int)),
                                                    D.arr IntKind.u8 (64 : Nat)
                                                     (List.replicate (64 : Nat) (0 : Int))])) ∧
                                               True) ∧
                                             true = true) ∧
                                           (IntKind.i64.wrap ((↑x : Int) + (1 : Int))).toNat ≤ p.length ∧ p.length - (IntKind.i64.wrap ((↑x : Int) + (1 : Int))).toNat < p.length - x
                                | false =>
                                 True ∧
                                  True ∧
                                   ((AV.d (D.val (Value.int IntKind.i64 (IntKind.i64.wrap ((↑x : Int) + (1 : Int))))) = AV.d (D.val (Value.int IntKind.i64 (↑(IntKind.i64.wrap ((↑x : Int) + (1 : Int))).toNat : Int))) ∧ True) ∧
                                     (some
                                         (Blk.fix
                                          (D.st
                                           [D.arr IntKind.u32 (8 : Nat)
                                             [(↑(BitVec.toNat (wrS s (List.take x p)).h.a) : Int), (↑(BitVec.toNat (wrS s (List.take x p)).h.b) : Int), (↑(BitVec.toNat (wrS s (List.take x p)).h.c) : Int), (↑(BitVec.toNat (wrS s (List.take x p)).h.d) : Int), (↑(BitVec.toNat (wrS s (List.take x p)).h.e) : Int),
                                              (↑(BitVec.toNat (wrS s (List.take x p)).h.f) : Int), (↑(BitVec.toNat (wrS s (List.take x p)).h.g) : Int), (↑(BitVec.toNat (wrS s (List.take x p)).h.h) : Int)],
                                            D.val (Value.int IntKind.u64 (IntKind.u64.wrap ((↑(wrS s (List.take x p)).n : Int) + (1 : Int)))), D.arr IntKind.u8 (64 : Nat) ((wrS s (List.take x p)).l.set ((↑(wrS s (List.take x p)).n : Int).tmod (64 : Int)).toNat (p.getD (↑x : Int).toNat (0 : Int)))])) =
                                        some
                                         (Blk.fix
                                          (D.st
                                           [D.arr IntKind.u32 (8 : Nat)
                                             [(↑(BitVec.toNat (wrS s (List.take (IntKind.i64.wrap ((↑x : Int) + (1 : Int))).toNat p)).h.a) : Int), (↑(BitVec.toNat (wrS s (List.take (IntKind.i64.wrap ((↑x : Int) + (1 : Int))).toNat p)).h.b) : Int), (↑(BitVec.toNat (wrS s (List.take (IntKind.i64.wrap ((↑x : Int) + (1 : Int))).toNat p)).h.c) : Int),
                                              (↑(BitVec.toNat (wrS s (List.take (IntKind.i64.wrap ((↑x : Int) + (1 : Int))).toNat p)).h.d) : Int), (↑(BitVec.toNat (wrS s (List.take (IntKind.i64.wrap ((↑x : Int) + (1 : Int))).toNat p)).h.e) : Int), (↑(BitVec.toNat (wrS s (List.take (IntKind.i64.wrap ((↑x : Int) + (1 : Int))).toNat p)).h.f) : Int),
                                              (↑(BitVec.toNat (wrS s (List.take (IntKind.i64.wrap ((↑x : Int) + (1 : Int))).toNat p)).h.g) : Int), (↑(BitVec.toNat (wrS s (List.take (IntKind.i64.wrap ((↑x : Int) + (1 : Int))).toNat p)).h.h) : Int)],
                                            D.val (Value.int IntKind.u64 (↑(wrS s (List.take (IntKind.i64.wrap ((↑x : Int) + (1 : Int))).toNat p)).n : Int)), D.arr IntKind.u8 (64 : Nat) (wrS s (List.take (IntKind.i64.wrap ((↑x : Int) + (1 : Int))).toNat p)).l])) ∧
                                       some
                                          (Blk.fix
                                           (D.st
                                            [D.arr IntKind.u32 (8 : Nat) [(0 : Int), (0 : Int), (0 : Int), (0 : Int), (0 : Int), (0 : Int), (0 : Int), (0 : Int)], D.val (Value.int IntKind.u64 (0 : Int)),
                                             D.arr IntKind.u8 (64 : Nat)
                                              (List.replicate (64 : Nat) (0 : Int))])) =
                                         some
                                          (Blk.fix
                                           (D.st
                                            [D.arr IntKind.u32 (8 : Nat) [(0 : Int), (0 : Int), (0 : Int), (0 : Int), (0 : Int), (0 : Int), (0 : Int), (0 : Int)], D.val (Value.int IntKind.u64 (0 : Int)),
                                             D.arr IntKind.u8 (64 : Nat)
                                              (List.replicate (64 : Nat) (0 : Int))])) ∧
                                        True) ∧
                                      true = true) ∧
                                    (IntKind.i64.wrap ((↑x : Int) + (1 : Int))).toNat ≤ p.length ∧ p.length - (IntKind.i64.wrap ((↑x : Int) + (1 : Int))).toNat < p.length - x
            | false =>
             ((73 : Nat) ≠ (0 : Nat) ∧ (73 : Nat) = (73 : Nat) ∧ true = true) ∧
              (Sk.st [Sk.arr (8 : Nat), Sk.one, Sk.arr (64 : Nat)] = Sk.st [Sk.arr (8 : Nat), Sk.one, Sk.arr (64 : Nat)] ∧ (73 : Nat) ≠ (0 : Nat) ∧ (73 : Nat) = (73 : Nat) ∧ false = false) ∧
               (((73 : Nat) ≠ (0 : Nat) ∧ (73 : Nat) = (73 : Nat) ∧ true = true) ∧ True) ∧
                D.st
                  [D.arr IntKind.u32 (8 : Nat)
                    [(↑(BitVec.toNat (wrS s (List.take x p)).h.a) : Int), (↑(BitVec.toNat (wrS s (List.take x p)).h.b) : Int), (↑(BitVec.toNat (wrS s (List.take x p)).h.c) : Int), (↑(BitVec.toNat (wrS s (List.take x p)).h.d) : Int), (↑(BitVec.toNat (wrS s (List.take x p)).h.e) : Int), (↑(BitVec.toNat (wrS s (List.take x p)).h.f) : Int),
                     (↑(BitVec.toNat (wrS s (List.take x p)).h.g) : Int), (↑(BitVec.toNat (wrS s (List.take x p)).h.h) : Int)],
                   D.val (Value.int IntKind.u64 (↑(wrS s (List.take x p)).n : Int)), D.arr IntKind.u8 (64 : Nat) (wrS s (List.take x p)).l] =
                 F) := by kernel_rfl
set_option maxRecDepth 100000 in
theorem vc11  (n : Nat) (F : D)  :
    (owed c11 (inv11 n) Tryd.f11 [.val (.int .u64 (n : Int))] F) = (
 True ∧
   ((1 : Nat) = (1 : Nat) ∧ (1 : Nat) ≤ (4096 : Nat)) ∧
    True ∧
     (((AV.d (D.val (Value.int IntKind.u64 (↑n : Int))) = AV.d (D.val (Value.int IntKind.u64 (↑n : Int))) ∧ AV.d (D.val (Value.slice none (0 : Nat) (0 : Nat))) = AV.d (D.val (Value.slice none (0 : Nat) (0 : Nat))) ∧ AV.row (5 : Nat) = AV.row (5 : Nat) ∧ True) ∧
        (some (Blk.row (5 : TypeId) (D.ints IntKind.u8 [(128 : Int)])) = some (Blk.row (5 : TypeId) (D.ints IntKind.u8 (pz n ((1 : Nat) - (1 : Nat))))) ∧ True) ∧ true = true) ∧
       (1 : Nat) - (1 : Nat) ≤ zc n) ∧
      ∀ (x : Nat),
       x ≤ zc n →
        true = true ∧
         True ∧
          True ∧
           True ∧
            True ∧
             True ∧
              (64 : Int) ≠ (0 : Int) ∧
               True ∧
                match (IntKind.u64.wrap ((↑n : Int) + IntKind.u64.wrap (↑(pz n x).length : Int))).tmod (64 : Int) != (56 : Int) with
                | true =>
                 True ∧
                  ((1 : Nat) = (1 : Nat) ∧ (1 : Nat) ≤ (4096 : Nat)) ∧
                   ((5 : TypeId) = (5 : TypeId) ∧ (22 : Nat) = (22 : Nat) ∧ true = true ∧ (pz n x ++ [(0 : Int)]).length ≤ (140737488355328 : Nat) ∧ (pz n x ++ [(0 : Int)]).length * (1 : Nat) ≤ (140737488355328 : Nat) ∧ (1 : Nat) ≠ (0 : Nat) ∧ (1 : Nat) = (1 : Nat)) ∧
                    True ∧
                     ((AV.d (D.val (Value.int IntKind.u64 (↑n : Int))) = AV.d (D.val (Value.int IntKind.u64 (↑n : Int))) ∧ AV.d (D.val (Value.slice none (0 : Nat) (0 : Nat))) = AV.d (D.val (Value.slice none (0 : Nat) (0 : Nat))) ∧ AV.row (5 : Nat) = AV.row (5 : Nat) ∧ True) ∧
                       (some (Blk.row (5 : TypeId) (D.ints IntKind.u8 (pz n x ++ [(0 : Int)]))) = some (Blk.row (5 : TypeId) (D.ints IntKind.u8 (pz n ((pz n x ++ [(0 : Int)]).length - (1 : Nat))))) ∧ True) ∧ true = true) ∧
                      (pz n x ++ [(0 : Int)]).length - (1 : Nat) ≤ zc n ∧ zc n - ((pz n x ++ [(0 : Int)]).length - (1 : Nat)) < zc n - x
                | false =>
                 True ∧
                  (((AV.d (D.val (Value.int IntKind.u64 (↑n : Int))) = AV.d (D.val (Value.int IntKind.u64 (↑n : Int))) ∧
                      AV.d (D.val (Value.slice none (0 : Nat) (0 : Nat))) = AV.d (D.val (Value.slice none (0 : Nat) (0 : Nat))) ∧
                       AV.row (5 : Nat) = AV.row (5 : Nat) ∧
                        AV.d (D.val (Value.int IntKind.u64 (↑n : Int))) = AV.d (D.val (Value.int IntKind.u64 (↑n : Int))) ∧
                         AV.d (D.val (Value.int IntKind.i64 (↑(pz n x).length : Int))) = AV.d (D.val (Value.int IntKind.i64 (↑(pz n x).length : Int))) ∧
                          AV.d (D.val (Value.int IntKind.u64 (IntKind.u64.wrap (↑(pz n x).length : Int)))) = AV.d (D.val (Value.int IntKind.u64 (IntKind.u64.wrap (↑(pz n x).length : Int)))) ∧
                           AV.d (D.val (Value.int IntKind.u64 (IntKind.u64.wrap ((↑n : Int) + IntKind.u64.wrap (↑(pz n x).length : Int))))) = AV.d (D.val (Value.int IntKind.u64 (IntKind.u64.wrap ((↑n : Int) + IntKind.u64.wrap (↑(pz n x).length : Int))))) ∧
                            AV.d (D.val (Value.int IntKind.u64 ((IntKind.u64.wrap ((↑n : Int) + IntKind.u64.wrap (↑(pz n x).length : Int))).tmod (64 : Int)))) = AV.d (D.val (Value.int IntKind.u64 ((IntKind.u64.wrap ((↑n : Int) + IntKind.u64.wrap (↑(pz n x).length : Int))).tmod (64 : Int)))) ∧
                             AV.d (D.val (Value.bool ((IntKind.u64.wrap ((↑n : Int) + IntKind.u64.wrap (↑(pz n x).length : Int))).tmod (64 : Int) != (56 : Int)))) = AV.d (D.val (Value.bool ((IntKind.u64.wrap ((↑n : Int) + IntKind.u64.wrap (↑(pz n x).length : Int))).tmod (64 : Int) != (56 : Int)))) ∧
                              AV.d (D.val (Value.int IntKind.i64 (0 : Int))) = AV.d (D.val (Value.int IntKind.i64 (↑(Int.toNat (0 : Int)) : Int))) ∧ True) ∧
                     (some (Blk.row (5 : TypeId) (D.ints IntKind.u8 (pz n x))) = some (Blk.row (5 : TypeId) (D.ints IntKind.u8 (pt n (Int.toNat (0 : Int))))) ∧ True) ∧ true = true) ∧
                    Int.toNat (0 : Int) ≤ (8 : Nat)) ∧
                   ∀ (x_1 : Nat),
                    x_1 ≤ (8 : Nat) →
                     true = true ∧
                      True ∧
                       match decide ((↑x_1 : Int) < (8 : Int)) with
                       | true =>
                        True ∧
                         True ∧
                          True ∧
                           True ∧
                            True ∧
                             True ∧
                              True ∧
                               True ∧
                                True ∧
                                 (0 : Int) ≤ IntKind.u64.wrap (IntKind.i64.wrap ((56 : Int) - IntKind.i64.wrap ((8 : Int) * (↑x_1 : Int)))) ∧
                                  True ∧
                                   ((1 : Nat) = (1 : Nat) ∧ (1 : Nat) ≤ (4096 : Nat)) ∧
                                    ((5 : TypeId) = (5 : TypeId) ∧
                                      (22 : Nat) = (22 : Nat) ∧
                                       true = true ∧
                                        (pt n x_1 ++ [IntKind.u8.wrap (ishr IntKind.u64 (IntKind.u64.wrap ((8 : Int) * (↑n : Int))) (IntKind.u64.wrap (IntKind.i64.wrap ((56 : Int) - IntKind.i64.wrap ((8 : Int) * (↑x_1 : Int))))))]).length ≤ (140737488355328 : Nat) ∧
                                         (pt n x_1 ++ [IntKind.u8.wrap (ishr IntKind.u64 (IntKind.u64.wrap ((8 : Int) * (↑n : Int))) (IntKind.u64.wrap (IntKind.i64.wrap ((56 : Int) - IntKind.i64.wrap ((8 : Int) * (↑x_1 : Int))))))]).length * (1 : Nat) ≤ (140737488355328 : Nat) ∧ (1 : Nat) ≠ (0 : Nat) ∧ (1 : Nat) = (1 : Nat)) ∧
                                     True ∧
                                      True ∧
                                       True ∧
                                        ((AV.d (D.val (Value.int IntKind.u64 (↑n : Int))) = AV.d (D.val (Value.int IntKind.u64 (↑n : Int))) ∧
                                           AV.d (D.val (Value.slice none (0 : Nat) (0 : Nat))) = AV.d (D.val (Value.slice none (0 : Nat) (0 : Nat))) ∧
                                            AV.row (5 : Nat) = AV.row (5 : Nat) ∧
                                             AV.d (D.val (Value.int IntKind.u64 (↑n : Int))) = AV.d (D.val (Value.int IntKind.u64 (↑n : Int))) ∧
                                              AV.d (D.val (Value.int IntKind.i64 (↑(pz n x).length : Int))) = AV.d (D.val (Value.int IntKind.i64 (↑(pz n x).length : Int))) ∧
                                               AV.d (D.val (Value.int IntKind.u64 (IntKind.u64.wrap (↑(pz n x).length : Int)))) = AV.d (D.val (Value.int IntKind.u64 (IntKind.u64.wrap (↑(pz n x).length : Int)))) ∧
                                                AV.d (D.val (Value.int IntKind.u64 (IntKind.u64.wrap ((↑n : Int) + IntKind.u64.wrap (↑(pz n x).length : Int))))) = AV.d (D.val (Value.int IntKind.u64 (IntKind.u64.wrap ((↑n : Int) + IntKind.u64.wrap (↑(pz n x).length : Int))))) ∧
                                                 AV.d (D.val (Value.int IntKind.u64 ((IntKind.u64.wrap ((↑n : Int) + IntKind.u64.wrap (↑(pz n x).length : Int))).tmod (64 : Int)))) = AV.d (D.val (Value.int IntKind.u64 ((IntKind.u64.wrap ((↑n : Int) + IntKind.u64.wrap (↑(pz n x).length : Int))).tmod (64 : Int)))) ∧
                                                  AV.d (D.val (Value.bool ((IntKind.u64.wrap ((↑n : Int) + IntKind.u64.wrap (↑(pz n x).length : Int))).tmod (64 : Int) != (56 : Int)))) = AV.d (D.val (Value.bool ((IntKind.u64.wrap ((↑n : Int) + IntKind.u64.wrap (↑(pz n x).length : Int))).tmod (64 : Int) != (56 : Int)))) ∧
                                                   AV.d (D.val (Value.int IntKind.i64 (IntKind.i64.wrap ((↑x_1 : Int) + (1 : Int))))) = AV.d (D.val (Value.int IntKind.i64 (↑(IntKind.i64.wrap ((↑x_1 : Int) + (1 : Int))).toNat : Int))) ∧ True) ∧
                                          (some (Blk.row (5 : TypeId) (D.ints IntKind.u8 (pt n x_1 ++ [IntKind.u8.wrap (ishr IntKind.u64 (IntKind.u64.wrap ((8 : Int) * (↑n : Int))) (IntKind.u64.wrap (IntKind.i64.wrap ((56 : Int) - IntKind.i64.wrap ((8 : Int) * (↑x_1 : Int))))))]))) =
                                             some (Blk.row (5 : TypeId) (D.ints IntKind.u8 (pt n (IntKind.i64.wrap ((↑x_1 : Int) + (1 : Int))).toNat))) ∧
                                            True) ∧
                                           true = true) ∧
                                         (IntKind.i64.wrap ((↑x_1 : Int) + (1 : Int))).toNat ≤ (8 : Nat) ∧ (8 : Nat) - (IntKind.i64.wrap ((↑x_1 : Int) + (1 : Int))).toNat < (8 : Nat) - x_1
                       | false => True ∧ True ∧ (false = false ∧ True) ∧ D.ints IntKind.u8 (pt n x_1) = F) := by kernel_rfl
set_option maxRecDepth 100000 in
theorem vc12  (n : Nat) (F : D)  :
    (owed c0 (inv12 n) Tryd.f12 [.val (.int .u64 (n : Int))] F) = (
 True ∧
   True ∧
    True ∧
     (64 : Int) ≠ (0 : Int) ∧
      True ∧
       (((AV.d (D.str (ints { data := { toList := [(128 : UInt8)] } })) = AV.d (D.str (pz n ((ints { data := { toList := [(128 : UInt8)] } }).length - (1 : Nat)))) ∧ True) ∧ True ∧ true = true) ∧ (ints { data := { toList := [(128 : UInt8)] } }).length - (1 : Nat) ≤ zc n) ∧
        ∀ (x : Nat),
         x ≤ zc n →
          true = true ∧
           True ∧
            True ∧
             True ∧
              True ∧
               True ∧
                True ∧
                 (64 : Int) ≠ (0 : Int) ∧
                  True ∧
                   match (IntKind.u64.wrap (IntKind.u64.wrap ((↑n : Int).tmod (64 : Int) + IntKind.u64.wrap (↑(pz n x).length : Int)) + (8 : Int))).tmod (64 : Int) != (0 : Int) with
                   | true =>
                    True ∧
                     (↑((pz n x).length + (ints { data := { toList := [(0 : UInt8)] } }).length) : Int) ≤ (9223372036854775807 : Int) ∧
                      True ∧
                       ((AV.d (D.str (pz n x ++ ints { data := { toList := [(0 : UInt8)] } })) = AV.d (D.str (pz n ((pz n x ++ ints { data := { toList := [(0 : UInt8)] } }).length - (1 : Nat)))) ∧ True) ∧ True ∧ true = true) ∧
                        (pz n x ++ ints { data := { toList := [(0 : UInt8)] } }).length - (1 : Nat) ≤ zc n ∧ zc n - ((pz n x ++ ints { data := { toList := [(0 : UInt8)] } }).length - (1 : Nat)) < zc n - x
                   | false =>
                    True ∧
                     True ∧
                      True ∧
                       True ∧
                        True ∧
                         (((AV.d (D.val (Value.int IntKind.i64 (0 : Int))) = AV.d (D.val (Value.int IntKind.i64 (↑(Int.toNat (0 : Int)) : Int))) ∧
                             AV.d (D.val (Value.int IntKind.u64 (IntKind.u64.wrap ((↑n : Int) * (8 : Int))))) = AV.d (D.val (Value.int IntKind.u64 (↑((8 : Nat) * n % (18446744073709551616 : Nat) / (1 : Nat)) : Int))) ∧ AV.d (D.str (ints { data := { toList := [] } })) = AV.d (D.str (tl ((8 : Nat) * n % (18446744073709551616 : Nat)) (Int.toNat (0 : Int)))) ∧ True) ∧
                            True ∧ true = true) ∧
                           Int.toNat (0 : Int) ≤ (8 : Nat)) ∧
                          ∀ (x_1 : Nat),
                           x_1 ≤ (8 : Nat) →
                            true = true ∧
                             True ∧
                              match decide ((↑x_1 : Int) < (8 : Int)) with
                              | true =>
                               True ∧
                                (256 : Int) ≠ (0 : Int) ∧
                                 True ∧
                                  ((1 : Nat) = (1 : Nat) ∧ (1 : Nat) ≤ (4096 : Nat)) ∧
                                   isBytes [IntKind.u8.wrap ((↑((8 : Nat) * n % (18446744073709551616 : Nat) / (256 : Nat) ^ x_1) : Int).tmod (256 : Int))] ∧
                                    True ∧
                                     (↑((1 : Nat) + (tl ((8 : Nat) * n % (18446744073709551616 : Nat)) x_1).length) : Int) ≤ (9223372036854775807 : Int) ∧
                                      True ∧
                                       True ∧
                                        (256 : Int) ≠ (0 : Int) ∧
                                         True ∧
                                          True ∧
                                           True ∧
                                            ((AV.d (D.val (Value.int IntKind.i64 (IntKind.i64.wrap ((↑x_1 : Int) + (1 : Int))))) = AV.d (D.val (Value.int IntKind.i64 (↑(IntKind.i64.wrap ((↑x_1 : Int) + (1 : Int))).toNat : Int))) ∧
                                               AV.d (D.val (Value.int IntKind.u64 (IntKind.u64.wrap ((↑((8 : Nat) * n % (18446744073709551616 : Nat) / (256 : Nat) ^ x_1) : Int).tdiv (256 : Int))))) =
                                                 AV.d (D.val (Value.int IntKind.u64 (↑((8 : Nat) * n % (18446744073709551616 : Nat) / (256 : Nat) ^ (IntKind.i64.wrap ((↑x_1 : Int) + (1 : Int))).toNat) : Int))) ∧
                                                AV.d (D.str (IntKind.u8.wrap ((↑((8 : Nat) * n % (18446744073709551616 : Nat) / (256 : Nat) ^ x_1) : Int).tmod (256 : Int)) :: tl ((8 : Nat) * n % (18446744073709551616 : Nat)) x_1)) = AV.d (D.str (tl ((8 : Nat) * n % (18446744073709551616 : Nat)) (IntKind.i64.wrap ((↑x_1 : Int) + (1 : Int))).toNat)) ∧
                                                 True) ∧
                                              True ∧ true = true) ∧
                                             (IntKind.i64.wrap ((↑x_1 : Int) + (1 : Int))).toNat ≤ (8 : Nat) ∧ (8 : Nat) - (IntKind.i64.wrap ((↑x_1 : Int) + (1 : Int))).toNat < (8 : Nat) - x_1
                              | false => True ∧ True ∧ (↑((pz n x).length + (tl ((8 : Nat) * n % (18446744073709551616 : Nat)) x_1).length) : Int) ≤ (9223372036854775807 : Int) ∧ True ∧ (false = false ∧ True) ∧ D.str (pz n x ++ tl ((8 : Nat) * n % (18446744073709551616 : Nat)) x_1) = F) := by kernel_rfl

end Go.Proofs.YtcdjhhepgkcabaaDoor
