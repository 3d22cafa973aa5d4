import Derived.Test.YtcdjhhepgkcabaaDoorHa
/- package hash: press; the reference: block. -/
namespace Go.Proofs.YtcdjhhepgkcabaaDoor
open Go Go.Vg

structure R8 where
  a : W
  b : W
  c : W
  d : W
  e : W
  f : W
  g : W
  h : W
def R8.l (x : R8) : List Int := [(x.a.toNat : Int), (x.b.toNat : Int), (x.c.toNat : Int), (x.d.toNat : Int), (x.e.toNat : Int), (x.f.toNat : Int), (x.g.toNat : Int), (x.h.toNat : Int)]
def sA (x : W) : W := (rr x 7 ^^^ rr x 18) ^^^ (x >>> 3)
def sB (x : W) : W := (rr x 17 ^^^ rr x 19) ^^^ (x >>> 10)
def sC (x : W) : W := (rr x 6 ^^^ rr x 11) ^^^ rr x 25
def sD (x : W) : W := (rr x 2 ^^^ rr x 13) ^^^ rr x 22
/-- The words of the schedule, newest first. -/
def wsR (l : List Int) : Nat → List W
  | 0 => []
  | t + 1 => (if t < 16 then wat l (4 * t) else (((wsR l t).getD 15 0 + sA ((wsR l t).getD 14 0)) + (wsR l t).getD 6 0) + sB ((wsR l t).getD 1 0)) :: wsR l t
def wn (l : List Int) (t : Nat) : W := (wsR l (t + 1)).getD 0 0
def wl (l : List Int) (n : Nat) : List Int := (List.range n).map fun t => ((wn l t).toNat : Int)
def kW (t : Nat) : W := BitVec.ofInt 32 (gl0.getD t 0)
def rdS (x : R8) (k w : W) : R8 :=
  let one := (((x.h + sC x.e) + chW x.e x.f x.g) + k) + w
  let two := sD x.a + mjW x.a x.b x.c
  ⟨one + two, x.a, x.b, x.c, x.d + one, x.e, x.f, x.g⟩
def rd (x : R8) (l : List Int) : Nat → R8
  | 0 => x
  | t + 1 => rdS (rd x l t) (kW t) (wn l t)
def add8 (x v : R8) : R8 := ⟨x.a + v.a, x.b + v.b, x.c + v.c, x.d + v.d, x.e + v.e, x.f + v.f, x.g + v.g, x.h + v.h⟩
def pr (x : R8) (l : List Int) : R8 := add8 x (rd x l 64)
def mixL (x : R8) (l : List Int) (i : Nat) : List Int := (pr x l).l.take i ++ x.l.drop i
def ofR (d : List Int) : R8 := ⟨BitVec.ofInt 32 (d.getD 0 0), BitVec.ofInt 32 (d.getD 1 0), BitVec.ofInt 32 (d.getD 2 0), BitVec.ofInt 32 (d.getD 3 0), BitVec.ofInt 32 (d.getD 4 0), BitVec.ofInt 32 (d.getD 5 0), BitVec.ofInt 32 (d.getD 6 0), BitVec.ofInt 32 (d.getD 7 0)⟩
def prL (h l : List Int) : List Int := (pr (ofR h) l).l
abbrev a8 (l : List Int) : D := .arr .u32 8 l
def sp26 : Go.Vg.Spec := ⟨fun ds => ∃ (x : R8) (l : List Int), ds = [a8 x.l, .arr .u8 64 l] ∧ isBytes l ∧ l.length = 64, fun ds => a8 (prL (arrOf (ds.headD default)) (arrOf (ds.getD 1 default))), true, [25, 26]⟩
def sp29 : Go.Vg.Spec := ⟨fun ds => ∃ (x : R8) (l : List Int), ds = [.ints .u32 x.l, .str l] ∧ isBytes l ∧ l.length = 64, fun ds => .ints .u32 (prL (intsOf (ds.headD default)) (strOf (ds.getD 1 default))), false, [42, 9]⟩
def c26 : Ctx := ⟨tab, lkS [(28, sp28), (34, sp34)], [], []⟩
def c29 : Ctx := ⟨tab, lkS [(35, sp35), (36, sp36), (37, sp37)], [24], []⟩
def inv26 (x : R8) (l : List Int) : Nat → Option Inv
  | 3 => some ⟨Nat, fun i => [(20, .d (i64 i))], fun i => [(5, .fix (.arr .u32 64 (wl l i ++ List.replicate (64 - i) 0)))], fun s => (slotN s 20).toNat, fun _ i => i ≤ 64, fun i => 64 - i⟩
  | 12 => some ⟨Nat, fun i => [(70, .d (i64 i))], fun i => [(9, .fix (a8 (rd x l i).l))], fun s => (slotN s 70).toNat, fun _ i => i ≤ 64, fun i => 64 - i⟩
  | 20 => some ⟨Nat, fun i => [(148, .d (i64 i))], fun i => [(2, .fix (a8 (mixL x l i)))], fun s => (slotN s 148).toNat, fun _ i => i ≤ 8, fun i => 8 - i⟩
  | _ => none
--KEEP rr Go.Vg.toW chW mjW w4 wat gl0 gl1 BitVec.toNat wl wn rd mixL prL pr kW Go.Vg.gl0 Go.Vg.gl1
set_option maxRecDepth 100000 in
theorem vc26  (x : R8) (l : List Int) (F : D)  :
    (owed c26 (inv26 x l) Tryd.f26 [a8 x.l, .arr .u8 64 l] F) = (
 (True ∧ false = false) ∧
   (True ∧ false = false) ∧
    (True ∧ (8 : Nat) ≠ (0 : Nat)) ∧
     (True ∧ (64 : Nat) ≠ (0 : Nat)) ∧
      True ∧
       (((AV.d (D.val (Value.int IntKind.i64 (0 : Int))) = AV.d (D.val (Value.int IntKind.i64 (↑(Int.toNat (0 : Int)) : Int))) ∧ True) ∧
          (some (Blk.fix (D.arr IntKind.u32 (8 : Nat) [(↑(BitVec.toNat x.a) : Int), (↑(BitVec.toNat x.b) : Int), (↑(BitVec.toNat x.c) : Int), (↑(BitVec.toNat x.d) : Int), (↑(BitVec.toNat x.e) : Int), (↑(BitVec.toNat x.f) : Int), (↑(BitVec.toNat x.g) : Int), (↑(BitVec.toNat x.h) : Int)])) =
             some (Blk.fix (D.arr IntKind.u32 (8 : Nat) [(↑(BitVec.toNat x.a) : Int), (↑(BitVec.toNat x.b) : Int), (↑(BitVec.toNat x.c) : Int), (↑(BitVec.toNat x.d) : Int), (↑(BitVec.toNat x.e) : Int), (↑(BitVec.toNat x.f) : Int), (↑(BitVec.toNat x.g) : Int), (↑(BitVec.toNat x.h) : Int)])) ∧
            some (Blk.fix (D.arr IntKind.u8 (64 : Nat) l)) = some (Blk.fix (D.arr IntKind.u8 (64 : Nat) l)) ∧
             some (Blk.fix (D.arr IntKind.u32 (8 : Nat) [(0 : Int), (0 : Int), (0 : Int), (0 : Int), (0 : Int), (0 : Int), (0 : Int), (0 : Int)])) = some (Blk.fix (D.arr IntKind.u32 (8 : Nat) [(0 : Int), (0 : Int), (0 : Int), (0 : Int), (0 : Int), (0 : Int), (0 : Int), (0 : Int)])) ∧
              some
                 (Blk.fix
                  (D.arr IntKind.u32 (64 : Nat)
                   (List.replicate (64 : Nat) (0 : Int)))) =
                some
                 (Blk.fix
                  (D.arr IntKind.u32 (64 : Nat)
                   (wl l (Int.toNat (0 : Int)) ++
                    (List.replicate (64 : Nat) (0 : Int))))) ∧
               True) ∧
           true = true) ∧
         Int.toNat (0 : Int) ≤ (64 : Nat)) ∧
        ∀ (x_1 : Nat),
         x_1 ≤ (64 : Nat) →
          true = true ∧
           True ∧
            match decide ((↑x_1 : Int) < (64 : Int)) with
            | true =>
             True ∧
              True ∧
               True ∧
                True ∧
                 match decide ((↑x_1 : Int) < (16 : Int)) with
                 | true =>
                  True ∧
                   ((0 : Int) ≤ (0 : Int) ∧ (0 : Int) ≤ (↑(64 : Nat) : Int) ∧ (↑(64 : Nat) : Int) ≤ (↑(64 : Nat) : Int) ∧ (64 : Nat) = (64 : Nat) ∧ (1 : Nat) = (1 : Nat)) ∧
                    True ∧
                     True ∧
                      (∃ (l_1 : List Int), ∃ (i : Nat), [D.ints IntKind.u8 (List.take ((↑(64 : Nat) : Int).toNat - Int.toNat (0 : Int)) (List.drop (0 : Nat) l)), D.val (Value.int IntKind.i64 (IntKind.i64.wrap ((4 : Int) * (↑x_1 : Int))))] = [D.ints IntKind.u8 l_1, D.val (Value.int IntKind.i64 (↑i : Int))] ∧ isBytes l_1 ∧ i + (3 : Nat) < l_1.length ∧ i < (1000 : Nat)) ∧
                       ((0 : Int) ≤ (↑x_1 : Int) ∧ (↑x_1 : Int) < (↑(64 : Nat) : Int) ∧ (64 : Nat) = (64 : Nat) ∧ (1 : Nat) = (1 : Nat)) ∧
                        (((↑x_1 : Int).toNat < (64 : Nat) ∧ ([] : List Nat) = [] ∧ true = true) ∧ (1 : Nat) ≠ (0 : Nat) ∧ (1 : Nat) = (1 : Nat) ∧ false = false) ∧
                         True ∧
                          True ∧
                           ((AV.d (D.val (Value.int IntKind.i64 (IntKind.i64.wrap ((↑x_1 : Int) + (1 : Int))))) = AV.d (D.val (Value.int IntKind.i64 (↑(IntKind.i64.wrap ((↑x_1 : Int) + (1 : Int))).toNat : Int))) ∧ True) ∧
                             (some (Blk.fix (D.arr IntKind.u32 (8 : Nat) [(↑(BitVec.toNat x.a) : Int), (↑(BitVec.toNat x.b) : Int), (↑(BitVec.toNat x.c) : Int), (↑(BitVec.toNat x.d) : Int), (↑(BitVec.toNat x.e) : Int), (↑(BitVec.toNat x.f) : Int), (↑(BitVec.toNat x.g) : Int), (↑(BitVec.toNat x.h) : Int)])) =
                                some (Blk.fix (D.arr IntKind.u32 (8 : Nat) [(↑(BitVec.toNat x.a) : Int), (↑(BitVec.toNat x.b) : Int), (↑(BitVec.toNat x.c) : Int), (↑(BitVec.toNat x.d) : Int), (↑(BitVec.toNat x.e) : Int), (↑(BitVec.toNat x.f) : Int), (↑(BitVec.toNat x.g) : Int), (↑(BitVec.toNat x.h) : Int)])) ∧
                               some (Blk.fix (D.arr IntKind.u8 (64 : Nat) l)) = some (Blk.fix (D.arr IntKind.u8 (64 : Nat) l)) ∧
                                some (Blk.fix (D.arr IntKind.u32 (8 : Nat) [(0 : Int), (0 : Int), (0 : Int), (0 : Int), (0 : Int), (0 : Int), (0 : Int), (0 : Int)])) = some (Blk.fix (D.arr IntKind.u32 (8 : Nat) [(0 : Int), (0 : Int), (0 : Int), (0 : Int), (0 : Int), (0 : Int), (0 : Int), (0 : Int)])) ∧
                                 some (Blk.fix (D.arr IntKind.u32 (64 : Nat) ((wl l x_1 ++ List.replicate ((64 : Nat) - x_1) (0 : Int)).set (↑x_1 : Int).toNat (↑(BitVec.toNat (wat (List.take ((↑(64 : Nat) : Int).toNat - Int.toNat (0 : Int)) (List.drop (0 : Nat) l)) (IntKind.i64.wrap ((4 : Int) * (↑x_1 : Int))).toNat)) : Int)))) =
                                   some (Blk.fix (D.arr IntKind.u32 (64 : Nat) (wl l (IntKind.i64.wrap ((↑x_1 : Int) + (1 : Int))).toNat ++ List.replicate ((64 : Nat) - (IntKind.i64.wrap ((↑x_1 : Int) + (1 : Int))).toNat) (0 : Int)))) ∧
                                  True) ∧
                              true = true) ∧
                            (IntKind.i64.wrap ((↑x_1 : Int) + (1 : Int))).toNat ≤ (64 : Nat) ∧ (64 : Nat) - (IntKind.i64.wrap ((↑x_1 : Int) + (1 : Int))).toNat < (64 : Nat) - x_1
                 | false =>
                  True ∧
                   True ∧
                    ((0 : Int) ≤ IntKind.i64.wrap ((↑x_1 : Int) - (15 : Int)) ∧ IntKind.i64.wrap ((↑x_1 : Int) - (15 : Int)) < (↑(64 : Nat) : Int) ∧ (64 : Nat) = (64 : Nat) ∧ (1 : Nat) = (1 : Nat)) ∧
                     ((1 : Nat) ≠ (0 : Nat) ∧ (1 : Nat) = (1 : Nat) ∧ false = false) ∧
                      True ∧
                       True ∧
                        ((0 : Int) ≤ IntKind.i64.wrap ((↑x_1 : Int) - (2 : Int)) ∧ IntKind.i64.wrap ((↑x_1 : Int) - (2 : Int)) < (↑(64 : Nat) : Int) ∧ (64 : Nat) = (64 : Nat) ∧ (1 : Nat) = (1 : Nat)) ∧
                         ((1 : Nat) ≠ (0 : Nat) ∧ (1 : Nat) = (1 : Nat) ∧ false = false) ∧
                          True ∧
                           True ∧
                            True ∧
                             True ∧
                              True ∧
                               ((0 : Int) ≤ IntKind.i64.wrap ((↑x_1 : Int) - (16 : Int)) ∧ IntKind.i64.wrap ((↑x_1 : Int) - (16 : Int)) < (↑(64 : Nat) : Int) ∧ (64 : Nat) = (64 : Nat) ∧ (1 : Nat) = (1 : Nat)) ∧
                                ((1 : Nat) ≠ (0 : Nat) ∧ (1 : Nat) = (1 : Nat) ∧ false = false) ∧
                                 True ∧
                                  (∃ (x : W),
                                    ∃ (n : Nat),
                                     [D.val (Value.int IntKind.u32 ((wl l x_1 ++ List.replicate ((64 : Nat) - x_1) (0 : Int)).getD (IntKind.i64.wrap ((↑x_1 : Int) - (15 : Int))).toNat (0 : Int))), D.val (Value.int IntKind.i64 (7 : Int))] = [D.val (Value.int IntKind.u32 (↑(BitVec.toNat x) : Int)), D.val (Value.int IntKind.i64 (↑n : Int))] ∧
                                      (1 : Nat) ≤ n ∧ n ≤ (31 : Nat)) ∧
                                   True ∧
                                    (∃ (x : W),
                                      ∃ (n : Nat),
                                       [D.val (Value.int IntKind.u32 ((wl l x_1 ++ List.replicate ((64 : Nat) - x_1) (0 : Int)).getD (IntKind.i64.wrap ((↑x_1 : Int) - (15 : Int))).toNat (0 : Int))), D.val (Value.int IntKind.i64 (18 : Int))] = [D.val (Value.int IntKind.u32 (↑(BitVec.toNat x) : Int)), D.val (Value.int IntKind.i64 (↑n : Int))] ∧
                                        (1 : Nat) ≤ n ∧ n ≤ (31 : Nat)) ∧
                                     True ∧
                                      True ∧
                                       (0 : Int) ≤ (3 : Int) ∧
                                        True ∧
                                         True ∧
                                          True ∧
                                           True ∧
                                            ((0 : Int) ≤ IntKind.i64.wrap ((↑x_1 : Int) - (7 : Int)) ∧ IntKind.i64.wrap ((↑x_1 : Int) - (7 : Int)) < (↑(64 : Nat) : Int) ∧ (64 : Nat) = (64 : Nat) ∧ (1 : Nat) = (1 : Nat)) ∧
                                             ((1 : Nat) ≠ (0 : Nat) ∧ (1 : Nat) = (1 : Nat) ∧ false = false) ∧
                                              True ∧
                                               True ∧
                                                (∃ (x : W),
                                                  ∃ (n : Nat),
                                                   [D.val (Value.int IntKind.u32 ((wl l x_1 ++ List.replicate ((64 : Nat) - x_1) (0 : Int)).getD (IntKind.i64.wrap ((↑x_1 : Int) - (2 : Int))).toNat (0 : Int))), D.val (Value.int IntKind.i64 (17 : Int))] =
                                                     [D.val (Value.int IntKind.u32 (↑(BitVec.toNat x) : Int)), D.val (Value.int IntKind.i64 (↑n : Int))] ∧
                                                    (1 : Nat) ≤ n ∧ n ≤ (31 : Nat)) ∧
                                                 True ∧
                                                  (∃ (x : W),
                                                    ∃ (n : Nat),
                                                     [D.val (Value.int IntKind.u32 ((wl l x_1 ++ List.replicate ((64 : Nat) - x_1) (0 : Int)).getD (IntKind.i64.wrap ((↑x_1 : Int) - (2 : Int))).toNat (0 : Int))), D.val (Value.int IntKind.i64 (19 : Int))] =
                                                       [D.val (Value.int IntKind.u32 (↑(BitVec.toNat x) : Int)), D.val (Value.int IntKind.i64 (↑n : Int))] ∧
                                                      (1 : Nat) ≤ n ∧ n ≤ (31 : Nat)) ∧
                                                   True ∧
                                                    True ∧
                                                     (0 : Int) ≤ (10 : Int) ∧
                                                      True ∧
                                                       True ∧
                                                        ((0 : Int) ≤ (↑x_1 : Int) ∧ (↑x_1 : Int) < (↑(64 : Nat) : Int) ∧ (64 : Nat) = (64 : Nat) ∧ (1 : Nat) = (1 : Nat)) ∧
                                                         (((↑x_1 : Int).toNat < (64 : Nat) ∧ ([] : List Nat) = [] ∧ true = true) ∧ (1 : Nat) ≠ (0 : Nat) ∧ (1 : Nat) = (1 : Nat) ∧ false = false) ∧
                                                          True ∧
                                                           True ∧
                                                            ((AV.d (D.val (Value.int IntKind.i64 (IntKind.i64.wrap ((↑x_1 : Int) + (1 : Int))))) = AV.d (D.val (Value.int IntKind.i64 (↑(IntKind.i64.wrap ((↑x_1 : Int) + (1 : Int))).toNat : Int))) ∧ True) ∧
                                                              (some
                                                                  (Blk.fix
                                                                   (D.arr IntKind.u32 (8 : Nat) [(↑(BitVec.toNat x.a) : Int), (↑(BitVec.toNat x.b) : Int), (↑(BitVec.toNat x.c) : Int), (↑(BitVec.toNat x.d) : Int), (↑(BitVec.toNat x.e) : Int), (↑(BitVec.toNat x.f) : Int), (↑(BitVec.toNat x.g) : Int), (↑(BitVec.toNat x.h) : Int)])) =
                                                                 some
                                                                  (Blk.fix
                                                                   (D.arr IntKind.u32 (8 : Nat) [(↑(BitVec.toNat x.a) : Int), (↑(BitVec.toNat x.b) : Int), (↑(BitVec.toNat x.c) : Int), (↑(BitVec.toNat x.d) : Int), (↑(BitVec.toNat x.e) : Int), (↑(BitVec.toNat x.f) : Int), (↑(BitVec.toNat x.g) : Int), (↑(BitVec.toNat x.h) : Int)])) ∧
                                                                some (Blk.fix (D.arr IntKind.u8 (64 : Nat) l)) = some (Blk.fix (D.arr IntKind.u8 (64 : Nat) l)) ∧
                                                                 some (Blk.fix (D.arr IntKind.u32 (8 : Nat) [(0 : Int), (0 : Int), (0 : Int), (0 : Int), (0 : Int), (0 : Int), (0 : Int), (0 : Int)])) = some (Blk.fix (D.arr IntKind.u32 (8 : Nat) [(0 : Int), (0 : Int), (0 : Int), (0 : Int), (0 : Int), (0 : Int), (0 : Int), (0 : Int)])) ∧
                                                                  some
                                                                     (Blk.fix
                                                                      (D.arr IntKind.u32 (64 : Nat)
                                                                       ((wl l x_1 ++ List.replicate ((64 : Nat) - x_1) (0 : Int)).set (↑x_1 : Int).toNat
                                                                        (IntKind.u32.wrap
                                                                         (IntKind.u32.wrap
                                                                           (IntKind.u32.wrap
                                                                             ((wl l x_1 ++ List.replicate ((64 : Nat) - x_1) (0 : Int)).getD (IntKind.i64.wrap ((↑x_1 : Int) - (16 : Int))).toNat (0 : Int) +
                                                                              ixor IntKind.u32
                                                                               (ixor IntKind.u32 (↑(BitVec.toNat (rr (toW (D.val (Value.int IntKind.u32 ((wl l x_1 ++ List.replicate ((64 : Nat) - x_1) (0 : Int)).getD (IntKind.i64.wrap ((↑x_1 : Int) - (15 : Int))).toNat (0 : Int))))) (7 : Nat))) : Int)
                                                                                (↑(BitVec.toNat (rr (toW (D.val (Value.int IntKind.u32 ((wl l x_1 ++ List.replicate ((64 : Nat) - x_1) (0 : Int)).getD (IntKind.i64.wrap ((↑x_1 : Int) - (15 : Int))).toNat (0 : Int))))) (18 : Nat))) : Int))
                                                                               (ishr IntKind.u32 ((wl l x_1 ++ List.replicate ((64 : Nat) - x_1) (0 : Int)).getD (IntKind.i64.wrap ((↑x_1 : Int) - (15 : Int))).toNat (0 : Int)) (3 : Int))) +
                                                                            (wl l x_1 ++ List.replicate ((64 : Nat) - x_1) (0 : Int)).getD (IntKind.i64.wrap ((↑x_1 : Int) - (7 : Int))).toNat (0 : Int)) +
                                                                          ixor IntKind.u32
                                                                           (ixor IntKind.u32 (↑(BitVec.toNat (rr (toW (D.val (Value.int IntKind.u32 ((wl l x_1 ++ List.replicate ((64 : Nat) - x_1) (0 : Int)).getD (IntKind.i64.wrap ((↑x_1 : Int) - (2 : Int))).toNat (0 : Int))))) (17 : Nat))) : Int)
                                                                            (↑(BitVec.toNat (rr (toW (D.val (Value.int IntKind.u32 ((wl l x_1 ++ List.replicate ((64 : Nat) - x_1) (0 : Int)).getD (IntKind.i64.wrap ((↑x_1 : Int) - (2 : Int))).toNat (0 : Int))))) (19 : Nat))) : Int))
                                                                           (ishr IntKind.u32 ((wl l x_1 ++ List.replicate ((64 : Nat) - x_1) (0 : Int)).getD (IntKind.i64.wrap ((↑x_1 : Int) - (2 : Int))).toNat (0 : Int)) (10 : Int))))))) =
                                                                    some (Blk.fix (D.arr IntKind.u32 (64 : Nat) (wl l (IntKind.i64.wrap ((↑x_1 : Int) + (1 : Int))).toNat ++ List.replicate ((64 : Nat) - (IntKind.i64.wrap ((↑x_1 : Int) + (1 : Int))).toNat) (0 : Int)))) ∧
                                                                   True) ∧
                                                               true = true) ∧
                                                             (IntKind.i64.wrap ((↑x_1 : Int) + (1 : Int))).toNat ≤ (64 : Nat) ∧ (64 : Nat) - (IntKind.i64.wrap ((↑x_1 : Int) + (1 : Int))).toNat < (64 : Nat) - x_1
            | false =>
             ((8 : Nat) ≠ (0 : Nat) ∧ (8 : Nat) = (8 : Nat) ∧ true = true) ∧
              (True ∧ (8 : Nat) ≠ (0 : Nat)) ∧
               (Sk.arr (8 : Nat) = Sk.arr (8 : Nat) ∧ (8 : Nat) ≠ (0 : Nat) ∧ (8 : Nat) = (8 : Nat) ∧ false = false) ∧
                True ∧
                 (((AV.d (D.val (Value.int IntKind.i64 (0 : Int))) = AV.d (D.val (Value.int IntKind.i64 (↑(Int.toNat (0 : Int)) : Int))) ∧ True) ∧
                    (some (Blk.fix (D.arr IntKind.u32 (8 : Nat) [(↑(BitVec.toNat x.a) : Int), (↑(BitVec.toNat x.b) : Int), (↑(BitVec.toNat x.c) : Int), (↑(BitVec.toNat x.d) : Int), (↑(BitVec.toNat x.e) : Int), (↑(BitVec.toNat x.f) : Int), (↑(BitVec.toNat x.g) : Int), (↑(BitVec.toNat x.h) : Int)])) =
                       some (Blk.fix (D.arr IntKind.u32 (8 : Nat) [(↑(BitVec.toNat x.a) : Int), (↑(BitVec.toNat x.b) : Int), (↑(BitVec.toNat x.c) : Int), (↑(BitVec.toNat x.d) : Int), (↑(BitVec.toNat x.e) : Int), (↑(BitVec.toNat x.f) : Int), (↑(BitVec.toNat x.g) : Int), (↑(BitVec.toNat x.h) : Int)])) ∧
                      some (Blk.fix (D.arr IntKind.u8 (64 : Nat) l)) = some (Blk.fix (D.arr IntKind.u8 (64 : Nat) l)) ∧
                       some (Blk.fix (D.arr IntKind.u32 (8 : Nat) [(0 : Int), (0 : Int), (0 : Int), (0 : Int), (0 : Int), (0 : Int), (0 : Int), (0 : Int)])) = some (Blk.fix (D.arr IntKind.u32 (8 : Nat) [(0 : Int), (0 : Int), (0 : Int), (0 : Int), (0 : Int), (0 : Int), (0 : Int), (0 : Int)])) ∧
                        some (Blk.fix (D.arr IntKind.u32 (64 : Nat) (wl l x_1 ++ List.replicate ((64 : Nat) - x_1) (0 : Int)))) = some (Blk.fix (D.arr IntKind.u32 (64 : Nat) (wl l x_1 ++ List.replicate ((64 : Nat) - x_1) (0 : Int)))) ∧
                         some (Blk.fix (D.arr IntKind.u32 (8 : Nat) [(↑(BitVec.toNat x.a) : Int), (↑(BitVec.toNat x.b) : Int), (↑(BitVec.toNat x.c) : Int), (↑(BitVec.toNat x.d) : Int), (↑(BitVec.toNat x.e) : Int), (↑(BitVec.toNat x.f) : Int), (↑(BitVec.toNat x.g) : Int), (↑(BitVec.toNat x.h) : Int)])) =
                           some
                            (Blk.fix
                             (D.arr IntKind.u32 (8 : Nat)
                              [(↑(BitVec.toNat (rd x l (Int.toNat (0 : Int))).a) : Int), (↑(BitVec.toNat (rd x l (Int.toNat (0 : Int))).b) : Int), (↑(BitVec.toNat (rd x l (Int.toNat (0 : Int))).c) : Int), (↑(BitVec.toNat (rd x l (Int.toNat (0 : Int))).d) : Int), (↑(BitVec.toNat (rd x l (Int.toNat (0 : Int))).e) : Int),
                               (↑(BitVec.toNat (rd x l (Int.toNat (0 : Int))).f) : Int), (↑(BitVec.toNat (rd x l (Int.toNat (0 : Int))).g) : Int), (↑(BitVec.toNat (rd x l (Int.toNat (0 : Int))).h) : Int)])) ∧
                          True) ∧
                     true = true) ∧
                   Int.toNat (0 : Int) ≤ (64 : Nat)) ∧
                  ∀ (x_2 : Nat),
                   x_2 ≤ (64 : Nat) →
                    true = true ∧
                     True ∧
                      match decide ((↑x_2 : Int) < (64 : Int)) with
                      | true =>
                       True ∧
                        True ∧
                         ((0 : Int) ≤ (0 : Int) ∧ (0 : Int) < (↑(8 : Nat) : Int) ∧ (8 : Nat) = (8 : Nat) ∧ (1 : Nat) = (1 : Nat)) ∧
                          ((1 : Nat) ≠ (0 : Nat) ∧ (1 : Nat) = (1 : Nat) ∧ false = false) ∧
                           ((0 : Int) ≤ (1 : Int) ∧ (1 : Int) < (↑(8 : Nat) : Int) ∧ (8 : Nat) = (8 : Nat) ∧ (1 : Nat) = (1 : Nat)) ∧
                            ((1 : Nat) ≠ (0 : Nat) ∧ (1 : Nat) = (1 : Nat) ∧ false = false) ∧
                             ((0 : Int) ≤ (2 : Int) ∧ (2 : Int) < (↑(8 : Nat) : Int) ∧ (8 : Nat) = (8 : Nat) ∧ (1 : Nat) = (1 : Nat)) ∧
                              ((1 : Nat) ≠ (0 : Nat) ∧ (1 : Nat) = (1 : Nat) ∧ false = false) ∧
                               ((0 : Int) ≤ (4 : Int) ∧ (4 : Int) < (↑(8 : Nat) : Int) ∧ (8 : Nat) = (8 : Nat) ∧ (1 : Nat) = (1 : Nat)) ∧
                                ((1 : Nat) ≠ (0 : Nat) ∧ (1 : Nat) = (1 : Nat) ∧ false = false) ∧
                                 ((0 : Int) ≤ (5 : Int) ∧ (5 : Int) < (↑(8 : Nat) : Int) ∧ (8 : Nat) = (8 : Nat) ∧ (1 : Nat) = (1 : Nat)) ∧
                                  ((1 : Nat) ≠ (0 : Nat) ∧ (1 : Nat) = (1 : Nat) ∧ false = false) ∧
                                   ((0 : Int) ≤ (6 : Int) ∧ (6 : Int) < (↑(8 : Nat) : Int) ∧ (8 : Nat) = (8 : Nat) ∧ (1 : Nat) = (1 : Nat)) ∧
                                    ((1 : Nat) ≠ (0 : Nat) ∧ (1 : Nat) = (1 : Nat) ∧ false = false) ∧
                                     True ∧
                                      True ∧
                                       True ∧
                                        True ∧
                                         True ∧
                                          True ∧
                                           ((0 : Int) ≤ (7 : Int) ∧ (7 : Int) < (↑(8 : Nat) : Int) ∧ (8 : Nat) = (8 : Nat) ∧ (1 : Nat) = (1 : Nat)) ∧
                                            ((1 : Nat) ≠ (0 : Nat) ∧ (1 : Nat) = (1 : Nat) ∧ false = false) ∧
                                             True ∧
                                              (∃ (x_3 : W), ∃ (n : Nat), [D.val (Value.int IntKind.u32 (↑(BitVec.toNat (rd x l x_2).e) : Int)), D.val (Value.int IntKind.i64 (6 : Int))] = [D.val (Value.int IntKind.u32 (↑(BitVec.toNat x_3) : Int)), D.val (Value.int IntKind.i64 (↑n : Int))] ∧ (1 : Nat) ≤ n ∧ n ≤ (31 : Nat)) ∧
                                               True ∧
                                                (∃ (x_3 : W), ∃ (n : Nat), [D.val (Value.int IntKind.u32 (↑(BitVec.toNat (rd x l x_2).e) : Int)), D.val (Value.int IntKind.i64 (11 : Int))] = [D.val (Value.int IntKind.u32 (↑(BitVec.toNat x_3) : Int)), D.val (Value.int IntKind.i64 (↑n : Int))] ∧ (1 : Nat) ≤ n ∧ n ≤ (31 : Nat)) ∧
                                                 True ∧
                                                  True ∧
                                                   (∃ (x_3 : W), ∃ (n : Nat), [D.val (Value.int IntKind.u32 (↑(BitVec.toNat (rd x l x_2).e) : Int)), D.val (Value.int IntKind.i64 (25 : Int))] = [D.val (Value.int IntKind.u32 (↑(BitVec.toNat x_3) : Int)), D.val (Value.int IntKind.i64 (↑n : Int))] ∧ (1 : Nat) ≤ n ∧ n ≤ (31 : Nat)) ∧
                                                    True ∧
                                                     True ∧
                                                      True ∧
                                                       True ∧
                                                        True ∧
                                                         True ∧
                                                          True ∧
                                                           True ∧
                                                            True ∧
                                                             True ∧
                                                              True ∧
                                                               True ∧
                                                                ((0 : Int) ≤ (↑x_2 : Int) ∧ (↑x_2 : Int) < (↑(64 : Nat) : Int) ∧ (64 : Nat) = (64 : Nat) ∧ (1 : Nat) = (1 : Nat)) ∧
                                                                 ((1 : Nat) ≠ (0 : Nat) ∧ (1 : Nat) = (1 : Nat) ∧ false = false) ∧
                                                                  True ∧
                                                                   True ∧
                                                                    ((0 : Int) ≤ (↑x_2 : Int) ∧ (↑x_2 : Int) < (↑(64 : Nat) : Int) ∧ (64 : Nat) = (64 : Nat) ∧ (1 : Nat) = (1 : Nat)) ∧
                                                                     ((1 : Nat) ≠ (0 : Nat) ∧ (1 : Nat) = (1 : Nat) ∧ false = false) ∧
                                                                      True ∧
                                                                       True ∧
                                                                        True ∧
                                                                         (∃ (x_3 : W),
                                                                           ∃ (n : Nat),
                                                                            [D.val (Value.int IntKind.u32 (↑(BitVec.toNat (rd x l x_2).a) : Int)), D.val (Value.int IntKind.i64 (2 : Int))] = [D.val (Value.int IntKind.u32 (↑(BitVec.toNat x_3) : Int)), D.val (Value.int IntKind.i64 (↑n : Int))] ∧
                                                                             (1 : Nat) ≤ n ∧ n ≤ (31 : Nat)) ∧
                                                                          True ∧
                                                                           (∃ (x_3 : W),
                                                                             ∃ (n : Nat),
                                                                              [D.val (Value.int IntKind.u32 (↑(BitVec.toNat (rd x l x_2).a) : Int)), D.val (Value.int IntKind.i64 (13 : Int))] = [D.val (Value.int IntKind.u32 (↑(BitVec.toNat x_3) : Int)), D.val (Value.int IntKind.i64 (↑n : Int))] ∧
                                                                               (1 : Nat) ≤ n ∧ n ≤ (31 : Nat)) ∧
                                                                            True ∧
                                                                             True ∧
                                                                              (∃ (x_3 : W),
                                                                                ∃ (n : Nat),
                                                                                 [D.val (Value.int IntKind.u32 (↑(BitVec.toNat (rd x l x_2).a) : Int)), D.val (Value.int IntKind.i64 (22 : Int))] = [D.val (Value.int IntKind.u32 (↑(BitVec.toNat x_3) : Int)), D.val (Value.int IntKind.i64 (↑n : Int))] ∧
                                                                                  (1 : Nat) ≤ n ∧ n ≤ (31 : Nat)) ∧
                                                                               True ∧
                                                                                True ∧
                                                                                 True ∧
                                                                                  True ∧
                                                                                   True ∧
                                                                                    True ∧
                                                                                     True ∧
                                                                                      True ∧
                                                                                       True ∧
                                                                                        True ∧
                                                                                         True ∧
                                                                                          True ∧
                                                                                           True ∧
                                                                                            True ∧
                                                                                             True ∧
                                                                                              True ∧
                                                                                               True ∧
                                                                                                True ∧
                                                                                                 True ∧
                                                                                                  True ∧
                                                                                                   ((0 : Int) ≤ (3 : Int) ∧ (3 : Int) < (↑(8 : Nat) : Int) ∧ (8 : Nat) = (8 : Nat) ∧ (1 : Nat) = (1 : Nat)) ∧
                                                                                                    ((1 : Nat) ≠ (0 : Nat) ∧ (1 : Nat) = (1 : Nat) ∧ false = false) ∧
                                                                                                     True ∧
                                                                                                      True ∧
                                                                                                       True ∧
                                                                                                        True ∧
                                                                                                         True ∧
                                                                                                          ((1 : Nat) = (1 : Nat) ∧
                                                                                                            false = false ∧
                                                                                                             ((0 : Nat) < (8 : Nat) ∧ ([] : List Nat) = [] ∧ true = true) ∧
                                                                                                              false = false ∧
                                                                                                               ((1 : Nat) < (8 : Nat) ∧ ([] : List Nat) = [] ∧ true = true) ∧
                                                                                                                false = false ∧
                                                                                                                 ((2 : Nat) < (8 : Nat) ∧ ([] : List Nat) = [] ∧ true = true) ∧
                                                                                                                  false = false ∧
                                                                                                                   ((3 : Nat) < (8 : Nat) ∧ ([] : List Nat) = [] ∧ true = true) ∧
                                                                                                                    false = false ∧
                                                                                                                     ((4 : Nat) < (8 : Nat) ∧ ([] : List Nat) = [] ∧ true = true) ∧
                                                                                                                      false = false ∧
                                                                                                                       ((5 : Nat) < (8 : Nat) ∧ ([] : List Nat) = [] ∧ true = true) ∧
                                                                                                                        false = false ∧ ((6 : Nat) < (8 : Nat) ∧ ([] : List Nat) = [] ∧ true = true) ∧ false = false ∧ ((7 : Nat) < (8 : Nat) ∧ ([] : List Nat) = [] ∧ true = true) ∧ True) ∧
                                                                                                           (Sk.arr (8 : Nat) = Sk.arr (8 : Nat) ∧ (8 : Nat) ≠ (0 : Nat) ∧ (8 : Nat) = (8 : Nat) ∧ false = false) ∧
                                                                                                            True ∧
                                                                                                             True ∧
                                                                                                              ((AV.d (D.val (Value.int IntKind.i64 (IntKind.i64.wrap ((↑x_2 : Int) + (1 : Int))))) =
                                                                                                                  AV.d (D.val (Value.int IntKind.i64 (↑(IntKind.i64.wrap ((↑x_2 : Int) + (1 : Int))).toNat : Int))) ∧
                                                                                                                 True) ∧
                                                                                                                (some
                                                                                                                    (Blk.fix
                                                                                                                     (D.arr IntKind.u32 (8 : Nat)
                                                                                                                      [(↑(BitVec.toNat x.a) : Int), (↑(BitVec.toNat x.b) : Int), (↑(BitVec.toNat x.c) : Int), (↑(BitVec.toNat x.d) : Int), (↑(BitVec.toNat x.e) : Int),
                                                                                                                       (↑(BitVec.toNat x.f) : Int), (↑(BitVec.toNat x.g) : Int), (↑(BitVec.toNat x.h) : Int)])) =
                                                                                                                   some
                                                                                                                    (Blk.fix
                                                                                                                     (D.arr IntKind.u32 (8 : Nat)
                                                                                                                      [(↑(BitVec.toNat x.a) : Int), (↑(BitVec.toNat x.b) : Int), (↑(BitVec.toNat x.c) : Int), (↑(BitVec.toNat x.d) : Int), (↑(BitVec.toNat x.e) : Int),
                                                                                                                       (↑(BitVec.toNat x.f) : Int), (↑(BitVec.toNat x.g) : Int), (↑(BitVec.toNat x.h) : Int)])) ∧
                                                                                                                  some (Blk.fix (D.arr IntKind.u8 (64 : Nat) l)) = some (Blk.fix (D.arr IntKind.u8 (64 : Nat) l)) ∧
                                                                                                                   some (Blk.fix (D.arr IntKind.u32 (8 : Nat) [(0 : Int), (0 : Int), (0 : Int), (0 : Int), (0 : Int), (0 : Int), (0 : Int), (0 : Int)])) =
                                                                                                                     some (Blk.fix (D.arr IntKind.u32 (8 : Nat) [(0 : Int), (0 : Int), (0 : Int), (0 : Int), (0 : Int), (0 : Int), (0 : Int), (0 : Int)])) ∧
                                                                                                                    some (Blk.fix (D.arr IntKind.u32 (64 : Nat) (wl l x_1 ++ List.replicate ((64 : Nat) - x_1) (0 : Int)))) =
                                                                                                                      some (Blk.fix (D.arr IntKind.u32 (64 : Nat) (wl l x_1 ++ List.replicate ((64 : Nat) - x_1) (0 : Int)))) ∧
                                                                                                                     some
                                                                                                                        (Blk.fix
                                                                                                                         (D.arr IntKind.u32 (8 : Nat)
                                                                                                                          [IntKind.u32.wrap
                                                                                                                            (IntKind.u32.wrap
                                                                                                                              (IntKind.u32.wrap
                                                                                                                                (IntKind.u32.wrap
                                                                                                                                  (IntKind.u32.wrap
                                                                                                                                    ((↑(BitVec.toNat (rd x l x_2).h) : Int) +
                                                                                                                                     ixor IntKind.u32
                                                                                                                                      (ixor IntKind.u32 (↑(BitVec.toNat (rr (toW (D.val (Value.int IntKind.u32 (↑(BitVec.toNat (rd x l x_2).e) : Int)))) (6 : Nat))) : Int)
                                                                                                                                       (↑(BitVec.toNat (rr (toW (D.val (Value.int IntKind.u32 (↑(BitVec.toNat (rd x l x_2).e) : Int)))) (11 : Nat))) : Int))
                                                                                                                                      (↑(BitVec.toNat (rr (toW (D.val (Value.int IntKind.u32 (↑(BitVec.toNat (rd x l x_2).e) : Int)))) (25 : Nat))) : Int)) +
                                                                                                                                   ixor IntKind.u32 (iand IntKind.u32 (↑(BitVec.toNat (rd x l x_2).e) : Int) (↑(BitVec.toNat (rd x l x_2).f) : Int))
                                                                                                                                    (iand IntKind.u32 (ixor IntKind.u32 IntKind.u32.max (↑(BitVec.toNat (rd x l x_2).e) : Int)) (↑(BitVec.toNat (rd x l x_2).g) : Int))) +
                                                                                                                                 gl0.getD (↑x_2 : Int).toNat (0 : Int)) +
                                                                                                                               (wl l x_1 ++ List.replicate ((64 : Nat) - x_1) (0 : Int)).getD (↑x_2 : Int).toNat (0 : Int)) +
                                                                                                                             IntKind.u32.wrap
                                                                                                                              (ixor IntKind.u32
                                                                                                                                (ixor IntKind.u32 (↑(BitVec.toNat (rr (toW (D.val (Value.int IntKind.u32 (↑(BitVec.toNat (rd x l x_2).a) : Int)))) (2 : Nat))) : Int)
                                                                                                                                 (↑(BitVec.toNat (rr (toW (D.val (Value.int IntKind.u32 (↑(BitVec.toNat (rd x l x_2).a) : Int)))) (13 : Nat))) : Int))
                                                                                                                                (↑(BitVec.toNat (rr (toW (D.val (Value.int IntKind.u32 (↑(BitVec.toNat (rd x l x_2).a) : Int)))) (22 : Nat))) : Int) +
                                                                                                                               ixor IntKind.u32
                                                                                                                                (ixor IntKind.u32 (iand IntKind.u32 (↑(BitVec.toNat (rd x l x_2).a) : Int) (↑(BitVec.toNat (rd x l x_2).b) : Int))
                                                                                                                                 (iand IntKind.u32 (↑(BitVec.toNat (rd x l x_2).a) : Int) (↑(BitVec.toNat (rd x l x_2).c) : Int)))
                                                                                                                                (iand IntKind.u32 (↑(BitVec.toNat (rd x l x_2).b) : Int) (↑(BitVec.toNat (rd x l x_2).c) : Int)))),
                                                                                                                           (↑(BitVec.toNat (rd x l x_2).a) : Int), (↑(BitVec.toNat (rd x l x_2).b) : Int), (↑(BitVec.toNat (rd x l x_2).c) : Int),
                                                                                                                           IntKind.u32.wrap
                                                                                                                            ((↑(BitVec.toNat (rd x l x_2).d) : Int) +
                                                                                                                             IntKind.u32.wrap
                                                                                                                              (IntKind.u32.wrap
                                                                                                                                (IntKind.u32.wrap
                                                                                                                                  (IntKind.u32.wrap
                                                                                                                                    ((↑(BitVec.toNat (rd x l x_2).h) : Int) +
                                                                                                                                     ixor IntKind.u32
                                                                                                                                      (ixor IntKind.u32 (↑(BitVec.toNat (rr (toW (D.val (Value.int IntKind.u32 (↑(BitVec.toNat (rd x l x_2).e) : Int)))) (6 : Nat))) : Int)
                                                                                                                                       (↑(BitVec.toNat (rr (toW (D.val (Value.int IntKind.u32 (↑(BitVec.toNat (rd x l x_2).e) : Int)))) (11 : Nat))) : Int))
                                                                                                                                      (↑(BitVec.toNat (rr (toW (D.val (Value.int IntKind.u32 (↑(BitVec.toNat (rd x l x_2).e) : Int)))) (25 : Nat))) : Int)) +
                                                                                                                                   ixor IntKind.u32 (iand IntKind.u32 (↑(BitVec.toNat (rd x l x_2).e) : Int) (↑(BitVec.toNat (rd x l x_2).f) : Int))
                                                                                                                                    (iand IntKind.u32 (ixor IntKind.u32 IntKind.u32.max (↑(BitVec.toNat (rd x l x_2).e) : Int)) (↑(BitVec.toNat (rd x l x_2).g) : Int))) +
                                                                                                                                 gl0.getD (↑x_2 : Int).toNat (0 : Int)) +
                                                                                                                               (wl l x_1 ++ List.replicate ((64 : Nat) - x_1) (0 : Int)).getD (↑x_2 : Int).toNat (0 : Int))),
                                                                                                                           (↑(BitVec.toNat (rd x l x_2).e) : Int), (↑(BitVec.toNat (rd x l x_2).f) : Int), (↑(BitVec.toNat (rd x l x_2).g) : Int)])) =
                                                                                                                       some
                                                                                                                        (Blk.fix
                                                                                                                         (D.arr IntKind.u32 (8 : Nat)
                                                                                                                          [(↑(BitVec.toNat (rd x l (IntKind.i64.wrap ((↑x_2 : Int) + (1 : Int))).toNat).a) : Int),
                                                                                                                           (↑(BitVec.toNat (rd x l (IntKind.i64.wrap ((↑x_2 : Int) + (1 : Int))).toNat).b) : Int),
                                                                                                                           (↑(BitVec.toNat (rd x l (IntKind.i64.wrap ((↑x_2 : Int) + (1 : Int))).toNat).c) : Int),
                                                                                                                           (↑(BitVec.toNat (rd x l (IntKind.i64.wrap ((↑x_2 : Int) + (1 : Int))).toNat).d) : Int),
                                                                                                                           (↑(BitVec.toNat (rd x l (IntKind.i64.wrap ((↑x_2 : Int) + (1 : Int))).toNat).e) : Int),
                                                                                                                           (↑(BitVec.toNat (rd x l (IntKind.i64.wrap ((↑x_2 : Int) + (1 : Int))).toNat).f) : Int),
                                                                                                                           (↑(BitVec.toNat (rd x l (IntKind.i64.wrap ((↑x_2 : Int) + (1 : Int))).toNat).g) : Int),
                                                                                                                           (↑(BitVec.toNat (rd x l (IntKind.i64.wrap ((↑x_2 : Int) + (1 : Int))).toNat).h) : Int)])) ∧
                                                                                                                      True) ∧
                                                                                                                 true = true) ∧
                                                                                                               (IntKind.i64.wrap ((↑x_2 : Int) + (1 : Int))).toNat ≤ (64 : Nat) ∧ (64 : Nat) - (IntKind.i64.wrap ((↑x_2 : Int) + (1 : Int))).toNat < (64 : Nat) - x_2
                      | false =>
                       True ∧
                        (((AV.d (D.val (Value.int IntKind.i64 (0 : Int))) = AV.d (D.val (Value.int IntKind.i64 (↑(Int.toNat (0 : Int)) : Int))) ∧ True) ∧
                           (some (Blk.fix (D.arr IntKind.u32 (8 : Nat) [(↑(BitVec.toNat x.a) : Int), (↑(BitVec.toNat x.b) : Int), (↑(BitVec.toNat x.c) : Int), (↑(BitVec.toNat x.d) : Int), (↑(BitVec.toNat x.e) : Int), (↑(BitVec.toNat x.f) : Int), (↑(BitVec.toNat x.g) : Int), (↑(BitVec.toNat x.h) : Int)])) =
                              some (Blk.fix (D.arr IntKind.u32 (8 : Nat) (mixL x l (Int.toNat (0 : Int))))) ∧
                             some (Blk.fix (D.arr IntKind.u8 (64 : Nat) l)) = some (Blk.fix (D.arr IntKind.u8 (64 : Nat) l)) ∧
                              some (Blk.fix (D.arr IntKind.u32 (8 : Nat) [(0 : Int), (0 : Int), (0 : Int), (0 : Int), (0 : Int), (0 : Int), (0 : Int), (0 : Int)])) = some (Blk.fix (D.arr IntKind.u32 (8 : Nat) [(0 : Int), (0 : Int), (0 : Int), (0 : Int), (0 : Int), (0 : Int), (0 : Int), (0 : Int)])) ∧
                               some (Blk.fix (D.arr IntKind.u32 (64 : Nat) (wl l x_1 ++ List.replicate ((64 : Nat) - x_1) (0 : Int)))) = some (Blk.fix (D.arr IntKind.u32 (64 : Nat) (wl l x_1 ++ List.replicate ((64 : Nat) - x_1) (0 : Int)))) ∧
                                some
                                   (Blk.fix
                                    (D.arr IntKind.u32 (8 : Nat)
                                     [(↑(BitVec.toNat (rd x l x_2).a) : Int), (↑(BitVec.toNat (rd x l x_2).b) : Int), (↑(BitVec.toNat (rd x l x_2).c) : Int), (↑(BitVec.toNat (rd x l x_2).d) : Int), (↑(BitVec.toNat (rd x l x_2).e) : Int), (↑(BitVec.toNat (rd x l x_2).f) : Int), (↑(BitVec.toNat (rd x l x_2).g) : Int), (↑(BitVec.toNat (rd x l x_2).h) : Int)])) =
                                  some
                                   (Blk.fix
                                    (D.arr IntKind.u32 (8 : Nat)
                                     [(↑(BitVec.toNat (rd x l x_2).a) : Int), (↑(BitVec.toNat (rd x l x_2).b) : Int), (↑(BitVec.toNat (rd x l x_2).c) : Int), (↑(BitVec.toNat (rd x l x_2).d) : Int), (↑(BitVec.toNat (rd x l x_2).e) : Int), (↑(BitVec.toNat (rd x l x_2).f) : Int), (↑(BitVec.toNat (rd x l x_2).g) : Int), (↑(BitVec.toNat (rd x l x_2).h) : Int)])) ∧
                                 True) ∧
                            true = true) ∧
                          Int.toNat (0 : Int) ≤ (8 : Nat)) ∧
                         ∀ (x_3 : Nat),
                          x_3 ≤ (8 : Nat) →
                           true = true ∧
                            True ∧
                             match decide ((↑x_3 : Int) < (8 : Int)) with
                             | true =>
                              True ∧
                               True ∧
                                True ∧
                                 ((0 : Int) ≤ (↑x_3 : Int) ∧ (↑x_3 : Int) < (↑(8 : Nat) : Int) ∧ (8 : Nat) = (8 : Nat) ∧ (1 : Nat) = (1 : Nat)) ∧
                                  ((1 : Nat) ≠ (0 : Nat) ∧ (1 : Nat) = (1 : Nat) ∧ false = false) ∧
                                   True ∧
                                    ((0 : Int) ≤ (↑x_3 : Int) ∧ (↑x_3 : Int) < (↑(8 : Nat) : Int) ∧ (8 : Nat) = (8 : Nat) ∧ (1 : Nat) = (1 : Nat)) ∧
                                     ((1 : Nat) ≠ (0 : Nat) ∧ (1 : Nat) = (1 : Nat) ∧ false = false) ∧
                                      True ∧
                                       ((0 : Int) ≤ (↑x_3 : Int) ∧ (↑x_3 : Int) < (↑(8 : Nat) : Int) ∧ (8 : Nat) = (8 : Nat) ∧ (1 : Nat) = (1 : Nat)) ∧
                                        (((↑x_3 : Int).toNat < (8 : Nat) ∧ ([] : List Nat) = [] ∧ true = true) ∧ (1 : Nat) ≠ (0 : Nat) ∧ (1 : Nat) = (1 : Nat) ∧ false = false) ∧
                                         True ∧
                                          True ∧
                                           ((AV.d (D.val (Value.int IntKind.i64 (IntKind.i64.wrap ((↑x_3 : Int) + (1 : Int))))) = AV.d (D.val (Value.int IntKind.i64 (↑(IntKind.i64.wrap ((↑x_3 : Int) + (1 : Int))).toNat : Int))) ∧ True) ∧
                                             (some
                                                 (Blk.fix
                                                  (D.arr IntKind.u32 (8 : Nat)
                                                   ((mixL x l x_3).set (↑x_3 : Int).toNat
                                                    (IntKind.u32.wrap
                                                     ((mixL x l x_3).getD (↑x_3 : Int).toNat (0 : Int) +
                                                      [(↑(BitVec.toNat (rd x l x_2).a) : Int), (↑(BitVec.toNat (rd x l x_2).b) : Int), (↑(BitVec.toNat (rd x l x_2).c) : Int), (↑(BitVec.toNat (rd x l x_2).d) : Int), (↑(BitVec.toNat (rd x l x_2).e) : Int), (↑(BitVec.toNat (rd x l x_2).f) : Int), (↑(BitVec.toNat (rd x l x_2).g) : Int),
                                                         (↑(BitVec.toNat (rd x l x_2).h) : Int)].getD
                                                       (↑x_3 : Int).toNat (0 : Int)))))) =
                                                some (Blk.fix (D.arr IntKind.u32 (8 : Nat) (mixL x l (IntKind.i64.wrap ((↑x_3 : Int) + (1 : Int))).toNat))) ∧
                                               some (Blk.fix (D.arr IntKind.u8 (64 : Nat) l)) = some (Blk.fix (D.arr IntKind.u8 (64 : Nat) l)) ∧
                                                some (Blk.fix (D.arr IntKind.u32 (8 : Nat) [(0 : Int), (0 : Int), (0 : Int), (0 : Int), (0 : Int), (0 : Int), (0 : Int), (0 : Int)])) = some (Blk.fix (D.arr IntKind.u32 (8 : Nat) [(0 : Int), (0 : Int), (0 : Int), (0 : Int), (0 : Int), (0 : Int), (0 : Int), (0 : Int)])) ∧
                                                 some (Blk.fix (D.arr IntKind.u32 (64 : Nat) (wl l x_1 ++ List.replicate ((64 : Nat) - x_1) (0 : Int)))) = some (Blk.fix (D.arr IntKind.u32 (64 : Nat) (wl l x_1 ++ List.replicate ((64 : Nat) - x_1) (0 : Int)))) ∧
                                                  some
                                                     (Blk.fix
                                                      (D.arr IntKind.u32 (8 : Nat)
                                                       [(↑(BitVec.toNat (rd x l x_2).a) : Int), (↑(BitVec.toNat (rd x l x_2).b) : Int), (↑(BitVec.toNat (rd x l x_2).c) : Int), (↑(BitVec.toNat (rd x l x_2).d) : Int), (↑(BitVec.toNat (rd x l x_2).e) : Int), (↑(BitVec.toNat (rd x l x_2).f) : Int), (↑(BitVec.toNat (rd x l x_2).g) : Int),
                                                        (↑(BitVec.toNat (rd x l x_2).h) : Int)])) =
                                                    some
                                                     (Blk.fix
                                                      (D.arr IntKind.u32 (8 : Nat)
                                                       [(↑(BitVec.toNat (rd x l x_2).a) : Int), (↑(BitVec.toNat (rd x l x_2).b) : Int), (↑(BitVec.toNat (rd x l x_2).c) : Int), (↑(BitVec.toNat (rd x l x_2).d) : Int), (↑(BitVec.toNat (rd x l x_2).e) : Int), (↑(BitVec.toNat (rd x l x_2).f) : Int), (↑(BitVec.toNat (rd x l x_2).g) : Int),
                                                        (↑(BitVec.toNat (rd x l x_2).h) : Int)])) ∧
                                                   True) ∧
                                              true = true) ∧
                                            (IntKind.i64.wrap ((↑x_3 : Int) + (1 : Int))).toNat ≤ (8 : Nat) ∧ (8 : Nat) - (IntKind.i64.wrap ((↑x_3 : Int) + (1 : Int))).toNat < (8 : Nat) - x_3
                             | false => ((8 : Nat) ≠ (0 : Nat) ∧ (8 : Nat) = (8 : Nat) ∧ true = true) ∧ (Sk.arr (8 : Nat) = Sk.arr (8 : Nat) ∧ (8 : Nat) ≠ (0 : Nat) ∧ (8 : Nat) = (8 : Nat) ∧ false = false) ∧ (((8 : Nat) ≠ (0 : Nat) ∧ (8 : Nat) = (8 : Nat) ∧ true = true) ∧ True) ∧ D.arr IntKind.u32 (8 : Nat) (mixL x l x_3) = F) := by kernel_rfl


end Go.Proofs.YtcdjhhepgkcabaaDoor
