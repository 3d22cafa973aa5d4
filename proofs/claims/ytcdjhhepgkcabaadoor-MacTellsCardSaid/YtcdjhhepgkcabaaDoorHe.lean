import Derived.Test.YtcdjhhepgkcabaaDoorHm
/- package hash: New, Sum, Resume, and the reference's words, From, Sum. -/
namespace Go.Proofs.YtcdjhhepgkcabaaDoor
open Go Go.Vg

def woL (l : List Int) : R8 := ⟨wn l 0, wn l 1, wn l 2, wn l 3, wn l 4, wn l 5, wn l 6, wn l 7⟩
def rsS (l : List Int) (n : Nat) : HS := if n % 64 = 0 then ⟨woL l, n, List.replicate 64 0⟩ else st0
def rsE (n : Nat) : Int := if n % 64 = 0 then 0 else 1
abbrev d32 (l : List Int) : D := .arr .u8 32 l
def isD (l : List Int) : Prop := isBytes l ∧ l.length = 32
def big : Nat := 1000000000000000
def sp7 : Go.Vg.Spec := ⟨fun ds => ds.length = 0, fun _ => stD st0, true, []⟩
def sp13 : Go.Vg.Spec := ⟨fun ds => ∃ s, ds = [stD s] ∧ okS s, fun ds => d32 (sumL (ofS (ds.headD default))), true, [28]⟩
def sp27 : Go.Vg.Spec := ⟨fun ds => ds.length = 0, fun _ => .ints .u32 iv.l, false, []⟩
def sp15 : Go.Vg.Spec := ⟨fun ds => ∃ (x : R8) (n : Nat) (p : List Int), ds = [.ints .u32 x.l, u64 (n : Int), .str p] ∧ isBytes p ∧ p.length ≤ 1000000000000000 ∧ n % 64 = 0 ∧ n < 18446744073709551616,
  fun ds => d32 (fromL (ofR (intsOf (ds.headD default))) (numOf (ds.getD 1 default)).toNat (strOf (ds.getD 2 default))), true, [42, 23, 9]⟩
def sp16 : Go.Vg.Spec := ⟨fun ds => ∃ l, ds = [d32 l] ∧ isD l, fun ds => .ints .u32 (woL (arrOf (ds.headD default))).l, false, [31]⟩
def sp14 : Go.Vg.Spec := ⟨fun ds => ∃ l n, ds = [d32 l, u64 ((n : Nat) : Int)] ∧ isD l ∧ n < 18446744073709551616,
  fun ds => .tup [stD (rsS (arrOf (ds.headD default)) (numOf (ds.getD 1 default)).toNat), .val (.int .i64 (rsE (numOf (ds.getD 1 default)).toNat))], true, [31, 23]⟩
def sp9 : Go.Vg.Spec := ⟨fun ds => ∃ p, ds = [.ints .u8 p] ∧ isBytes p ∧ p.length ≤ 1000000000000000, fun ds => d32 (digL (intsOf (ds.headD default))), true, [22]⟩
def sp10 : Go.Vg.Spec := ⟨fun ds => ∃ p, ds = [.str p] ∧ isBytes p ∧ p.length ≤ 1000000000000000, fun ds => d32 (digL (strOf (ds.headD default))), true, [9]⟩
def c13 : Ctx := ⟨tab, lkS [(8, sp8), (11, sp11)], [], []⟩
def c15 : Ctx := ⟨tab, lkS [(12, sp12), (29, sp29)], [], []⟩
def c16 : Ctx := ⟨tab, fun _ => none, [3], []⟩
def c14 : Ctx := ⟨tab, lkS [(7, sp7), (28, sp28)], [], []⟩
def c9 : Ctx := ⟨tab, lkS [(7, sp7), (8, sp8), (13, sp13)], [], []⟩
def c10 : Ctx := ⟨tab, lkS [(27, sp27), (15, sp15)], [], []⟩
def inv13 (s : HS) : Nat → Option Inv
  | 4 => some ⟨Nat, fun i => [(13, .d (i64 i))], fun i => [(3, .fix (d32 ((sumL s).take (4 * i) ++ List.replicate (32 - 4 * i) 0)))], fun s => (slotN s 13).toNat, fun _ i => i ≤ 8, fun i => 8 - i⟩
  | _ => none
def fullL (n : Nat) (p : List Int) : List Int := p ++ padL ((n + p.length) % 18446744073709551616)
def inv15 (x : R8) (n : Nat) (p : List Int) : Nat → Option Inv
  | 3 => some ⟨Nat, fun k => [(7, .d (i64 ((64 * k : Nat) : Int))), (0, .d (.ints .u32 (fhK x (fullL n p) k).l))], fun _ => [], fun s => (slotN s 7).toNat / 64, fun _ k => k ≤ (fullL n p).length / 64, fun k => (fullL n p).length / 64 - k⟩
  | 8 => some ⟨Nat, fun i => [(31, .d (i64 i))], fun i => [(8, .fix (d32 ((fromL x n p).take i ++ List.replicate (32 - i) 0)))], fun s => (slotN s 31).toNat, fun _ i => i ≤ 32, fun i => 32 - i⟩
  | _ => none
def inv16 (l : List Int) : Nat → Option Inv
  | 3 => some ⟨Nat, fun i => [(4, .d (i64 ((4 * i : Nat) : Int))), (3, .row 3)], fun i => [(3, .row 24 (.ints .u32 (wl l i)))], fun s => (slotN s 4).toNat / 4, fun _ i => i ≤ 8, fun i => 8 - i⟩
  | _ => none
def woI (l : List Int) (i : Nat) : List Int := (woL l).l.take i ++ iv.l.drop i
def inv14 (l : List Int) (n : Nat) : Nat → Option Inv
  | 6 => some ⟨Nat, fun i => [(15, .d (i64 i))], fun i => [(6, .fix (.st [a8 (woI l i), u64 (n : Int), .arr .u8 64 (List.replicate 64 0)]))], fun s => (slotN s 15).toNat, fun _ i => i ≤ 8, fun i => 8 - i⟩
  | _ => none
--KEEP ofR BitVec.toNat prL pr Go.Proofs.YtcdjhhepgkcabaaDoor.R8.l wrS ofS okS padL fhK outL sumL fromL digL woL wl woI iv st0 rsS rsE wat fullL
set_option maxRecDepth 100000 in
theorem vc7  (F : D)  :
    (owed c0 (fun _ => none) Tryd.f7 [] F) = (
 (True ∧ (73 : Nat) ≠ (0 : Nat)) ∧
   ((1 : Nat) = (1 : Nat) ∧
     false = false ∧
      ((0 : Nat) < (8 : Nat) ∧ ([] : List Nat) = [] ∧ true = true) ∧
       false = false ∧
        ((1 : Nat) < (8 : Nat) ∧ ([] : List Nat) = [] ∧ true = true) ∧
         false = false ∧
          ((2 : Nat) < (8 : Nat) ∧ ([] : List Nat) = [] ∧ true = true) ∧
           false = false ∧ ((3 : Nat) < (8 : Nat) ∧ ([] : List Nat) = [] ∧ true = true) ∧ false = false ∧ ((4 : Nat) < (8 : Nat) ∧ ([] : List Nat) = [] ∧ true = true) ∧ false = false ∧ ((5 : Nat) < (8 : Nat) ∧ ([] : List Nat) = [] ∧ true = true) ∧ false = false ∧ ((6 : Nat) < (8 : Nat) ∧ ([] : List Nat) = [] ∧ true = true) ∧ false = false ∧ ((7 : Nat) < (8 : Nat) ∧ ([] : List Nat) = [] ∧ true = true) ∧ True) ∧
    (false = false ∧ ((0 : Nat) < (3 : Nat) ∧ Sk.arr (8 : Nat) = Sk.arr (8 : Nat)) ∧ True) ∧
     (Sk.st [Sk.arr (8 : Nat), Sk.one, Sk.arr (64 : Nat)] = Sk.st [Sk.arr (8 : Nat), Sk.one, Sk.arr (64 : Nat)] ∧ (73 : Nat) ≠ (0 : Nat) ∧ (73 : Nat) = (73 : Nat) ∧ false = false) ∧
      (((73 : Nat) ≠ (0 : Nat) ∧ (73 : Nat) = (73 : Nat) ∧ true = true) ∧ True) ∧
       D.st
         [D.arr IntKind.u32 (8 : Nat) [(1779033703 : Int), (3144134277 : Int), (1013904242 : Int), (2773480762 : Int), (1359893119 : Int), (2600822924 : Int), (528734635 : Int), (1541459225 : Int)], D.val (Value.int IntKind.u64 (0 : Int)),
          D.arr IntKind.u8 (64 : Nat)
           (List.replicate (64 : Nat) (0 : Int))] =
        F) := by kernel_rfl
set_option maxRecDepth 100000 in
theorem vc13  (s : HS) (F : D)  :
    (owed c13 (inv13 s) Tryd.f13 [stD s] F) = (
 (True ∧ false = false) ∧
   (True ∧ (32 : Nat) ≠ (0 : Nat)) ∧
    ((73 : Nat) ≠ (0 : Nat) ∧ (73 : Nat) = (73 : Nat) ∧ true = true) ∧
     (Sk.st [Sk.arr (8 : Nat), Sk.one, Sk.arr (64 : Nat)] = Sk.st [Sk.arr (8 : Nat), Sk.one, Sk.arr (64 : Nat)] ∧ (1 : Nat) < (3 : Nat)) ∧
      ((1 : Nat) ≠ (0 : Nat) ∧ (1 : Nat) = (1 : Nat) ∧ false = false) ∧
       (∃ (n : Nat), [D.val (Value.int IntKind.u64 (↑s.n : Int))] = [D.val (Value.int IntKind.u64 (↑n : Int))] ∧ n < (18446744073709551616 : Nat)) ∧
        (∃ (s_1 : HS),
          ∃ (p : List Int),
           [D.st [D.arr IntKind.u32 (8 : Nat) s.h.l, D.val (Value.int IntKind.u64 (↑s.n : Int)), D.arr IntKind.u8 (64 : Nat) s.l], D.ints IntKind.u8 (padL (↑s.n : Int).toNat)] = [D.st [D.arr IntKind.u32 (8 : Nat) s_1.h.l, D.val (Value.int IntKind.u64 (↑s_1.n : Int)), D.arr IntKind.u8 (64 : Nat) s_1.l], D.ints IntKind.u8 p] ∧ okS s_1 ∧ isBytes p ∧ p.length ≤ (1000000000000000 : Nat)) ∧
         (Sk.st [Sk.arr (8 : Nat), Sk.one, Sk.arr (64 : Nat)] = Sk.st [Sk.arr (8 : Nat), Sk.one, Sk.arr (64 : Nat)] ∧ (73 : Nat) ≠ (0 : Nat) ∧ (73 : Nat) = (73 : Nat) ∧ false = false) ∧
          (True ∧ (32 : Nat) ≠ (0 : Nat)) ∧
           (Sk.st [Sk.arr (8 : Nat), Sk.one, Sk.arr (64 : Nat)] = Sk.st [Sk.arr (8 : Nat), Sk.one, Sk.arr (64 : Nat)] ∧ (0 : Nat) < (3 : Nat)) ∧
            ((8 : Nat) ≠ (0 : Nat) ∧ (8 : Nat) = (8 : Nat) ∧ true = true) ∧
             True ∧
              (((AV.d (D.val (Value.int IntKind.i64 (0 : Int))) = AV.d (D.val (Value.int IntKind.i64 (↑(Int.toNat (0 : Int)) : Int))) ∧ True) ∧
                 (some
                     (Blk.fix
                      (D.st
                       [D.arr IntKind.u32 (8 : Nat) (wrS (ofS (D.st [D.arr IntKind.u32 (8 : Nat) s.h.l, D.val (Value.int IntKind.u64 (↑s.n : Int)), D.arr IntKind.u8 (64 : Nat) s.l])) (padL (↑s.n : Int).toNat)).h.l,
                        D.val (Value.int IntKind.u64 (↑(wrS (ofS (D.st [D.arr IntKind.u32 (8 : Nat) s.h.l, D.val (Value.int IntKind.u64 (↑s.n : Int)), D.arr IntKind.u8 (64 : Nat) s.l])) (padL (↑s.n : Int).toNat)).n : Int)),
                        D.arr IntKind.u8 (64 : Nat) (wrS (ofS (D.st [D.arr IntKind.u32 (8 : Nat) s.h.l, D.val (Value.int IntKind.u64 (↑s.n : Int)), D.arr IntKind.u8 (64 : Nat) s.l])) (padL (↑s.n : Int).toNat)).l])) =
                    some
                     (Blk.fix
                      (D.st
                       [D.arr IntKind.u32 (8 : Nat) (wrS (ofS (D.st [D.arr IntKind.u32 (8 : Nat) s.h.l, D.val (Value.int IntKind.u64 (↑s.n : Int)), D.arr IntKind.u8 (64 : Nat) s.l])) (padL (↑s.n : Int).toNat)).h.l,
                        D.val (Value.int IntKind.u64 (↑(wrS (ofS (D.st [D.arr IntKind.u32 (8 : Nat) s.h.l, D.val (Value.int IntKind.u64 (↑s.n : Int)), D.arr IntKind.u8 (64 : Nat) s.l])) (padL (↑s.n : Int).toNat)).n : Int)),
                        D.arr IntKind.u8 (64 : Nat) (wrS (ofS (D.st [D.arr IntKind.u32 (8 : Nat) s.h.l, D.val (Value.int IntKind.u64 (↑s.n : Int)), D.arr IntKind.u8 (64 : Nat) s.l])) (padL (↑s.n : Int).toNat)).l])) ∧
                   some
                      (Blk.fix
                       (D.arr IntKind.u8 (32 : Nat)
                        [(0 : Int), (0 : Int), (0 : Int), (0 : Int), (0 : Int), (0 : Int), (0 : Int), (0 : Int), (0 : Int), (0 : Int), (0 : Int), (0 : Int), (0 : Int), (0 : Int), (0 : Int), (0 : Int), (0 : Int), (0 : Int), (0 : Int), (0 : Int), (0 : Int), (0 : Int), (0 : Int), (0 : Int), (0 : Int), (0 : Int), (0 : Int), (0 : Int), (0 : Int), (0 : Int), (0 : Int),
                         (0 : Int)])) =
                     some
                      (Blk.fix
                       (D.arr IntKind.u8 (32 : Nat)
                        [(0 : Int), (0 : Int), (0 : Int), (0 : Int), (0 : Int), (0 : Int), (0 : Int), (0 : Int), (0 : Int), (0 : Int), (0 : Int), (0 : Int), (0 : Int), (0 : Int), (0 : Int), (0 : Int), (0 : Int), (0 : Int), (0 : Int), (0 : Int), (0 : Int), (0 : Int), (0 : Int), (0 : Int), (0 : Int), (0 : Int), (0 : Int), (0 : Int), (0 : Int), (0 : Int), (0 : Int),
                         (0 : Int)])) ∧
                    some
                       (Blk.fix
                        (D.arr IntKind.u8 (32 : Nat)
                         [(0 : Int), (0 : Int), (0 : Int), (0 : Int), (0 : Int), (0 : Int), (0 : Int), (0 : Int), (0 : Int), (0 : Int), (0 : Int), (0 : Int), (0 : Int), (0 : Int), (0 : Int), (0 : Int), (0 : Int), (0 : Int), (0 : Int), (0 : Int), (0 : Int), (0 : Int), (0 : Int), (0 : Int), (0 : Int), (0 : Int), (0 : Int), (0 : Int), (0 : Int), (0 : Int), (0 : Int),
                          (0 : Int)])) =
                      some
                       (Blk.fix
                        (D.arr IntKind.u8 (32 : Nat)
                         (List.take (0 : Nat) (sumL s) ++
                          [(0 : Int), (0 : Int), (0 : Int), (0 : Int), (0 : Int), (0 : Int), (0 : Int), (0 : Int), (0 : Int), (0 : Int), (0 : Int), (0 : Int), (0 : Int), (0 : Int), (0 : Int), (0 : Int), (0 : Int), (0 : Int), (0 : Int), (0 : Int), (0 : Int), (0 : Int), (0 : Int), (0 : Int), (0 : Int), (0 : Int), (0 : Int), (0 : Int), (0 : Int), (0 : Int), (0 : Int),
                           (0 : Int)]))) ∧
                     True) ∧
                  true = true) ∧
                Int.toNat (0 : Int) ≤ (8 : Nat)) ∧
               ∀ (x : Nat),
                x ≤ (8 : Nat) →
                 true = true ∧
                  True ∧
                   match decide ((↑x : Int) < (8 : Int)) with
                   | true =>
                    True ∧
                     ((0 : Int) ≤ (↑x : Int) ∧ (↑x : Int) < (↑(8 : Nat) : Int) ∧ (8 : Nat) = (8 : Nat) ∧ Ty.int IntKind.u32 = Ty.int IntKind.u32 ∧ (1 : Nat) = (1 : Nat)) ∧
                      True ∧
                       True ∧
                        True ∧
                         True ∧
                          True ∧
                           True ∧
                            True ∧
                             True ∧
                              True ∧
                               True ∧
                                True ∧
                                 True ∧
                                  True ∧
                                   True ∧
                                    (0 : Int) ≤ (24 : Int) ∧
                                     True ∧
                                      True ∧
                                       (0 : Int) ≤ (16 : Int) ∧
                                        True ∧
                                         True ∧
                                          (0 : Int) ≤ (8 : Int) ∧
                                           True ∧
                                            True ∧
                                             True ∧
                                              ((0 : Int) ≤ IntKind.i64.wrap ((4 : Int) * (↑x : Int)) ∧ IntKind.i64.wrap ((4 : Int) * (↑x : Int)) < (↑(32 : Nat) : Int) ∧ (32 : Nat) = (32 : Nat) ∧ (1 : Nat) = (1 : Nat)) ∧
                                               (((IntKind.i64.wrap ((4 : Int) * (↑x : Int))).toNat < (32 : Nat) ∧ ([] : List Nat) = [] ∧ true = true) ∧ (1 : Nat) ≠ (0 : Nat) ∧ (1 : Nat) = (1 : Nat) ∧ false = false) ∧
                                                ((0 : Int) ≤ IntKind.i64.wrap (IntKind.i64.wrap ((4 : Int) * (↑x : Int)) + (1 : Int)) ∧ IntKind.i64.wrap (IntKind.i64.wrap ((4 : Int) * (↑x : Int)) + (1 : Int)) < (↑(32 : Nat) : Int) ∧ (32 : Nat) = (32 : Nat) ∧ (1 : Nat) = (1 : Nat)) ∧
                                                 (((IntKind.i64.wrap (IntKind.i64.wrap ((4 : Int) * (↑x : Int)) + (1 : Int))).toNat < (32 : Nat) ∧ ([] : List Nat) = [] ∧ true = true) ∧ (1 : Nat) ≠ (0 : Nat) ∧ (1 : Nat) = (1 : Nat) ∧ false = false) ∧
                                                  ((0 : Int) ≤ IntKind.i64.wrap (IntKind.i64.wrap ((4 : Int) * (↑x : Int)) + (2 : Int)) ∧ IntKind.i64.wrap (IntKind.i64.wrap ((4 : Int) * (↑x : Int)) + (2 : Int)) < (↑(32 : Nat) : Int) ∧ (32 : Nat) = (32 : Nat) ∧ (1 : Nat) = (1 : Nat)) ∧
                                                   (((IntKind.i64.wrap (IntKind.i64.wrap ((4 : Int) * (↑x : Int)) + (2 : Int))).toNat < (32 : Nat) ∧ ([] : List Nat) = [] ∧ true = true) ∧ (1 : Nat) ≠ (0 : Nat) ∧ (1 : Nat) = (1 : Nat) ∧ false = false) ∧
                                                    ((0 : Int) ≤ IntKind.i64.wrap (IntKind.i64.wrap ((4 : Int) * (↑x : Int)) + (3 : Int)) ∧ IntKind.i64.wrap (IntKind.i64.wrap ((4 : Int) * (↑x : Int)) + (3 : Int)) < (↑(32 : Nat) : Int) ∧ (32 : Nat) = (32 : Nat) ∧ (1 : Nat) = (1 : Nat)) ∧
                                                     (((IntKind.i64.wrap (IntKind.i64.wrap ((4 : Int) * (↑x : Int)) + (3 : Int))).toNat < (32 : Nat) ∧ ([] : List Nat) = [] ∧ true = true) ∧ (1 : Nat) ≠ (0 : Nat) ∧ (1 : Nat) = (1 : Nat) ∧ false = false) ∧
                                                      True ∧
                                                       True ∧
                                                        ((AV.d (D.val (Value.int IntKind.i64 (IntKind.i64.wrap ((↑x : Int) + (1 : Int))))) = AV.d (D.val (Value.int IntKind.i64 (↑(IntKind.i64.wrap ((↑x : Int) + (1 : Int))).toNat : Int))) ∧ True) ∧
                                                          (some
                                                              (Blk.fix
                                                               (D.st
                                                                [D.arr IntKind.u32 (8 : Nat) (wrS (ofS (D.st [D.arr IntKind.u32 (8 : Nat) s.h.l, D.val (Value.int IntKind.u64 (↑s.n : Int)), D.arr IntKind.u8 (64 : Nat) s.l])) (padL (↑s.n : Int).toNat)).h.l,
                                                                 D.val (Value.int IntKind.u64 (↑(wrS (ofS (D.st [D.arr IntKind.u32 (8 : Nat) s.h.l, D.val (Value.int IntKind.u64 (↑s.n : Int)), D.arr IntKind.u8 (64 : Nat) s.l])) (padL (↑s.n : Int).toNat)).n : Int)),
                                                                 D.arr IntKind.u8 (64 : Nat) (wrS (ofS (D.st [D.arr IntKind.u32 (8 : Nat) s.h.l, D.val (Value.int IntKind.u64 (↑s.n : Int)), D.arr IntKind.u8 (64 : Nat) s.l])) (padL (↑s.n : Int).toNat)).l])) =
                                                             some
                                                              (Blk.fix
                                                               (D.st
                                                                [D.arr IntKind.u32 (8 : Nat) (wrS (ofS (D.st [D.arr IntKind.u32 (8 : Nat) s.h.l, D.val (Value.int IntKind.u64 (↑s.n : Int)), D.arr IntKind.u8 (64 : Nat) s.l])) (padL (↑s.n : Int).toNat)).h.l,
                                                                 D.val (Value.int IntKind.u64 (↑(wrS (ofS (D.st [D.arr IntKind.u32 (8 : Nat) s.h.l, D.val (Value.int IntKind.u64 (↑s.n : Int)), D.arr IntKind.u8 (64 : Nat) s.l])) (padL (↑s.n : Int).toNat)).n : Int)),
                                                                 D.arr IntKind.u8 (64 : Nat) (wrS (ofS (D.st [D.arr IntKind.u32 (8 : Nat) s.h.l, D.val (Value.int IntKind.u64 (↑s.n : Int)), D.arr IntKind.u8 (64 : Nat) s.l])) (padL (↑s.n : Int).toNat)).l])) ∧
                                                            some
                                                               (Blk.fix
                                                                (D.arr IntKind.u8 (32 : Nat)
                                                                 [(0 : Int), (0 : Int), (0 : Int), (0 : Int), (0 : Int), (0 : Int), (0 : Int), (0 : Int), (0 : Int), (0 : Int), (0 : Int), (0 : Int), (0 : Int), (0 : Int), (0 : Int), (0 : Int), (0 : Int), (0 : Int), (0 : Int), (0 : Int), (0 : Int), (0 : Int), (0 : Int), (0 : Int),
                                                                  (0 : Int), (0 : Int), (0 : Int), (0 : Int), (0 : Int), (0 : Int), (0 : Int), (0 : Int)])) =
                                                              some
                                                               (Blk.fix
                                                                (D.arr IntKind.u8 (32 : Nat)
                                                                 [(0 : Int), (0 : Int), (0 : Int), (0 : Int), (0 : Int), (0 : Int), (0 : Int), (0 : Int), (0 : Int), (0 : Int), (0 : Int), (0 : Int), (0 : Int), (0 : Int), (0 : Int), (0 : Int), (0 : Int), (0 : Int), (0 : Int), (0 : Int), (0 : Int), (0 : Int), (0 : Int), (0 : Int),
                                                                  (0 : Int), (0 : Int), (0 : Int), (0 : Int), (0 : Int), (0 : Int), (0 : Int), (0 : Int)])) ∧
                                                             some
                                                                (Blk.fix
                                                                 (D.arr IntKind.u8 (32 : Nat)
                                                                  (((((List.take ((4 : Nat) * x) (sumL s) ++ List.replicate ((32 : Nat) - (4 : Nat) * x) (0 : Int)).set (IntKind.i64.wrap ((4 : Int) * (↑x : Int))).toNat
                                                                         (IntKind.u8.wrap (ishr IntKind.u32 ((wrS (ofS (D.st [D.arr IntKind.u32 (8 : Nat) s.h.l, D.val (Value.int IntKind.u64 (↑s.n : Int)), D.arr IntKind.u8 (64 : Nat) s.l])) (padL (↑s.n : Int).toNat)).h.l.getD (↑x : Int).toNat (0 : Int)) (24 : Int)))).set
                                                                       (IntKind.i64.wrap (IntKind.i64.wrap ((4 : Int) * (↑x : Int)) + (1 : Int))).toNat
                                                                       (IntKind.u8.wrap (ishr IntKind.u32 ((wrS (ofS (D.st [D.arr IntKind.u32 (8 : Nat) s.h.l, D.val (Value.int IntKind.u64 (↑s.n : Int)), D.arr IntKind.u8 (64 : Nat) s.l])) (padL (↑s.n : Int).toNat)).h.l.getD (↑x : Int).toNat (0 : Int)) (16 : Int)))).set
                                                                     (IntKind.i64.wrap (IntKind.i64.wrap ((4 : Int) * (↑x : Int)) + (2 : Int))).toNat
                                                                     (IntKind.u8.wrap (ishr IntKind.u32 ((wrS (ofS (D.st [D.arr IntKind.u32 (8 : Nat) s.h.l, D.val (Value.int IntKind.u64 (↑s.n : Int)), D.arr IntKind.u8 (64 : Nat) s.l])) (padL (↑s.n : Int).toNat)).h.l.getD (↑x : Int).toNat (0 : Int)) (8 : Int)))).set
                                                                   (IntKind.i64.wrap (IntKind.i64.wrap ((4 : Int) * (↑x : Int)) + (3 : Int))).toNat
                                                                   (IntKind.u8.wrap ((wrS (ofS (D.st [D.arr IntKind.u32 (8 : Nat) s.h.l, D.val (Value.int IntKind.u64 (↑s.n : Int)), D.arr IntKind.u8 (64 : Nat) s.l])) (padL (↑s.n : Int).toNat)).h.l.getD (↑x : Int).toNat (0 : Int)))))) =
                                                               some (Blk.fix (D.arr IntKind.u8 (32 : Nat) (List.take ((4 : Nat) * (IntKind.i64.wrap ((↑x : Int) + (1 : Int))).toNat) (sumL s) ++ List.replicate ((32 : Nat) - (4 : Nat) * (IntKind.i64.wrap ((↑x : Int) + (1 : Int))).toNat) (0 : Int)))) ∧
                                                              True) ∧
                                                           true = true) ∧
                                                         (IntKind.i64.wrap ((↑x : Int) + (1 : Int))).toNat ≤ (8 : Nat) ∧ (8 : Nat) - (IntKind.i64.wrap ((↑x : Int) + (1 : Int))).toNat < (8 : Nat) - x
                   | false =>
                    ((32 : Nat) ≠ (0 : Nat) ∧ (32 : Nat) = (32 : Nat) ∧ true = true) ∧
                     (Sk.arr (32 : Nat) = Sk.arr (32 : Nat) ∧ (32 : Nat) ≠ (0 : Nat) ∧ (32 : Nat) = (32 : Nat) ∧ false = false) ∧ (((32 : Nat) ≠ (0 : Nat) ∧ (32 : Nat) = (32 : Nat) ∧ true = true) ∧ True) ∧ D.arr IntKind.u8 (32 : Nat) (List.take ((4 : Nat) * x) (sumL s) ++ List.replicate ((32 : Nat) - (4 : Nat) * x) (0 : Int)) = F) := by kernel_rfl
set_option maxRecDepth 100000 in
theorem vc27  (F : D)  :
    (owed c0 (fun _ => none) Tryd.f27 [] F) = (
 True ∧ ((1 : Nat) = (1 : Nat) ∧ (8 : Nat) ≤ (4096 : Nat)) ∧ True ∧ (false = false ∧ True) ∧ D.ints IntKind.u32 [(1779033703 : Int), (3144134277 : Int), (1013904242 : Int), (2773480762 : Int), (1359893119 : Int), (2600822924 : Int), (528734635 : Int), (1541459225 : Int)] = F) := by kernel_rfl
set_option maxRecDepth 100000 in
theorem vc15  (x : R8) (n : Nat) (p : List Int) (F : D)  :
    (owed c15 (inv15 x n p) Tryd.f15 [.ints .u32 x.l, u64 (n : Int), .str p] F) = (
 (True ∧ (32 : Nat) ≠ (0 : Nat)) ∧
   True ∧
    True ∧
     True ∧
      True ∧
       True ∧
        True ∧
         (∃ (n_1 : Nat), [D.val (Value.int IntKind.u64 (IntKind.u64.wrap ((↑n : Int) + IntKind.u64.wrap (↑p.length : Int))))] = [D.val (Value.int IntKind.u64 (↑n_1 : Int))] ∧ n_1 < (18446744073709551616 : Nat)) ∧
          (↑(p.length + (padL (IntKind.u64.wrap ((↑n : Int) + IntKind.u64.wrap (↑p.length : Int))).toNat).length) : Int) ≤ (9223372036854775807 : Int) ∧
           True ∧
            True ∧
             (((AV.d (D.val (Value.int IntKind.i64 (0 : Int))) = AV.d (D.val (Value.int IntKind.i64 (↑(0 : Nat) : Int))) ∧ AV.d (D.ints IntKind.u32 x.l) = AV.d (D.ints IntKind.u32 (fhK x (fullL n p) (0 / 64 : Nat)).l) ∧ True) ∧
                (some
                    (Blk.fix
                     (D.arr IntKind.u8 (32 : Nat)
                      [(0 : Int), (0 : Int), (0 : Int), (0 : Int), (0 : Int), (0 : Int), (0 : Int), (0 : Int), (0 : Int), (0 : Int), (0 : Int), (0 : Int), (0 : Int), (0 : Int), (0 : Int), (0 : Int), (0 : Int), (0 : Int), (0 : Int), (0 : Int), (0 : Int), (0 : Int), (0 : Int), (0 : Int), (0 : Int), (0 : Int), (0 : Int), (0 : Int), (0 : Int), (0 : Int), (0 : Int), (0 : Int)])) =
                   some
                    (Blk.fix
                     (D.arr IntKind.u8 (32 : Nat)
                      [(0 : Int), (0 : Int), (0 : Int), (0 : Int), (0 : Int), (0 : Int), (0 : Int), (0 : Int), (0 : Int), (0 : Int), (0 : Int), (0 : Int), (0 : Int), (0 : Int), (0 : Int), (0 : Int), (0 : Int), (0 : Int), (0 : Int), (0 : Int), (0 : Int), (0 : Int), (0 : Int), (0 : Int), (0 : Int), (0 : Int), (0 : Int), (0 : Int), (0 : Int), (0 : Int), (0 : Int), (0 : Int)])) ∧
                  True) ∧
                 true = true) ∧
               (0 / 64 : Nat) ≤ (fullL n p).length / (64 : Nat)) ∧
              ∀ (x_1 : Nat),
               x_1 ≤ (fullL n p).length / (64 : Nat) →
                true = true ∧
                 True ∧
                  True ∧
                   True ∧
                    True ∧
                     match decide ((↑((64 : Nat) * x_1) : Int) < (↑(p ++ padL (IntKind.u64.wrap ((↑n : Int) + IntKind.u64.wrap (↑p.length : Int))).toNat).length : Int)) with
                     | true =>
                      True ∧
                       True ∧
                        True ∧
                         True ∧
                          True ∧
                           ((0 : Int) ≤ (↑((64 : Nat) * x_1) : Int) ∧ (↑((64 : Nat) * x_1) : Int) ≤ IntKind.i64.wrap ((↑((64 : Nat) * x_1) : Int) + (64 : Int)) ∧ IntKind.i64.wrap ((↑((64 : Nat) * x_1) : Int) + (64 : Int)) ≤ (↑(p ++ padL (IntKind.u64.wrap ((↑n : Int) + IntKind.u64.wrap (↑p.length : Int))).toNat).length : Int)) ∧
                            (∃ (x_2 : R8),
                              ∃ (l : List Int),
                               [D.ints IntKind.u32 (fhK x (fullL n p) x_1).l, D.str (List.drop (↑((64 : Nat) * x_1) : Int).toNat (List.take (IntKind.i64.wrap ((↑((64 : Nat) * x_1) : Int) + (64 : Int))).toNat (p ++ padL (IntKind.u64.wrap ((↑n : Int) + IntKind.u64.wrap (↑p.length : Int))).toNat)))] = [D.ints IntKind.u32 x_2.l, D.str l] ∧
                                isBytes l ∧ l.length = (64 : Nat)) ∧
                             True ∧
                              True ∧
                               True ∧
                                True ∧
                                 ((AV.d (D.val (Value.int IntKind.i64 (IntKind.i64.wrap ((↑((64 : Nat) * x_1) : Int) + (64 : Int))))) = AV.d (D.val (Value.int IntKind.i64 (↑((64 : Nat) * ((IntKind.i64.wrap ((↑((64 : Nat) * x_1) : Int) + (64 : Int))).toNat / (64 : Nat))) : Int))) ∧
                                    AV.d (D.ints IntKind.u32 (prL (fhK x (fullL n p) x_1).l (List.drop (↑((64 : Nat) * x_1) : Int).toNat (List.take (IntKind.i64.wrap ((↑((64 : Nat) * x_1) : Int) + (64 : Int))).toNat (p ++ padL (IntKind.u64.wrap ((↑n : Int) + IntKind.u64.wrap (↑p.length : Int))).toNat))))) =
                                      AV.d (D.ints IntKind.u32 (fhK x (fullL n p) ((IntKind.i64.wrap ((↑((64 : Nat) * x_1) : Int) + (64 : Int))).toNat / (64 : Nat))).l) ∧
                                     True) ∧
                                   (some
                                       (Blk.fix
                                        (D.arr IntKind.u8 (32 : Nat)
                                         [(0 : Int), (0 : Int), (0 : Int), (0 : Int), (0 : Int), (0 : Int), (0 : Int), (0 : Int), (0 : Int), (0 : Int), (0 : Int), (0 : Int), (0 : Int), (0 : Int), (0 : Int), (0 : Int), (0 : Int), (0 : Int), (0 : Int), (0 : Int), (0 : Int), (0 : Int), (0 : Int), (0 : Int), (0 : Int), (0 : Int), (0 : Int), (0 : Int), (0 : Int),
                                          (0 : Int), (0 : Int), (0 : Int)])) =
                                      some
                                       (Blk.fix
                                        (D.arr IntKind.u8 (32 : Nat)
                                         [(0 : Int), (0 : Int), (0 : Int), (0 : Int), (0 : Int), (0 : Int), (0 : Int), (0 : Int), (0 : Int), (0 : Int), (0 : Int), (0 : Int), (0 : Int), (0 : Int), (0 : Int), (0 : Int), (0 : Int), (0 : Int), (0 : Int), (0 : Int), (0 : Int), (0 : Int), (0 : Int), (0 : Int), (0 : Int), (0 : Int), (0 : Int), (0 : Int), (0 : Int),
                                          (0 : Int), (0 : Int), (0 : Int)])) ∧
                                     True) ∧
                                    true = true) ∧
                                  (IntKind.i64.wrap ((↑((64 : Nat) * x_1) : Int) + (64 : Int))).toNat / (64 : Nat) ≤ (fullL n p).length / (64 : Nat) ∧ (fullL n p).length / (64 : Nat) - (IntKind.i64.wrap ((↑((64 : Nat) * x_1) : Int) + (64 : Int))).toNat / (64 : Nat) < (fullL n p).length / (64 : Nat) - x_1
                     | false =>
                      (True ∧ (32 : Nat) ≠ (0 : Nat)) ∧
                       True ∧
                        (((AV.d (D.val (Value.int IntKind.i64 (0 : Int))) = AV.d (D.val (Value.int IntKind.i64 (↑(Int.toNat (0 : Int)) : Int))) ∧ True) ∧
                           (some
                               (Blk.fix
                                (D.arr IntKind.u8 (32 : Nat)
                                 [(0 : Int), (0 : Int), (0 : Int), (0 : Int), (0 : Int), (0 : Int), (0 : Int), (0 : Int), (0 : Int), (0 : Int), (0 : Int), (0 : Int), (0 : Int), (0 : Int), (0 : Int), (0 : Int), (0 : Int), (0 : Int), (0 : Int), (0 : Int), (0 : Int), (0 : Int), (0 : Int), (0 : Int), (0 : Int), (0 : Int), (0 : Int), (0 : Int), (0 : Int), (0 : Int),
                                  (0 : Int), (0 : Int)])) =
                              some
                               (Blk.fix
                                (D.arr IntKind.u8 (32 : Nat)
                                 [(0 : Int), (0 : Int), (0 : Int), (0 : Int), (0 : Int), (0 : Int), (0 : Int), (0 : Int), (0 : Int), (0 : Int), (0 : Int), (0 : Int), (0 : Int), (0 : Int), (0 : Int), (0 : Int), (0 : Int), (0 : Int), (0 : Int), (0 : Int), (0 : Int), (0 : Int), (0 : Int), (0 : Int), (0 : Int), (0 : Int), (0 : Int), (0 : Int), (0 : Int), (0 : Int),
                                  (0 : Int), (0 : Int)])) ∧
                             some
                                (Blk.fix
                                 (D.arr IntKind.u8 (32 : Nat)
                                  [(0 : Int), (0 : Int), (0 : Int), (0 : Int), (0 : Int), (0 : Int), (0 : Int), (0 : Int), (0 : Int), (0 : Int), (0 : Int), (0 : Int), (0 : Int), (0 : Int), (0 : Int), (0 : Int), (0 : Int), (0 : Int), (0 : Int), (0 : Int), (0 : Int), (0 : Int), (0 : Int), (0 : Int), (0 : Int), (0 : Int), (0 : Int), (0 : Int), (0 : Int), (0 : Int),
                                   (0 : Int), (0 : Int)])) =
                               some
                                (Blk.fix
                                 (D.arr IntKind.u8 (32 : Nat)
                                  (List.take (Int.toNat (0 : Int)) (fromL x n p) ++
                                   [(0 : Int), (0 : Int), (0 : Int), (0 : Int), (0 : Int), (0 : Int), (0 : Int), (0 : Int), (0 : Int), (0 : Int), (0 : Int), (0 : Int), (0 : Int), (0 : Int), (0 : Int), (0 : Int), (0 : Int), (0 : Int), (0 : Int), (0 : Int), (0 : Int), (0 : Int), (0 : Int), (0 : Int), (0 : Int), (0 : Int), (0 : Int), (0 : Int), (0 : Int), (0 : Int),
                                    (0 : Int), (0 : Int)]))) ∧
                              True) ∧
                            true = true) ∧
                          Int.toNat (0 : Int) ≤ (32 : Nat)) ∧
                         ∀ (x_2 : Nat),
                          x_2 ≤ (32 : Nat) →
                           true = true ∧
                            True ∧
                             match decide ((↑x_2 : Int) < (32 : Int)) with
                             | true =>
                              True ∧
                               True ∧
                                True ∧
                                 True ∧
                                  True ∧
                                   (4 : Int) ≠ (0 : Int) ∧
                                    ((0 : Int) ≤ IntKind.i64.wrap ((↑x_2 : Int).tdiv (4 : Int)) ∧ IntKind.i64.wrap ((↑x_2 : Int).tdiv (4 : Int)) < (↑(fhK x (fullL n p) x_1).l.length : Int) ∧ (1 : Nat) = (1 : Nat)) ∧
                                     ((1 : Nat) ≠ (0 : Nat) ∧ (1 : Nat) = (1 : Nat) ∧ false = false) ∧
                                      True ∧
                                       (4 : Int) ≠ (0 : Int) ∧
                                        True ∧
                                         True ∧
                                          (0 : Int) ≤ IntKind.i64.wrap ((24 : Int) - IntKind.i64.wrap ((8 : Int) * (↑x_2 : Int).tmod (4 : Int))) ∧
                                           True ∧
                                            ((0 : Int) ≤ (↑x_2 : Int) ∧ (↑x_2 : Int) < (↑(32 : Nat) : Int) ∧ (32 : Nat) = (32 : Nat) ∧ (1 : Nat) = (1 : Nat)) ∧
                                             (((↑x_2 : Int).toNat < (32 : Nat) ∧ ([] : List Nat) = [] ∧ true = true) ∧ (1 : Nat) ≠ (0 : Nat) ∧ (1 : Nat) = (1 : Nat) ∧ false = false) ∧
                                              True ∧
                                               True ∧
                                                ((AV.d (D.val (Value.int IntKind.i64 (IntKind.i64.wrap ((↑x_2 : Int) + (1 : Int))))) = AV.d (D.val (Value.int IntKind.i64 (↑(IntKind.i64.wrap ((↑x_2 : Int) + (1 : Int))).toNat : Int))) ∧ True) ∧
                                                  (some
                                                      (Blk.fix
                                                       (D.arr IntKind.u8 (32 : Nat)
                                                        [(0 : Int), (0 : Int), (0 : Int), (0 : Int), (0 : Int), (0 : Int), (0 : Int), (0 : Int), (0 : Int), (0 : Int), (0 : Int), (0 : Int), (0 : Int), (0 : Int), (0 : Int), (0 : Int), (0 : Int), (0 : Int), (0 : Int), (0 : Int), (0 : Int), (0 : Int), (0 : Int), (0 : Int), (0 : Int), (0 : Int),
                                                         (0 : Int), (0 : Int), (0 : Int), (0 : Int), (0 : Int), (0 : Int)])) =
                                                     some
                                                      (Blk.fix
                                                       (D.arr IntKind.u8 (32 : Nat)
                                                        [(0 : Int), (0 : Int), (0 : Int), (0 : Int), (0 : Int), (0 : Int), (0 : Int), (0 : Int), (0 : Int), (0 : Int), (0 : Int), (0 : Int), (0 : Int), (0 : Int), (0 : Int), (0 : Int), (0 : Int), (0 : Int), (0 : Int), (0 : Int), (0 : Int), (0 : Int), (0 : Int), (0 : Int), (0 : Int), (0 : Int),
                                                         (0 : Int), (0 : Int), (0 : Int), (0 : Int), (0 : Int), (0 : Int)])) ∧
                                                    some
                                                       (Blk.fix
                                                        (D.arr IntKind.u8 (32 : Nat)
                                                         ((List.take x_2 (fromL x n p) ++ List.replicate ((32 : Nat) - x_2) (0 : Int)).set (↑x_2 : Int).toNat
                                                          (IntKind.u8.wrap (ishr IntKind.u32 ((fhK x (fullL n p) x_1).l.getD (IntKind.i64.wrap ((↑x_2 : Int).tdiv (4 : Int))).toNat (0 : Int)) (IntKind.i64.wrap ((24 : Int) - IntKind.i64.wrap ((8 : Int) * (↑x_2 : Int).tmod (4 : Int))))))))) =
                                                      some (Blk.fix (D.arr IntKind.u8 (32 : Nat) (List.take (IntKind.i64.wrap ((↑x_2 : Int) + (1 : Int))).toNat (fromL x n p) ++ List.replicate ((32 : Nat) - (IntKind.i64.wrap ((↑x_2 : Int) + (1 : Int))).toNat) (0 : Int)))) ∧
                                                     True) ∧
                                                   true = true) ∧
                                                 (IntKind.i64.wrap ((↑x_2 : Int) + (1 : Int))).toNat ≤ (32 : Nat) ∧ (32 : Nat) - (IntKind.i64.wrap ((↑x_2 : Int) + (1 : Int))).toNat < (32 : Nat) - x_2
                             | false =>
                              ((32 : Nat) ≠ (0 : Nat) ∧ (32 : Nat) = (32 : Nat) ∧ true = true) ∧
                               (Sk.arr (32 : Nat) = Sk.arr (32 : Nat) ∧ (32 : Nat) ≠ (0 : Nat) ∧ (32 : Nat) = (32 : Nat) ∧ false = false) ∧ (((32 : Nat) ≠ (0 : Nat) ∧ (32 : Nat) = (32 : Nat) ∧ true = true) ∧ True) ∧ D.arr IntKind.u8 (32 : Nat) (List.take x_2 (fromL x n p) ++ List.replicate ((32 : Nat) - x_2) (0 : Int)) = F) := by kernel_rfl
set_option maxRecDepth 100000 in
theorem vc16  (l : List Int) (F : D)  :
    (owed c16 (inv16 l) Tryd.f16 [d32 l] F) = (
 (True ∧ false = false) ∧
   True ∧
    (1 : Nat) ≠ (0 : Nat) ∧
     True ∧
      (((AV.d (D.val (Value.int IntKind.i64 (0 : Int))) = AV.d (D.val (Value.int IntKind.i64 (↑(0 : Nat) : Int))) ∧ AV.row (3 : Nat) = AV.row (3 : Nat) ∧ True) ∧
         (some (Blk.fix (D.arr IntKind.u8 (32 : Nat) l)) = some (Blk.fix (D.arr IntKind.u8 (32 : Nat) l)) ∧ some (Blk.row (24 : TypeId) (D.ints IntKind.u32 [])) = some (Blk.row (24 : TypeId) (D.ints IntKind.u32 (wl l (0 / 4 : Nat)))) ∧ True) ∧ true = true) ∧
        (0 / 4 : Nat) ≤ (8 : Nat)) ∧
       ∀ (x : Nat),
        x ≤ (8 : Nat) →
         true = true ∧
          True ∧
           True ∧
            match decide ((↑((4 : Nat) * x) : Int) < (32 : Int)) with
            | true =>
             True ∧
              True ∧
               ((0 : Int) ≤ (↑((4 : Nat) * x) : Int) ∧ (↑((4 : Nat) * x) : Int) < (↑(32 : Nat) : Int) ∧ (32 : Nat) = (32 : Nat) ∧ (1 : Nat) = (1 : Nat)) ∧
                ((1 : Nat) ≠ (0 : Nat) ∧ (1 : Nat) = (1 : Nat) ∧ false = false) ∧
                 True ∧
                  True ∧
                   True ∧
                    True ∧
                     ((0 : Int) ≤ IntKind.i64.wrap ((↑((4 : Nat) * x) : Int) + (1 : Int)) ∧ IntKind.i64.wrap ((↑((4 : Nat) * x) : Int) + (1 : Int)) < (↑(32 : Nat) : Int) ∧ (32 : Nat) = (32 : Nat) ∧ (1 : Nat) = (1 : Nat)) ∧
                      ((1 : Nat) ≠ (0 : Nat) ∧ (1 : Nat) = (1 : Nat) ∧ false = false) ∧
                       True ∧
                        True ∧
                         True ∧
                          True ∧
                           True ∧
                            ((0 : Int) ≤ IntKind.i64.wrap ((↑((4 : Nat) * x) : Int) + (2 : Int)) ∧ IntKind.i64.wrap ((↑((4 : Nat) * x) : Int) + (2 : Int)) < (↑(32 : Nat) : Int) ∧ (32 : Nat) = (32 : Nat) ∧ (1 : Nat) = (1 : Nat)) ∧
                             ((1 : Nat) ≠ (0 : Nat) ∧ (1 : Nat) = (1 : Nat) ∧ false = false) ∧
                              True ∧
                               True ∧
                                True ∧
                                 True ∧
                                  True ∧
                                   ((0 : Int) ≤ IntKind.i64.wrap ((↑((4 : Nat) * x) : Int) + (3 : Int)) ∧ IntKind.i64.wrap ((↑((4 : Nat) * x) : Int) + (3 : Int)) < (↑(32 : Nat) : Int) ∧ (32 : Nat) = (32 : Nat) ∧ (1 : Nat) = (1 : Nat)) ∧
                                    ((1 : Nat) ≠ (0 : Nat) ∧ (1 : Nat) = (1 : Nat) ∧ false = false) ∧
                                     True ∧
                                      True ∧
                                       ((1 : Nat) = (1 : Nat) ∧ (1 : Nat) ≤ (4096 : Nat)) ∧
                                        ((24 : TypeId) = (24 : TypeId) ∧
                                          (42 : Nat) = (42 : Nat) ∧
                                           true = true ∧
                                            (wl l x ++
                                                [IntKind.u32.wrap
                                                  (IntKind.u32.wrap
                                                    (IntKind.u32.wrap (IntKind.u32.wrap (IntKind.u32.wrap (l.getD (↑((4 : Nat) * x) : Int).toNat (0 : Int)) * (16777216 : Int)) + IntKind.u32.wrap (IntKind.u32.wrap (l.getD (IntKind.i64.wrap ((↑((4 : Nat) * x) : Int) + (1 : Int))).toNat (0 : Int)) * (65536 : Int))) +
                                                     IntKind.u32.wrap (IntKind.u32.wrap (l.getD (IntKind.i64.wrap ((↑((4 : Nat) * x) : Int) + (2 : Int))).toNat (0 : Int)) * (256 : Int))) +
                                                   IntKind.u32.wrap (l.getD (IntKind.i64.wrap ((↑((4 : Nat) * x) : Int) + (3 : Int))).toNat (0 : Int)))]).length ≤
                                              (140737488355328 : Nat) ∧
                                             (wl l x ++
                                                  [IntKind.u32.wrap
                                                    (IntKind.u32.wrap
                                                      (IntKind.u32.wrap (IntKind.u32.wrap (IntKind.u32.wrap (l.getD (↑((4 : Nat) * x) : Int).toNat (0 : Int)) * (16777216 : Int)) + IntKind.u32.wrap (IntKind.u32.wrap (l.getD (IntKind.i64.wrap ((↑((4 : Nat) * x) : Int) + (1 : Int))).toNat (0 : Int)) * (65536 : Int))) +
                                                       IntKind.u32.wrap (IntKind.u32.wrap (l.getD (IntKind.i64.wrap ((↑((4 : Nat) * x) : Int) + (2 : Int))).toNat (0 : Int)) * (256 : Int))) +
                                                     IntKind.u32.wrap (l.getD (IntKind.i64.wrap ((↑((4 : Nat) * x) : Int) + (3 : Int))).toNat (0 : Int)))]).length *
                                                (4 : Nat) ≤
                                               (140737488355328 : Nat) ∧
                                              (1 : Nat) ≠ (0 : Nat) ∧ (1 : Nat) = (1 : Nat)) ∧
                                         True ∧
                                          True ∧
                                           True ∧
                                            True ∧
                                             ((AV.d (D.val (Value.int IntKind.i64 (IntKind.i64.wrap ((↑((4 : Nat) * x) : Int) + (4 : Int))))) = AV.d (D.val (Value.int IntKind.i64 (↑((4 : Nat) * ((IntKind.i64.wrap ((↑((4 : Nat) * x) : Int) + (4 : Int))).toNat / (4 : Nat))) : Int))) ∧ AV.row (3 : Nat) = AV.row (3 : Nat) ∧ True) ∧
                                               (some (Blk.fix (D.arr IntKind.u8 (32 : Nat) l)) = some (Blk.fix (D.arr IntKind.u8 (32 : Nat) l)) ∧
                                                 some
                                                    (Blk.row (24 : TypeId)
                                                     (D.ints IntKind.u32
                                                      (wl l x ++
                                                       [IntKind.u32.wrap
                                                         (IntKind.u32.wrap
                                                           (IntKind.u32.wrap (IntKind.u32.wrap (IntKind.u32.wrap (l.getD (↑((4 : Nat) * x) : Int).toNat (0 : Int)) * (16777216 : Int)) + IntKind.u32.wrap (IntKind.u32.wrap (l.getD (IntKind.i64.wrap ((↑((4 : Nat) * x) : Int) + (1 : Int))).toNat (0 : Int)) * (65536 : Int))) +
                                                            IntKind.u32.wrap (IntKind.u32.wrap (l.getD (IntKind.i64.wrap ((↑((4 : Nat) * x) : Int) + (2 : Int))).toNat (0 : Int)) * (256 : Int))) +
                                                          IntKind.u32.wrap (l.getD (IntKind.i64.wrap ((↑((4 : Nat) * x) : Int) + (3 : Int))).toNat (0 : Int)))]))) =
                                                   some (Blk.row (24 : TypeId) (D.ints IntKind.u32 (wl l ((IntKind.i64.wrap ((↑((4 : Nat) * x) : Int) + (4 : Int))).toNat / (4 : Nat))))) ∧
                                                  True) ∧
                                                true = true) ∧
                                              (IntKind.i64.wrap ((↑((4 : Nat) * x) : Int) + (4 : Int))).toNat / (4 : Nat) ≤ (8 : Nat) ∧ (8 : Nat) - (IntKind.i64.wrap ((↑((4 : Nat) * x) : Int) + (4 : Int))).toNat / (4 : Nat) < (8 : Nat) - x
            | false => True ∧ True ∧ (false = false ∧ True) ∧ D.ints IntKind.u32 (wl l x) = F) := by kernel_rfl
set_option maxRecDepth 100000 in
theorem vc14  (l : List Int) (n : Nat) (F : D)  :
    (owed c14 (inv14 l n) Tryd.f14 [d32 l, u64 (n : Int)] F) = (
 (True ∧ false = false) ∧
   (True ∧ (73 : Nat) ≠ (0 : Nat)) ∧
    True ∧
     (0 : Nat) = (0 : Nat) ∧
      (True ∧ (73 : Nat) ≠ (0 : Nat)) ∧
       (Sk.st [Sk.arr (8 : Nat), Sk.one, Sk.arr (64 : Nat)] = Sk.st [Sk.arr (8 : Nat), Sk.one, Sk.arr (64 : Nat)] ∧ (73 : Nat) ≠ (0 : Nat) ∧ (73 : Nat) = (73 : Nat) ∧ false = false) ∧
        True ∧
         (64 : Int) ≠ (0 : Int) ∧
          True ∧
           match (↑n : Int).tmod (64 : Int) != (0 : Int) with
           | true =>
            ((73 : Nat) ≠ (0 : Nat) ∧ (73 : Nat) = (73 : Nat) ∧ true = true) ∧
             (Sk.st [Sk.arr (8 : Nat), Sk.one, Sk.arr (64 : Nat)] = Sk.st [Sk.arr (8 : Nat), Sk.one, Sk.arr (64 : Nat)] ∧ (73 : Nat) ≠ (0 : Nat) ∧ (73 : Nat) = (73 : Nat) ∧ false = false) ∧
              True ∧ (((73 : Nat) ≠ (0 : Nat) ∧ (73 : Nat) = (73 : Nat) ∧ true = true) ∧ false = false ∧ True) ∧ D.tup [D.st [D.arr IntKind.u32 (8 : Nat) st0.h.l, D.val (Value.int IntKind.u64 (↑st0.n : Int)), D.arr IntKind.u8 (64 : Nat) st0.l], D.val (Value.int IntKind.i64 (1 : Int))] = F
           | false =>
            True ∧
             (Sk.st [Sk.arr (8 : Nat), Sk.one, Sk.arr (64 : Nat)] = Sk.st [Sk.arr (8 : Nat), Sk.one, Sk.arr (64 : Nat)] ∧ (1 : Nat) < (3 : Nat)) ∧
              (((1 : Nat) < (3 : Nat) ∧ Sk.one = Sk.one) ∧ (1 : Nat) ≠ (0 : Nat) ∧ (1 : Nat) = (1 : Nat) ∧ false = false) ∧
               True ∧
                (((AV.d (D.val (Value.int IntKind.i64 (0 : Int))) = AV.d (D.val (Value.int IntKind.i64 (↑(Int.toNat (0 : Int)) : Int))) ∧ True) ∧
                   (some (Blk.fix (D.arr IntKind.u8 (32 : Nat) l)) = some (Blk.fix (D.arr IntKind.u8 (32 : Nat) l)) ∧
                     some
                        (Blk.fix
                         (D.st
                          [D.arr IntKind.u32 (8 : Nat) [(0 : Int), (0 : Int), (0 : Int), (0 : Int), (0 : Int), (0 : Int), (0 : Int), (0 : Int)], D.val (Value.int IntKind.u64 (0 : Int)),
                           D.arr IntKind.u8 (64 : Nat)
                            (List.replicate (64 : Nat) (0 : Int))])) =
                       some
                        (Blk.fix
                         (D.st
                          [D.arr IntKind.u32 (8 : Nat) [(0 : Int), (0 : Int), (0 : Int), (0 : Int), (0 : Int), (0 : Int), (0 : Int), (0 : Int)], D.val (Value.int IntKind.u64 (0 : Int)),
                           D.arr IntKind.u8 (64 : Nat)
                            (List.replicate (64 : Nat) (0 : Int))])) ∧
                      some (Blk.fix (D.st [D.arr IntKind.u32 (8 : Nat) st0.h.l, D.val (Value.int IntKind.u64 (↑n : Int)), D.arr IntKind.u8 (64 : Nat) st0.l])) =
                        some
                         (Blk.fix
                          (D.st
                           [D.arr IntKind.u32 (8 : Nat) (woI l (Int.toNat (0 : Int))), D.val (Value.int IntKind.u64 (↑n : Int)),
                            D.arr IntKind.u8 (64 : Nat)
                             (List.replicate (64 : Nat) (0 : Int))])) ∧
                       True) ∧
                    true = true) ∧
                  Int.toNat (0 : Int) ≤ (8 : Nat)) ∧
                 ∀ (x : Nat),
                  x ≤ (8 : Nat) →
                   true = true ∧
                    True ∧
                     match decide ((↑x : Int) < (8 : Int)) with
                     | true =>
                      True ∧
                       True ∧
                        True ∧
                         ((0 : Int) ≤ (0 : Int) ∧ (0 : Int) ≤ (↑(32 : Nat) : Int) ∧ (↑(32 : Nat) : Int) ≤ (↑(32 : Nat) : Int) ∧ (32 : Nat) = (32 : Nat) ∧ (1 : Nat) = (1 : Nat)) ∧
                          True ∧
                           True ∧
                            (∃ (l_1 : List Int),
                              ∃ (i : Nat), [D.ints IntKind.u8 (List.take ((↑(32 : Nat) : Int).toNat - Int.toNat (0 : Int)) (List.drop (0 : Nat) l)), D.val (Value.int IntKind.i64 (IntKind.i64.wrap ((4 : Int) * (↑x : Int))))] = [D.ints IntKind.u8 l_1, D.val (Value.int IntKind.i64 (↑i : Int))] ∧ isBytes l_1 ∧ i + (3 : Nat) < l_1.length ∧ i < (1000 : Nat)) ∧
                             (Sk.st [Sk.arr (8 : Nat), Sk.one, Sk.arr (64 : Nat)] = Sk.st [Sk.arr (8 : Nat), Sk.one, Sk.arr (64 : Nat)] ∧ (0 : Nat) < (3 : Nat)) ∧
                              ((0 : Int) ≤ (↑x : Int) ∧ (↑x : Int) < (↑(8 : Nat) : Int) ∧ (8 : Nat) = (8 : Nat) ∧ (1 : Nat) = (1 : Nat)) ∧
                               (((0 : Nat) < (3 : Nat) ∧ (↑x : Int).toNat < (8 : Nat) ∧ ([] : List Nat) = [] ∧ true = true) ∧ (1 : Nat) ≠ (0 : Nat) ∧ (1 : Nat) = (1 : Nat) ∧ false = false) ∧
                                True ∧
                                 True ∧
                                  ((AV.d (D.val (Value.int IntKind.i64 (IntKind.i64.wrap ((↑x : Int) + (1 : Int))))) = AV.d (D.val (Value.int IntKind.i64 (↑(IntKind.i64.wrap ((↑x : Int) + (1 : Int))).toNat : Int))) ∧ True) ∧
                                    (some (Blk.fix (D.arr IntKind.u8 (32 : Nat) l)) = some (Blk.fix (D.arr IntKind.u8 (32 : Nat) l)) ∧
                                      some
                                         (Blk.fix
                                          (D.st
                                           [D.arr IntKind.u32 (8 : Nat) [(0 : Int), (0 : Int), (0 : Int), (0 : Int), (0 : Int), (0 : Int), (0 : Int), (0 : Int)], D.val (Value.int IntKind.u64 (0 : Int)),
                                            D.arr IntKind.u8 (64 : Nat)
                                             (List.replicate (64 : Nat) (0 : Int))])) =
                                        some
                                         (Blk.fix
                                          (D.st
                                           [D.arr IntKind.u32 (8 : Nat) [(0 : Int), (0 : Int), (0 : Int), (0 : Int), (0 : Int), (0 : Int), (0 : Int), (0 : Int)], D.val (Value.int IntKind.u64 (0 : Int)),
                                            D.arr IntKind.u8 (64 : Nat)
                                             (List.replicate (64 : Nat) (0 : Int))])) ∧
                                       some
                                          (Blk.fix
                                           (D.st
                                            [D.arr IntKind.u32 (8 : Nat) ((woI l x).set (↑x : Int).toNat (↑(BitVec.toNat (wat (List.take ((↑(32 : Nat) : Int).toNat - Int.toNat (0 : Int)) (List.drop (0 : Nat) l)) (IntKind.i64.wrap ((4 : Int) * (↑x : Int))).toNat)) : Int)), D.val (Value.int IntKind.u64 (↑n : Int)),
                                             D.arr IntKind.u8 (64 : Nat)
                                              (List.replicate (64 : Nat) (0 : Int))])) =
                                         some
                                          (Blk.fix
                                           (D.st
                                            [D.arr IntKind.u32 (8 : Nat) (woI l (IntKind.i64.wrap ((↑x : Int) + (1 : Int))).toNat), D.val (Value.int IntKind.u64 (↑n : Int)),
                                             D.arr IntKind.u8 (64 : Nat)
                                              (List.replicate (64 : Nat) (0 : Int))])) ∧
                                        True) ∧
                                     true = true) ∧
                                   (IntKind.i64.wrap ((↑x : Int) + (1 : Int))).toNat ≤ (8 : Nat) ∧ (8 : Nat) - (IntKind.i64.wrap ((↑x : Int) + (1 : Int))).toNat < (8 : Nat) - x
                     | false =>
                      ((73 : Nat) ≠ (0 : Nat) ∧ (73 : Nat) = (73 : Nat) ∧ true = true) ∧
                       (Sk.st [Sk.arr (8 : Nat), Sk.one, Sk.arr (64 : Nat)] = Sk.st [Sk.arr (8 : Nat), Sk.one, Sk.arr (64 : Nat)] ∧ (73 : Nat) ≠ (0 : Nat) ∧ (73 : Nat) = (73 : Nat) ∧ false = false) ∧
                        True ∧
                         (((73 : Nat) ≠ (0 : Nat) ∧ (73 : Nat) = (73 : Nat) ∧ true = true) ∧ false = false ∧ True) ∧
                          D.tup
                            [D.st
                              [D.arr IntKind.u32 (8 : Nat) (woI l x), D.val (Value.int IntKind.u64 (↑n : Int)),
                               D.arr IntKind.u8 (64 : Nat)
                                (List.replicate (64 : Nat) (0 : Int))],
                             D.val (Value.int IntKind.i64 (0 : Int))] =
                           F) := by kernel_rfl
set_option maxRecDepth 100000 in
theorem vc9  (p : List Int) (F : D)  :
    (owed c9 (fun _ => none) Tryd.f9 [.ints .u8 p] F) = (
 (True ∧ (32 : Nat) ≠ (0 : Nat)) ∧
   (0 : Nat) = (0 : Nat) ∧
    True ∧
     (∃ (s : HS), ∃ (p_1 : List Int), [D.st [D.arr IntKind.u32 (8 : Nat) st0.h.l, D.val (Value.int IntKind.u64 (↑st0.n : Int)), D.arr IntKind.u8 (64 : Nat) st0.l], D.ints IntKind.u8 p] = [D.st [D.arr IntKind.u32 (8 : Nat) s.h.l, D.val (Value.int IntKind.u64 (↑s.n : Int)), D.arr IntKind.u8 (64 : Nat) s.l], D.ints IntKind.u8 p_1] ∧ okS s ∧ isBytes p_1 ∧ p_1.length ≤ (1000000000000000 : Nat)) ∧
      (∃ (s : HS),
        [D.st
            [D.arr IntKind.u32 (8 : Nat) (wrS (ofS (D.st [D.arr IntKind.u32 (8 : Nat) st0.h.l, D.val (Value.int IntKind.u64 (↑st0.n : Int)), D.arr IntKind.u8 (64 : Nat) st0.l])) p).h.l, D.val (Value.int IntKind.u64 (↑(wrS (ofS (D.st [D.arr IntKind.u32 (8 : Nat) st0.h.l, D.val (Value.int IntKind.u64 (↑st0.n : Int)), D.arr IntKind.u8 (64 : Nat) st0.l])) p).n : Int)),
             D.arr IntKind.u8 (64 : Nat) (wrS (ofS (D.st [D.arr IntKind.u32 (8 : Nat) st0.h.l, D.val (Value.int IntKind.u64 (↑st0.n : Int)), D.arr IntKind.u8 (64 : Nat) st0.l])) p).l]] =
          [D.st [D.arr IntKind.u32 (8 : Nat) s.h.l, D.val (Value.int IntKind.u64 (↑s.n : Int)), D.arr IntKind.u8 (64 : Nat) s.l]] ∧
         okS s) ∧
       (Sk.arr (32 : Nat) = Sk.arr (32 : Nat) ∧ (32 : Nat) ≠ (0 : Nat) ∧ (32 : Nat) = (32 : Nat) ∧ false = false) ∧
        (((32 : Nat) ≠ (0 : Nat) ∧ (32 : Nat) = (32 : Nat) ∧ true = true) ∧ True) ∧
         D.arr IntKind.u8 (32 : Nat)
           (sumL
            (ofS
             (D.st
              [D.arr IntKind.u32 (8 : Nat) (wrS (ofS (D.st [D.arr IntKind.u32 (8 : Nat) st0.h.l, D.val (Value.int IntKind.u64 (↑st0.n : Int)), D.arr IntKind.u8 (64 : Nat) st0.l])) p).h.l, D.val (Value.int IntKind.u64 (↑(wrS (ofS (D.st [D.arr IntKind.u32 (8 : Nat) st0.h.l, D.val (Value.int IntKind.u64 (↑st0.n : Int)), D.arr IntKind.u8 (64 : Nat) st0.l])) p).n : Int)),
               D.arr IntKind.u8 (64 : Nat) (wrS (ofS (D.st [D.arr IntKind.u32 (8 : Nat) st0.h.l, D.val (Value.int IntKind.u64 (↑st0.n : Int)), D.arr IntKind.u8 (64 : Nat) st0.l])) p).l]))) =
          F) := by kernel_rfl
set_option maxRecDepth 100000 in
theorem vc10  (p : List Int) (F : D)  :
    (owed c10 (fun _ => none) Tryd.f10 [.str p] F) = (
 (True ∧ (32 : Nat) ≠ (0 : Nat)) ∧
   (0 : Nat) = (0 : Nat) ∧
    True ∧
     (∃ (x : R8), ∃ (n : Nat), ∃ (p_1 : List Int), [D.ints IntKind.u32 iv.l, D.val (Value.int IntKind.u64 (0 : Int)), D.str p] = [D.ints IntKind.u32 x.l, D.val (Value.int IntKind.u64 (↑n : Int)), D.str p_1] ∧ isBytes p_1 ∧ p_1.length ≤ (1000000000000000 : Nat) ∧ n % (64 : Nat) = (0 : Nat) ∧ n < (18446744073709551616 : Nat)) ∧
      (Sk.arr (32 : Nat) = Sk.arr (32 : Nat) ∧ (32 : Nat) ≠ (0 : Nat) ∧ (32 : Nat) = (32 : Nat) ∧ false = false) ∧ (((32 : Nat) ≠ (0 : Nat) ∧ (32 : Nat) = (32 : Nat) ∧ true = true) ∧ True) ∧ D.arr IntKind.u8 (32 : Nat) (fromL (ofR iv.l) (0 : Nat) p) = F) := by kernel_rfl

end Go.Proofs.YtcdjhhepgkcabaaDoor
