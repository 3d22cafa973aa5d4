/- package pin: what its functions owe. -/
import Derived.Test.YtkicjckhkefnpaaDoorZb11
namespace Go.Proofs.YtkicjckhkefnpaaDoor
open Go Go.Vg

/-- A PIN, stretched so often. -/
def strN (k p : List Int) : Nat → List Int
  | 0 => mkL k p
  | i + 1 => mkL k (strN k p i ++ p)
def strL (k p : List Int) : List Int := strN k p 8
def isP (p : List Int) : Prop := isBytes p ∧ p.length ≤ 140737488351232
def rgt (p : List Int) : Bool := decide (4 ≤ p.length) && decide (p.length ≤ 16)
abbrev lockD (s m : List Int) (n : Int) : D := .st [.ints .u8 s, .st [d32 m, i64 n]]
abbrev keptD (m : List Int) (n : Int) : D := .st [d32 m, i64 n]
def isM (m : List Int) : Prop := isBytes m ∧ m.length = 32
def slO (d : D) : List Int := intsOf (fldOf d 0)
def mkO (d : D) : List Int := arrOf (fldOf (fldOf d 1) 0)
def lfO (d : D) : Int := numOf (fldOf (fldOf d 1) 1)
def unR : D → D
  | .ref x => x
  | d => d
def tryE (s m : List Int) (n : Int) (p : List Int) : Int := if n = 0 then 11 else if strL s p = m then 0 else 10
def tryN (s m : List Int) (n : Int) (p : List Int) : Int := if n = 0 then 0 else if strL s p = m then 3 else n - 1
def rpE (p : List Int) : Int := if rgt p then 0 else 1
def rpM (s m p : List Int) : List Int := if rgt p then strL s p else m
def rpN (n : Int) (p : List Int) : Int := if rgt p then 3 else n
def chE (s m : List Int) (n : Int) (p q : List Int) : Int := if rgt q then tryE s m n p else 1
def chM (s m : List Int) (n : Int) (p q : List Int) : List Int := if rgt q then (if tryE s m n p = 0 then strL s q else m) else m
def chN (s m : List Int) (n : Int) (p q : List Int) : Int := if rgt q then (if tryE s m n p = 0 then 3 else tryN s m n p) else n
def lfOk (n : Int) : Prop := 0 ≤ n ∧ n ≤ 3
def sp78 : Go.Vg.Spec := ⟨fun ds => ∃ l, ds = [.ints .u8 l] ∧ isP l, fun ds => .ints .u8 (intsOf (ds.headD default)), false, [26]⟩
def sp85 : Go.Vg.Spec := ⟨fun ds => ∃ l, ds = [.ints .u8 l], fun ds => .val (.bool (rgt (intsOf (ds.headD default)))), true, [26]⟩
def sp32 : Go.Vg.Spec := ⟨fun ds => ∃ k p, ds = [.ints .u8 k, .ints .u8 p] ∧ isP k ∧ isP p, fun ds => d32 (strL (intsOf (ds.headD default)) (intsOf (ds.getD 1 default))), true, [26, 26]⟩
def sp28 : Go.Vg.Spec := ⟨fun ds => ∃ k p, ds = [.str k, .str p] ∧ isP k ∧ isP p, fun ds => d32 (strL (strOf (ds.headD default)) (strOf (ds.getD 1 default))), true, [9, 9]⟩
def sp25 : Go.Vg.Spec := ⟨fun ds => ∃ s m n, ds = [.ints .u8 s, keptD m n] ∧ isP s ∧ lfOk n, fun ds => .tup [lockD (intsOf (ds.headD default)) (arrOf (fldOf (ds.getD 1 default) 0)) (numOf (fldOf (ds.getD 1 default) 1)), i64 0], false, [26, 44, 8000000]⟩
def sp25b : Go.Vg.Spec := ⟨fun ds => ∃ s m n, ds = [.ints .u8 s, keptD m n] ∧ isP s ∧ ¬ lfOk n, fun _ => .tup [.val (.pointer none), i64 1], true, [26, 44]⟩
def sp26 : Go.Vg.Spec := ⟨fun ds => ∃ s m n, ds = [.ref (lockD s m n)], fun ds => keptD (mkO (unR (ds.headD default))) (lfO (unR (ds.headD default))), true, [45]⟩
def sp27 : Go.Vg.Spec := ⟨fun ds => ∃ s m n, ds = [.ref (lockD s m n)], fun ds => i64 (lfO (unR (ds.headD default))), true, [45]⟩
def sp29 : Go.Vg.Spec := ⟨fun ds => ∃ s m n p, ds = [lockD s m n, .ints .u8 p] ∧ (isP s ∧ isM m ∧ lfOk n) ∧ isP p,
  fun ds => .tup [i64 (tryE (slO (ds.headD default)) (mkO (ds.headD default)) (lfO (ds.headD default)) (intsOf (ds.getD 1 default))), lockD (slO (ds.headD default)) (mkO (ds.headD default)) (tryN (slO (ds.headD default)) (mkO (ds.headD default)) (lfO (ds.headD default)) (intsOf (ds.getD 1 default)))], false, [9000000, 26]⟩
def sp34 : Go.Vg.Spec := ⟨fun ds => ∃ s m n p, ds = [lockD s m n, .ints .u8 p] ∧ (isP s ∧ isM m ∧ lfOk n) ∧ isP p,
  fun ds => .tup [i64 (rpE (intsOf (ds.getD 1 default))), lockD (slO (ds.headD default)) (rpM (slO (ds.headD default)) (mkO (ds.headD default)) (intsOf (ds.getD 1 default))) (rpN (lfO (ds.headD default)) (intsOf (ds.getD 1 default)))], false, [9000000, 26]⟩
def sp33 : Go.Vg.Spec := ⟨fun ds => ∃ s m n p q, ds = [lockD s m n, .ints .u8 p, .ints .u8 q] ∧ (isP s ∧ isM m ∧ lfOk n) ∧ isP p ∧ isP q,
  fun ds => .tup [i64 (chE (slO (ds.headD default)) (mkO (ds.headD default)) (lfO (ds.headD default)) (intsOf (ds.getD 1 default)) (intsOf (ds.getD 2 default))),
    lockD (slO (ds.headD default)) (chM (slO (ds.headD default)) (mkO (ds.headD default)) (lfO (ds.headD default)) (intsOf (ds.getD 1 default)) (intsOf (ds.getD 2 default))) (chN (slO (ds.headD default)) (mkO (ds.headD default)) (lfO (ds.headD default)) (intsOf (ds.getD 1 default)) (intsOf (ds.getD 2 default)))], false, [9000000, 26, 26]⟩
def sp31 : Go.Vg.Spec := ⟨fun ds => ∃ s p, ds = [.ints .u8 s, .ints .u8 p] ∧ isP s ∧ isP p ∧ rgt p = true, fun ds => .tup [lockD (intsOf (ds.headD default)) (strL (intsOf (ds.headD default)) (intsOf (ds.getD 1 default))) 3, i64 0], false, [26, 26, 8000000]⟩
def sp31b : Go.Vg.Spec := ⟨fun ds => ∃ s p, ds = [.ints .u8 s, .ints .u8 p] ∧ isP s ∧ isP p ∧ rgt p = false, fun _ => .tup [.val (.pointer none), i64 1], true, [26, 26]⟩
def c78 : Ctx := ⟨tab, fun _ => none, [5], []⟩
def c32 : Ctx := ⟨tab, lkS [(81, sp81), (82, sp82), (83, sp83), (84, sp84)], [], []⟩
def c28 : Ctx := ⟨tab, lkS [(79, sp79)], [], []⟩
def c25 : Ctx := ⟨tab, lkS [(78, sp78)], [], []⟩
noncomputable def c29 : Ctx := ⟨tab, lkS [(32, sp32), (80, sp80)], [], []⟩
def c34 : Ctx := ⟨tab, lkS [(85, sp85), (32, sp32)], [], []⟩
def c33 : Ctx := ⟨tab, lkS [(85, sp85), (29, sp29), (34, sp34)], [], []⟩
def c31 : Ctx := ⟨tab, lkS [(78, sp78), (34, sp34)], [], []⟩
def inv32 (k p : List Int) : Nat → Option Inv
  | 3 => some ⟨Nat, fun i => [(9, .d (i64 i))], fun i => [(5, .fix (d32 (strN k p i)))], fun s => (slotN s 9).toNat, fun _ i => i ≤ 8, fun i => 8 - i⟩
  | _ => none
--KEEP ofR BitVec.toNat prL pr Go.Proofs.YtkicjckhkefnpaaDoor.R8.l wrS ofS okS padL fhK outL sumL fromL digL woL wl woI iv st0 rsS rsE wat fullL Go.Vg.eqB ofM xK mNew mWr mSum mkL padK mixK sameI okM isB strN strL isP rgt isM tryE tryN rpE rpM rpN chE chM chN lfOk
set_option maxRecDepth 100000 in
theorem vc78  (l : List Int) (F : D)  :
    (owed c78 (fun _ => none) Tryd.f78 [.ints .u8 l] F) = (
 True ∧
   True ∧
    True ∧
     (l.length = (0 : Nat) → True ∧ (false = false ∧ True) ∧ D.ints IntKind.u8 [] = F) ∧
      (True → ((1 : Nat) = (1 : Nat) ∧ (0 : Nat) ≤ (4096 : Nat)) ∧ True ∧ ((5 : TypeId) = (5 : TypeId) ∧ (26 : Nat) = (26 : Nat) ∧ true = true ∧ l.length ≤ (140737488355328 : Nat) ∧ l.length * (1 : Nat) ≤ (140737488355328 : Nat) ∧ (1 : Nat) ≠ (0 : Nat) ∧ (1 : Nat) = (1 : Nat)) ∧ True ∧ (false = false ∧ True) ∧ D.ints IntKind.u8 l = F)) := by kernel_rfl
set_option maxRecDepth 100000 in
theorem vc85  (l : List Int) (F : D)  :
    (owed c0 (fun _ => none) Tryd.f85 [.ints .u8 l] F) = (
 True ∧
   True ∧
    True ∧
     True ∧
      True ∧
       match decide ((↑l.length : Int) ≥ (4 : Int)) with
       | true => True ∧ True ∧ True ∧ True ∧ True ∧ (false = false ∧ True) ∧ D.val (Value.bool (decide ((↑l.length : Int) ≤ (16 : Int)))) = F
       | false => True ∧ True ∧ (false = false ∧ True) ∧ D.val (Value.bool false) = F) := by kernel_rfl
set_option maxRecDepth 100000 in
theorem vc32  (k p : List Int) (F : D)  :
    (owed c32 (inv32 k p) Tryd.f32 [.ints .u8 k, .ints .u8 p] F) = (
 (True ∧ (32 : Nat) ≠ (0 : Nat)) ∧
   True ∧
    True ∧
     (∃ (k_1 : List Int), ∃ (p_1 : List Int), [D.ints IntKind.u8 k, D.ints IntKind.u8 p] = [D.ints IntKind.u8 k_1, D.ints IntKind.u8 p_1] ∧ isB k_1 ∧ isB p_1) ∧
      (True ∧ (32 : Nat) ≠ (0 : Nat)) ∧
       (Sk.arr (32 : Nat) = Sk.arr (32 : Nat) ∧ (32 : Nat) ≠ (0 : Nat) ∧ (32 : Nat) = (32 : Nat) ∧ false = false) ∧
        True ∧
         (((AV.d (D.val (Value.int IntKind.i64 (0 : Int))) = AV.d (D.val (Value.int IntKind.i64 (↑(Int.toNat (0 : Int)) : Int))) ∧ True) ∧
            (some
                (Blk.fix
                 (D.arr IntKind.u8 (32 : Nat)
                  [(0 : Int), (0 : Int), (0 : Int), (0 : Int), (0 : Int), (0 : Int), (0 : Int), (0 : Int), (0 : Int), (0 : Int), (0 : Int), (0 : Int), (0 : Int), (0 : Int), (0 : Int), (0 : Int), (0 : Int), (0 : Int), (0 : Int), (0 : Int), (0 : Int), (0 : Int), (0 : Int), (0 : Int), (0 : Int), (0 : Int), (0 : Int), (0 : Int), (0 : Int), (0 : Int), (0 : Int), (0 : Int)])) =
               some
                (Blk.fix
                 (D.arr IntKind.u8 (32 : Nat)
                  [(0 : Int), (0 : Int), (0 : Int), (0 : Int), (0 : Int), (0 : Int), (0 : Int), (0 : Int), (0 : Int), (0 : Int), (0 : Int), (0 : Int), (0 : Int), (0 : Int), (0 : Int), (0 : Int), (0 : Int), (0 : Int), (0 : Int), (0 : Int), (0 : Int), (0 : Int), (0 : Int), (0 : Int), (0 : Int), (0 : Int), (0 : Int), (0 : Int), (0 : Int), (0 : Int), (0 : Int), (0 : Int)])) ∧
              some (Blk.fix (D.arr IntKind.u8 (32 : Nat) (mkL k p))) = some (Blk.fix (D.arr IntKind.u8 (32 : Nat) (strN k p (Int.toNat (0 : Int))))) ∧ True) ∧
             true = true) ∧
           Int.toNat (0 : Int) ≤ (8 : Nat)) ∧
          ∀ (x : Nat),
           x ≤ (8 : Nat) →
            true = true ∧
             True ∧
              match decide ((↑x : Int) < (8 : Int)) with
              | true =>
               True ∧
                (∃ (k_1 : List Int), [D.ints IntKind.u8 k] = [D.ints IntKind.u8 k_1] ∧ isB k_1) ∧
                 ((0 : Int) ≤ (0 : Int) ∧ (0 : Int) ≤ (↑(32 : Nat) : Int) ∧ (↑(32 : Nat) : Int) ≤ (↑(32 : Nat) : Int) ∧ (32 : Nat) = (32 : Nat) ∧ (1 : Nat) = (1 : Nat)) ∧
                  (∃ (s : MS),
                    ∃ (p_1 : List Int),
                     [D.st [D.st [D.arr IntKind.u32 (8 : Nat) (mNew k).i.h.l, D.val (Value.int IntKind.u64 (↑(mNew k).i.n : Int)), D.arr IntKind.u8 (64 : Nat) (mNew k).i.l], D.st [D.arr IntKind.u32 (8 : Nat) (mNew k).o.h.l, D.val (Value.int IntKind.u64 (↑(mNew k).o.n : Int)), D.arr IntKind.u8 (64 : Nat) (mNew k).o.l]],
                        D.ints IntKind.u8 (List.take ((↑(32 : Nat) : Int).toNat - Int.toNat (0 : Int)) (List.drop (0 : Nat) (strN k p x)))] =
                       [D.st [D.st [D.arr IntKind.u32 (8 : Nat) s.i.h.l, D.val (Value.int IntKind.u64 (↑s.i.n : Int)), D.arr IntKind.u8 (64 : Nat) s.i.l], D.st [D.arr IntKind.u32 (8 : Nat) s.o.h.l, D.val (Value.int IntKind.u64 (↑s.o.n : Int)), D.arr IntKind.u8 (64 : Nat) s.o.l]], D.ints IntKind.u8 p_1] ∧
                      okM s ∧ isB p_1) ∧
                   True ∧
                    (∃ (s : MS),
                      ∃ (p_1 : List Int),
                       [D.st
                           [D.st
                             [D.arr IntKind.u32 (8 : Nat)
                               (mWr (ofM (D.st [D.st [D.arr IntKind.u32 (8 : Nat) (mNew k).i.h.l, D.val (Value.int IntKind.u64 (↑(mNew k).i.n : Int)), D.arr IntKind.u8 (64 : Nat) (mNew k).i.l], D.st [D.arr IntKind.u32 (8 : Nat) (mNew k).o.h.l, D.val (Value.int IntKind.u64 (↑(mNew k).o.n : Int)), D.arr IntKind.u8 (64 : Nat) (mNew k).o.l]]))
                                   (List.take ((↑(32 : Nat) : Int).toNat - Int.toNat (0 : Int)) (List.drop (0 : Nat) (strN k p x)))).i.h.l,
                              D.val
                               (Value.int IntKind.u64
                                (↑(mWr (ofM (D.st [D.st [D.arr IntKind.u32 (8 : Nat) (mNew k).i.h.l, D.val (Value.int IntKind.u64 (↑(mNew k).i.n : Int)), D.arr IntKind.u8 (64 : Nat) (mNew k).i.l], D.st [D.arr IntKind.u32 (8 : Nat) (mNew k).o.h.l, D.val (Value.int IntKind.u64 (↑(mNew k).o.n : Int)), D.arr IntKind.u8 (64 : Nat) (mNew k).o.l]]))
                                     (List.take ((↑(32 : Nat) : Int).toNat - Int.toNat (0 : Int)) (List.drop (0 : Nat) (strN k p x)))).i.n :
                                 Int)),
                              D.arr IntKind.u8 (64 : Nat)
                               (mWr (ofM (D.st [D.st [D.arr IntKind.u32 (8 : Nat) (mNew k).i.h.l, D.val (Value.int IntKind.u64 (↑(mNew k).i.n : Int)), D.arr IntKind.u8 (64 : Nat) (mNew k).i.l], D.st [D.arr IntKind.u32 (8 : Nat) (mNew k).o.h.l, D.val (Value.int IntKind.u64 (↑(mNew k).o.n : Int)), D.arr IntKind.u8 (64 : Nat) (mNew k).o.l]]))
                                  (List.take ((↑(32 : Nat) : Int).toNat - Int.toNat (0 : Int)) (List.drop (0 : Nat) (strN k p x)))).i.l],
                            D.st
                             [D.arr IntKind.u32 (8 : Nat)
                               (mWr (ofM (D.st [D.st [D.arr IntKind.u32 (8 : Nat) (mNew k).i.h.l, D.val (Value.int IntKind.u64 (↑(mNew k).i.n : Int)), D.arr IntKind.u8 (64 : Nat) (mNew k).i.l], D.st [D.arr IntKind.u32 (8 : Nat) (mNew k).o.h.l, D.val (Value.int IntKind.u64 (↑(mNew k).o.n : Int)), D.arr IntKind.u8 (64 : Nat) (mNew k).o.l]]))
                                   (List.take ((↑(32 : Nat) : Int).toNat - Int.toNat (0 : Int)) (List.drop (0 : Nat) (strN k p x)))).o.h.l,
                              D.val
                               (Value.int IntKind.u64
                                (↑(mWr (ofM (D.st [D.st [D.arr IntKind.u32 (8 : Nat) (mNew k).i.h.l, D.val (Value.int IntKind.u64 (↑(mNew k).i.n : Int)), D.arr IntKind.u8 (64 : Nat) (mNew k).i.l], D.st [D.arr IntKind.u32 (8 : Nat) (mNew k).o.h.l, D.val (Value.int IntKind.u64 (↑(mNew k).o.n : Int)), D.arr IntKind.u8 (64 : Nat) (mNew k).o.l]]))
                                     (List.take ((↑(32 : Nat) : Int).toNat - Int.toNat (0 : Int)) (List.drop (0 : Nat) (strN k p x)))).o.n :
                                 Int)),
                              D.arr IntKind.u8 (64 : Nat)
                               (mWr (ofM (D.st [D.st [D.arr IntKind.u32 (8 : Nat) (mNew k).i.h.l, D.val (Value.int IntKind.u64 (↑(mNew k).i.n : Int)), D.arr IntKind.u8 (64 : Nat) (mNew k).i.l], D.st [D.arr IntKind.u32 (8 : Nat) (mNew k).o.h.l, D.val (Value.int IntKind.u64 (↑(mNew k).o.n : Int)), D.arr IntKind.u8 (64 : Nat) (mNew k).o.l]]))
                                  (List.take ((↑(32 : Nat) : Int).toNat - Int.toNat (0 : Int)) (List.drop (0 : Nat) (strN k p x)))).o.l]],
                          D.ints IntKind.u8 p] =
                         [D.st [D.st [D.arr IntKind.u32 (8 : Nat) s.i.h.l, D.val (Value.int IntKind.u64 (↑s.i.n : Int)), D.arr IntKind.u8 (64 : Nat) s.i.l], D.st [D.arr IntKind.u32 (8 : Nat) s.o.h.l, D.val (Value.int IntKind.u64 (↑s.o.n : Int)), D.arr IntKind.u8 (64 : Nat) s.o.l]], D.ints IntKind.u8 p_1] ∧
                        okM s ∧ isB p_1) ∧
                     (∃ (s : MS),
                       [D.st
                           [D.st
                             [D.arr IntKind.u32 (8 : Nat)
                               (mWr
                                   (ofM
                                    (D.st
                                     [D.st
                                       [D.arr IntKind.u32 (8 : Nat)
                                         (mWr (ofM (D.st [D.st [D.arr IntKind.u32 (8 : Nat) (mNew k).i.h.l, D.val (Value.int IntKind.u64 (↑(mNew k).i.n : Int)), D.arr IntKind.u8 (64 : Nat) (mNew k).i.l], D.st [D.arr IntKind.u32 (8 : Nat) (mNew k).o.h.l, D.val (Value.int IntKind.u64 (↑(mNew k).o.n : Int)), D.arr IntKind.u8 (64 : Nat) (mNew k).o.l]]))
                                             (List.take ((↑(32 : Nat) : Int).toNat - Int.toNat (0 : Int)) (List.drop (0 : Nat) (strN k p x)))).i.h.l,
                                        D.val
                                         (Value.int IntKind.u64
                                          (↑(mWr (ofM (D.st [D.st [D.arr IntKind.u32 (8 : Nat) (mNew k).i.h.l, D.val (Value.int IntKind.u64 (↑(mNew k).i.n : Int)), D.arr IntKind.u8 (64 : Nat) (mNew k).i.l], D.st [D.arr IntKind.u32 (8 : Nat) (mNew k).o.h.l, D.val (Value.int IntKind.u64 (↑(mNew k).o.n : Int)), D.arr IntKind.u8 (64 : Nat) (mNew k).o.l]]))
                                               (List.take ((↑(32 : Nat) : Int).toNat - Int.toNat (0 : Int)) (List.drop (0 : Nat) (strN k p x)))).i.n :
                                           Int)),
                                        D.arr IntKind.u8 (64 : Nat)
                                         (mWr (ofM (D.st [D.st [D.arr IntKind.u32 (8 : Nat) (mNew k).i.h.l, D.val (Value.int IntKind.u64 (↑(mNew k).i.n : Int)), D.arr IntKind.u8 (64 : Nat) (mNew k).i.l], D.st [D.arr IntKind.u32 (8 : Nat) (mNew k).o.h.l, D.val (Value.int IntKind.u64 (↑(mNew k).o.n : Int)), D.arr IntKind.u8 (64 : Nat) (mNew k).o.l]]))
                                            (List.take ((↑(32 : Nat) : Int).toNat - Int.toNat (0 : Int)) (List.drop (0 : Nat) (strN k p x)))).i.l],
                                      D.st
                                       [D.arr IntKind.u32 (8 : Nat)
                                         (mWr (ofM (D.st [D.st [D.arr IntKind.u32 (8 : Nat) (mNew k).i.h.l, D.val (Value.int IntKind.u64 (↑(mNew k).i.n : Int)), D.arr IntKind.u8 (64 : Nat) (mNew k).i.l], D.st [D.arr IntKind.u32 (8 : Nat) (mNew k).o.h.l, D.val (Value.int IntKind.u64 (↑(mNew k).o.n : Int)), D.arr IntKind.u8 (64 : Nat) (mNew k).o.l]]))
                                             (List.take ((↑(32 : Nat) : Int).toNat - Int.toNat (0 : Int)) (List.drop (0 : Nat) (strN k p x)))).o.h.l,
                                        D.val
                                         (Value.int IntKind.u64
                                          (↑(mWr (ofM (D.st [D.st [D.arr IntKind.u32 (8 : Nat) (mNew k).i.h.l, D.val (Value.int IntKind.u64 (↑(mNew k).i.n : Int)), D.arr IntKind.u8 (64 : Nat) (mNew k).i.l], D.st [D.arr IntKind.u32 (8 : Nat) (mNew k).o.h.l, D.val (Value.int IntKind.u64 (↑(mNew k).o.n : Int)), D.arr IntKind.u8 (64 : Nat) (mNew k).o.l]]))
                                               (List.take ((↑(32 : Nat) : Int).toNat - Int.toNat (0 : Int)) (List.drop (0 : Nat) (strN k p x)))).o.n :
                                           Int)),
                                        D.arr IntKind.u8 (64 : Nat)
                                         (mWr (ofM (D.st [D.st [D.arr IntKind.u32 (8 : Nat) (mNew k).i.h.l, D.val (Value.int IntKind.u64 (↑(mNew k).i.n : Int)), D.arr IntKind.u8 (64 : Nat) (mNew k).i.l], D.st [D.arr IntKind.u32 (8 : Nat) (mNew k).o.h.l, D.val (Value.int IntKind.u64 (↑(mNew k).o.n : Int)), D.arr IntKind.u8 (64 : Nat) (mNew k).o.l]]))
                                            (List.take ((↑(32 : Nat) : Int).toNat - Int.toNat (0 : Int)) (List.drop (0 : Nat) (strN k p x)))).o.l]]))
                                   p).i.h.l,
                              D.val
                               (Value.int IntKind.u64
                                (↑(mWr
                                     (ofM
                                      (D.st
                                       [D.st
                                         [D.arr IntKind.u32 (8 : Nat)
                                           (mWr (ofM (D.st [D.st [D.arr IntKind.u32 (8 : Nat) (mNew k).i.h.l, D.val (Value.int IntKind.u64 (↑(mNew k).i.n : Int)), D.arr IntKind.u8 (64 : Nat) (mNew k).i.l], D.st [D.arr IntKind.u32 (8 : Nat) (mNew k).o.h.l, D.val (Value.int IntKind.u64 (↑(mNew k).o.n : Int)), D.arr IntKind.u8 (64 : Nat) (mNew k).o.l]]))
                                               (List.take ((↑(32 : Nat) : Int).toNat - Int.toNat (0 : Int)) (List.drop (0 : Nat) (strN k p x)))).i.h.l,
                                          D.val
                                           (Value.int IntKind.u64
                                            (↑(mWr (ofM (D.st [D.st [D.arr IntKind.u32 (8 : Nat) (mNew k).i.h.l, D.val (Value.int IntKind.u64 (↑(mNew k).i.n : Int)), D.arr IntKind.u8 (64 : Nat) (mNew k).i.l], D.st [D.arr IntKind.u32 (8 : Nat) (mNew k).o.h.l, D.val (Value.int IntKind.u64 (↑(mNew k).o.n : Int)), D.arr IntKind.u8 (64 : Nat) (mNew k).o.l]]))
                                                 (List.take ((↑(32 : Nat) : Int).toNat - Int.toNat (0 : Int)) (List.drop (0 : Nat) (strN k p x)))).i.n :
                                             Int)),
                                          D.arr IntKind.u8 (64 : Nat)
                                           (mWr (ofM (D.st [D.st [D.arr IntKind.u32 (8 : Nat) (mNew k).i.h.l, D.val (Value.int IntKind.u64 (↑(mNew k).i.n : Int)), D.arr IntKind.u8 (64 : Nat) (mNew k).i.l], D.st [D.arr IntKind.u32 (8 : Nat) (mNew k).o.h.l, D.val (Value.int IntKind.u64 (↑(mNew k).o.n : Int)), D.arr IntKind.u8 (64 : Nat) (mNew k).o.l]]))
                                              (List.take ((↑(32 : Nat) : Int).toNat - Int.toNat (0 : Int)) (List.drop (0 : Nat) (strN k p x)))).i.l],
                                        D.st
                                         [D.arr IntKind.u32 (8 : Nat)
                                           (mWr (ofM (D.st [D.st [D.arr IntKind.u32 (8 : Nat) (mNew k).i.h.l, D.val (Value.int IntKind.u64 (↑(mNew k).i.n : Int)), D.arr IntKind.u8 (64 : Nat) (mNew k).i.l], D.st [D.arr IntKind.u32 (8 : Nat) (mNew k).o.h.l, D.val (Value.int IntKind.u64 (↑(mNew k).o.n : Int)), D.arr IntKind.u8 (64 : Nat) (mNew k).o.l]]))
                                               (List.take ((↑(32 : Nat) : Int).toNat - Int.toNat (0 : Int)) (List.drop (0 : Nat) (strN k p x)))).o.h.l,
                                          D.val
                                           (Value.int IntKind.u64
                                            (↑(mWr (ofM (D.st [D.st [D.arr IntKind.u32 (8 : Nat) (mNew k).i.h.l, D.val (Value.int IntKind.u64 (↑(mNew k).i.n : Int)), D.arr IntKind.u8 (64 : Nat) (mNew k).i.l], D.st [D.arr IntKind.u32 (8 : Nat) (mNew k).o.h.l, D.val (Value.int IntKind.u64 (↑(mNew k).o.n : Int)), D.arr IntKind.u8 (64 : Nat) (mNew k).o.l]]))
                                                 (List.take ((↑(32 : Nat) : Int).toNat - Int.toNat (0 : Int)) (List.drop (0 : Nat) (strN k p x)))).o.n :
                                             Int)),
                                          D.arr IntKind.u8 (64 : Nat)
                                           (mWr (ofM (D.st [D.st [D.arr IntKind.u32 (8 : Nat) (mNew k).i.h.l, D.val (Value.int IntKind.u64 (↑(mNew k).i.n : Int)), D.arr IntKind.u8 (64 : Nat) (mNew k).i.l], D.st [D.arr IntKind.u32 (8 : Nat) (mNew k).o.h.l, D.val (Value.int IntKind.u64 (↑(mNew k).o.n : Int)), D.arr IntKind.u8 (64 : Nat) (mNew k).o.l]]))
                                              (List.take ((↑(32 : Nat) : Int).toNat - Int.toNat (0 : Int)) (List.drop (0 : Nat) (strN k p x)))).o.l]]))
                                     p).i.n :
                                 Int)),
                              D.arr IntKind.u8 (64 : Nat)
                               (mWr
                                  (ofM
                                   (D.st
                                    [D.st
                                      [D.arr IntKind.u32 (8 : Nat)
                                        (mWr (ofM (D.st [D.st [D.arr IntKind.u32 (8 : Nat) (mNew k).i.h.l, D.val (Value.int IntKind.u64 (↑(mNew k).i.n : Int)), D.arr IntKind.u8 (64 : Nat) (mNew k).i.l], D.st [D.arr IntKind.u32 (8 : Nat) (mNew k).o.h.l, D.val (Value.int IntKind.u64 (↑(mNew k).o.n : Int)), D.arr IntKind.u8 (64 : Nat) (mNew k).o.l]]))
                                            (List.take ((↑(32 : Nat) : Int).toNat - Int.toNat (0 : Int)) (List.drop (0 : Nat) (strN k p x)))).i.h.l,
                                       D.val
                                        (Value.int IntKind.u64
                                         (↑(mWr (ofM (D.st [D.st [D.arr IntKind.u32 (8 : Nat) (mNew k).i.h.l, D.val (Value.int IntKind.u64 (↑(mNew k).i.n : Int)), D.arr IntKind.u8 (64 : Nat) (mNew k).i.l], D.st [D.arr IntKind.u32 (8 : Nat) (mNew k).o.h.l, D.val (Value.int IntKind.u64 (↑(mNew k).o.n : Int)), D.arr IntKind.u8 (64 : Nat) (mNew k).o.l]]))
                                              (List.take ((↑(32 : Nat) : Int).toNat - Int.toNat (0 : Int)) (List.drop (0 : Nat) (strN k p x)))).i.n :
                                          Int)),
                                       D.arr IntKind.u8 (64 : Nat)
                                        (mWr (ofM (D.st [D.st [D.arr IntKind.u32 (8 : Nat) (mNew k).i.h.l, D.val (Value.int IntKind.u64 (↑(mNew k).i.n : Int)), D.arr IntKind.u8 (64 : Nat) (mNew k).i.l], D.st [D.arr IntKind.u32 (8 : Nat) (mNew k).o.h.l, D.val (Value.int IntKind.u64 (↑(mNew k).o.n : Int)), D.arr IntKind.u8 (64 : Nat) (mNew k).o.l]]))
                                           (List.take ((↑(32 : Nat) : Int).toNat - Int.toNat (0 : Int)) (List.drop (0 : Nat) (strN k p x)))).i.l],
                                     D.st
                                      [D.arr IntKind.u32 (8 : Nat)
                                        (mWr (ofM (D.st [D.st [D.arr IntKind.u32 (8 : Nat) (mNew k).i.h.l, D.val (Value.int IntKind.u64 (↑(mNew k).i.n : Int)), D.arr IntKind.u8 (64 : Nat) (mNew k).i.l], D.st [D.arr IntKind.u32 (8 : Nat) (mNew k).o.h.l, D.val (Value.int IntKind.u64 (↑(mNew k).o.n : Int)), D.arr IntKind.u8 (64 : Nat) (mNew k).o.l]]))
                                            (List.take ((↑(32 : Nat) : Int).toNat - Int.toNat (0 : Int)) (List.drop (0 : Nat) (strN k p x)))).o.h.l,
                                       D.val
                                        (Value.int IntKind.u64
                                         (↑(mWr (ofM (D.st [D.st [D.arr IntKind.u32 (8 : Nat) (mNew k).i.h.l, D.val (Value.int IntKind.u64 (↑(mNew k).i.n : Int)), D.arr IntKind.u8 (64 : Nat) (mNew k).i.l], D.st [D.arr IntKind.u32 (8 : Nat) (mNew k).o.h.l, D.val (Value.int IntKind.u64 (↑(mNew k).o.n : Int)), D.arr IntKind.u8 (64 : Nat) (mNew k).o.l]]))
                                              (List.take ((↑(32 : Nat) : Int).toNat - Int.toNat (0 : Int)) (List.drop (0 : Nat) (strN k p x)))).o.n :
                                          Int)),
                                       D.arr IntKind.u8 (64 : Nat)
                                        (mWr (ofM (D.st [D.st [D.arr IntKind.u32 (8 : Nat) (mNew k).i.h.l, D.val (Value.int IntKind.u64 (↑(mNew k).i.n : Int)), D.arr IntKind.u8 (64 : Nat) (mNew k).i.l], D.st [D.arr IntKind.u32 (8 : Nat) (mNew k).o.h.l, D.val (Value.int IntKind.u64 (↑(mNew k).o.n : Int)), D.arr IntKind.u8 (64 : Nat) (mNew k).o.l]]))
                                           (List.take ((↑(32 : Nat) : Int).toNat - Int.toNat (0 : Int)) (List.drop (0 : Nat) (strN k p x)))).o.l]]))
                                  p).i.l],
                            D.st
                             [D.arr IntKind.u32 (8 : Nat)
                               (mWr
                                   (ofM
                                    (D.st
                                     [D.st
                                       [D.arr IntKind.u32 (8 : Nat)
                                         (mWr (ofM (D.st [D.st [D.arr IntKind.u32 (8 : Nat) (mNew k).i.h.l, D.val (Value.int IntKind.u64 (↑(mNew k).i.n : Int)), D.arr IntKind.u8 (64 : Nat) (mNew k).i.l], D.st [D.arr IntKind.u32 (8 : Nat) (mNew k).o.h.l, D.val (Value.int IntKind.u64 (↑(mNew k).o.n : Int)), D.arr IntKind.u8 (64 : Nat) (mNew k).o.l]]))
                                             (List.take ((↑(32 : Nat) : Int).toNat - Int.toNat (0 : Int)) (List.drop (0 : Nat) (strN k p x)))).i.h.l,
                                        D.val
                                         (Value.int IntKind.u64
                                          (↑(mWr (ofM (D.st [D.st [D.arr IntKind.u32 (8 : Nat) (mNew k).i.h.l, D.val (Value.int IntKind.u64 (↑(mNew k).i.n : Int)), D.arr IntKind.u8 (64 : Nat) (mNew k).i.l], D.st [D.arr IntKind.u32 (8 : Nat) (mNew k).o.h.l, D.val (Value.int IntKind.u64 (↑(mNew k).o.n : Int)), D.arr IntKind.u8 (64 : Nat) (mNew k).o.l]]))
                                               (List.take ((↑(32 : Nat) : Int).toNat - Int.toNat (0 : Int)) (List.drop (0 : Nat) (strN k p x)))).i.n :
                                           Int)),
                                        D.arr IntKind.u8 (64 : Nat)
                                         (mWr (ofM (D.st [D.st [D.arr IntKind.u32 (8 : Nat) (mNew k).i.h.l, D.val (Value.int IntKind.u64 (↑(mNew k).i.n : Int)), D.arr IntKind.u8 (64 : Nat) (mNew k).i.l], D.st [D.arr IntKind.u32 (8 : Nat) (mNew k).o.h.l, D.val (Value.int IntKind.u64 (↑(mNew k).o.n : Int)), D.arr IntKind.u8 (64 : Nat) (mNew k).o.l]]))
                                            (List.take ((↑(32 : Nat) : Int).toNat - Int.toNat (0 : Int)) (List.drop (0 : Nat) (strN k p x)))).i.l],
                                      D.st
                                       [D.arr IntKind.u32 (8 : Nat)
                                         (mWr (ofM (D.st [D.st [D.arr IntKind.u32 (8 : Nat) (mNew k).i.h.l, D.val (Value.int IntKind.u64 (↑(mNew k).i.n : Int)), D.arr IntKind.u8 (64 : Nat) (mNew k).i.l], D.st [D.arr IntKind.u32 (8 : Nat) (mNew k).o.h.l, D.val (Value.int IntKind.u64 (↑(mNew k).o.n : Int)), D.arr IntKind.u8 (64 : Nat) (mNew k).o.l]]))
                                             (List.take ((↑(32 : Nat) : Int).toNat - Int.toNat (0 : Int)) (List.drop (0 : Nat) (strN k p x)))).o.h.l,
                                        D.val
                                         (Value.int IntKind.u64
                                          (↑(mWr (ofM (D.st [D.st [D.arr IntKind.u32 (8 : Nat) (mNew k).i.h.l, D.val (Value.int IntKind.u64 (↑(mNew k).i.n : Int)), D.arr IntKind.u8 (64 : Nat) (mNew k).i.l], D.st [D.arr IntKind.u32 (8 : Nat) (mNew k).o.h.l, D.val (Value.int IntKind.u64 (↑(mNew k).o.n : Int)), D.arr IntKind.u8 (64 : Nat) (mNew k).o.l]]))
                                               (List.take ((↑(32 : Nat) : Int).toNat - Int.toNat (0 : Int)) (List.drop (0 : Nat) (strN k p x)))).o.n :
                                           Int)),
                                        D.arr IntKind.u8 (64 : Nat)
                                         (mWr (ofM (D.st [D.st [D.arr IntKind.u32 (8 : Nat) (mNew k).i.h.l, D.val (Value.int IntKind.u64 (↑(mNew k).i.n : Int)), D.arr IntKind.u8 (64 : Nat) (mNew k).i.l], D.st [D.arr IntKind.u32 (8 : Nat) (mNew k).o.h.l, D.val (Value.int IntKind.u64 (↑(mNew k).o.n : Int)), D.arr IntKind.u8 (64 : Nat) (mNew k).o.l]]))
                                            (List.take ((↑(32 : Nat) : Int).toNat - Int.toNat (0 : Int)) (List.drop (0 : Nat) (strN k p x)))).o.l]]))
                                   p).o.h.l,
                              D.val
                               (Value.int IntKind.u64
                                (↑(mWr
                                     (ofM
                                      (D.st
                                       [D.st
                                         [D.arr IntKind.u32 (8 : Nat)
                                           (mWr (ofM (D.st [D.st [D.arr IntKind.u32 (8 : Nat) (mNew k).i.h.l, D.val (Value.int IntKind.u64 (↑(mNew k).i.n : Int)), D.arr IntKind.u8 (64 : Nat) (mNew k).i.l], D.st [D.arr IntKind.u32 (8 : Nat) (mNew k).o.h.l, D.val (Value.int IntKind.u64 (↑(mNew k).o.n : Int)), D.arr IntKind.u8 (64 : Nat) (mNew k).o.l]]))
                                               (List.take ((↑(32 : Nat) : Int).toNat - Int.toNat (0 : Int)) (List.drop (0 : Nat) (strN k p x)))).i.h.l,
                                          D.val
                                           (Value.int IntKind.u64
                                            (↑(mWr (ofM (D.st [D.st [D.arr IntKind.u32 (8 : Nat) (mNew k).i.h.l, D.val (Value.int IntKind.u64 (↑(mNew k).i.n : Int)), D.arr IntKind.u8 (64 : Nat) (mNew k).i.l], D.st [D.arr IntKind.u32 (8 : Nat) (mNew k).o.h.l, D.val (Value.int IntKind.u64 (↑(mNew k).o.n : Int)), D.arr IntKind.u8 (64 : Nat) (mNew k).o.l]]))
                                                 (List.take ((↑(32 : Nat) : Int).toNat - Int.toNat (0 : Int)) (List.drop (0 : Nat) (strN k p x)))).i.n :
                                             Int)),
                                          D.arr IntKind.u8 (64 : Nat)
                                           (mWr (ofM (D.st [D.st [D.arr IntKind.u32 (8 : Nat) (mNew k).i.h.l, D.val (Value.int IntKind.u64 (↑(mNew k).i.n : Int)), D.arr IntKind.u8 (64 : Nat) (mNew k).i.l], D.st [D.arr IntKind.u32 (8 : Nat) (mNew k).o.h.l, D.val (Value.int IntKind.u64 (↑(mNew k).o.n : Int)), D.arr IntKind.u8 (64 : Nat) (mNew k).o.l]]))
                                              (List.take ((↑(32 : Nat) : Int).toNat - Int.toNat (0 : Int)) (List.drop (0 : Nat) (strN k p x)))).i.l],
                                        D.st
                                         [D.arr IntKind.u32 (8 : Nat)
                                           (mWr (ofM (D.st [D.st [D.arr IntKind.u32 (8 : Nat) (mNew k).i.h.l, D.val (Value.int IntKind.u64 (↑(mNew k).i.n : Int)), D.arr IntKind.u8 (64 : Nat) (mNew k).i.l], D.st [D.arr IntKind.u32 (8 : Nat) (mNew k).o.h.l, D.val (Value.int IntKind.u64 (↑(mNew k).o.n : Int)), D.arr IntKind.u8 (64 : Nat) (mNew k).o.l]]))
                                               (List.take ((↑(32 : Nat) : Int).toNat - Int.toNat (0 : Int)) (List.drop (0 : Nat) (strN k p x)))).o.h.l,
                                          D.val
                                           (Value.int IntKind.u64
                                            (↑(mWr (ofM (D.st [D.st [D.arr IntKind.u32 (8 : Nat) (mNew k).i.h.l, D.val (Value.int IntKind.u64 (↑(mNew k).i.n : Int)), D.arr IntKind.u8 (64 : Nat) (mNew k).i.l], D.st [D.arr IntKind.u32 (8 : Nat) (mNew k).o.h.l, D.val (Value.int IntKind.u64 (↑(mNew k).o.n : Int)), D.arr IntKind.u8 (64 : Nat) (mNew k).o.l]]))
                                                 (List.take ((↑(32 : Nat) : Int).toNat - Int.toNat (0 : Int)) (List.drop (0 : Nat) (strN k p x)))).o.n :
                                             Int)),
                                          D.arr IntKind.u8 (64 : Nat)
                                           (mWr (ofM (D.st [D.st [D.arr IntKind.u32 (8 : Nat) (mNew k).i.h.l, D.val (Value.int IntKind.u64 (↑(mNew k).i.n : Int)), D.arr IntKind.u8 (64 : Nat) (mNew k).i.l], D.st [D.arr IntKind.u32 (8 : Nat) (mNew k).o.h.l, D.val (Value.int IntKind.u64 (↑(mNew k).o.n : Int)), D.arr IntKind.u8 (64 : Nat) (mNew k).o.l]]))
                                              (List.take ((↑(32 : Nat) : Int).toNat - Int.toNat (0 : Int)) (List.drop (0 : Nat) (strN k p x)))).o.l]]))
                                     p).o.n :
                                 Int)),
                              D.arr IntKind.u8 (64 : Nat)
                               (mWr
                                  (ofM
                                   (D.st
                                    [D.st
                                      [D.arr IntKind.u32 (8 : Nat)
                                        (mWr (ofM (D.st [D.st [D.arr IntKind.u32 (8 : Nat) (mNew k).i.h.l, D.val (Value.int IntKind.u64 (↑(mNew k).i.n : Int)), D.arr IntKind.u8 (64 : Nat) (mNew k).i.l], D.st [D.arr IntKind.u32 (8 : Nat) (mNew k).o.h.l, D.val (Value.int IntKind.u64 (↑(mNew k).o.n : Int)), D.arr IntKind.u8 (64 : Nat) (mNew k).o.l]]))
                                            (List.take ((↑(32 : Nat) : Int).toNat - Int.toNat (0 : Int)) (List.drop (0 : Nat) (strN k p x)))).i.h.l,
                                       D.val
                                        (Value.int IntKind.u64
                                         (↑(mWr (ofM (D.st [D.st [D.arr IntKind.u32 (8 : Nat) (mNew k).i.h.l, D.val (Value.int IntKind.u64 (↑(mNew k).i.n : Int)), D.arr IntKind.u8 (64 : Nat) (mNew k).i.l], D.st [D.arr IntKind.u32 (8 : Nat) (mNew k).o.h.l, D.val (Value.int IntKind.u64 (↑(mNew k).o.n : Int)), D.arr IntKind.u8 (64 : Nat) (mNew k).o.l]]))
                                              (List.take ((↑(32 : Nat) : Int).toNat - Int.toNat (0 : Int)) (List.drop (0 : Nat) (strN k p x)))).i.n :
                                          Int)),
                                       D.arr IntKind.u8 (64 : Nat)
                                        (mWr (ofM (D.st [D.st [D.arr IntKind.u32 (8 : Nat) (mNew k).i.h.l, D.val (Value.int IntKind.u64 (↑(mNew k).i.n : Int)), D.arr IntKind.u8 (64 : Nat) (mNew k).i.l], D.st [D.arr IntKind.u32 (8 : Nat) (mNew k).o.h.l, D.val (Value.int IntKind.u64 (↑(mNew k).o.n : Int)), D.arr IntKind.u8 (64 : Nat) (mNew k).o.l]]))
                                           (List.take ((↑(32 : Nat) : Int).toNat - Int.toNat (0 : Int)) (List.drop (0 : Nat) (strN k p x)))).i.l],
                                     D.st
                                      [D.arr IntKind.u32 (8 : Nat)
                                        (mWr (ofM (D.st [D.st [D.arr IntKind.u32 (8 : Nat) (mNew k).i.h.l, D.val (Value.int IntKind.u64 (↑(mNew k).i.n : Int)), D.arr IntKind.u8 (64 : Nat) (mNew k).i.l], D.st [D.arr IntKind.u32 (8 : Nat) (mNew k).o.h.l, D.val (Value.int IntKind.u64 (↑(mNew k).o.n : Int)), D.arr IntKind.u8 (64 : Nat) (mNew k).o.l]]))
                                            (List.take ((↑(32 : Nat) : Int).toNat - Int.toNat (0 : Int)) (List.drop (0 : Nat) (strN k p x)))).o.h.l,
                                       D.val
                                        (Value.int IntKind.u64
                                         (↑(mWr (ofM (D.st [D.st [D.arr IntKind.u32 (8 : Nat) (mNew k).i.h.l, D.val (Value.int IntKind.u64 (↑(mNew k).i.n : Int)), D.arr IntKind.u8 (64 : Nat) (mNew k).i.l], D.st [D.arr IntKind.u32 (8 : Nat) (mNew k).o.h.l, D.val (Value.int IntKind.u64 (↑(mNew k).o.n : Int)), D.arr IntKind.u8 (64 : Nat) (mNew k).o.l]]))
                                              (List.take ((↑(32 : Nat) : Int).toNat - Int.toNat (0 : Int)) (List.drop (0 : Nat) (strN k p x)))).o.n :
                                          Int)),
                                       D.arr IntKind.u8 (64 : Nat)
                                        (mWr (ofM (D.st [D.st [D.arr IntKind.u32 (8 : Nat) (mNew k).i.h.l, D.val (Value.int IntKind.u64 (↑(mNew k).i.n : Int)), D.arr IntKind.u8 (64 : Nat) (mNew k).i.l], D.st [D.arr IntKind.u32 (8 : Nat) (mNew k).o.h.l, D.val (Value.int IntKind.u64 (↑(mNew k).o.n : Int)), D.arr IntKind.u8 (64 : Nat) (mNew k).o.l]]))
                                           (List.take ((↑(32 : Nat) : Int).toNat - Int.toNat (0 : Int)) (List.drop (0 : Nat) (strN k p x)))).o.l]]))
                                  p).o.l]]] =
                         [D.st [D.st [D.arr IntKind.u32 (8 : Nat) s.i.h.l, D.val (Value.int IntKind.u64 (↑s.i.n : Int)), D.arr IntKind.u8 (64 : Nat) s.i.l], D.st [D.arr IntKind.u32 (8 : Nat) s.o.h.l, D.val (Value.int IntKind.u64 (↑s.o.n : Int)), D.arr IntKind.u8 (64 : Nat) s.o.l]]] ∧
                        okM s) ∧
                      (Sk.arr (32 : Nat) = Sk.arr (32 : Nat) ∧ (32 : Nat) ≠ (0 : Nat) ∧ (32 : Nat) = (32 : Nat) ∧ false = false) ∧
                       True ∧
                        True ∧
                         ((AV.d (D.val (Value.int IntKind.i64 (IntKind.i64.wrap ((↑x : Int) + (1 : Int))))) = AV.d (D.val (Value.int IntKind.i64 (↑(IntKind.i64.wrap ((↑x : Int) + (1 : Int))).toNat : Int))) ∧ True) ∧
                           (some
                               (Blk.fix
                                (D.arr IntKind.u8 (32 : Nat)
                                 [(0 : Int), (0 : Int), (0 : Int), (0 : Int), (0 : Int), (0 : Int), (0 : Int), (0 : Int), (0 : Int), (0 : Int), (0 : Int), (0 : Int), (0 : Int), (0 : Int), (0 : Int), (0 : Int), (0 : Int), (0 : Int), (0 : Int), (0 : Int), (0 : Int), (0 : Int), (0 : Int), (0 : Int), (0 : Int), (0 : Int), (0 : Int), (0 : Int), (0 : Int), (0 : Int),
                                  (0 : Int), (0 : Int)])) =
                              some
                               (Blk.fix
                                (D.arr IntKind.u8 (32 : Nat)
                                 [(0 : Int), (0 : Int), (0 : Int), (0 : Int), (0 : Int), (0 : Int), (0 : Int), (0 : Int), (0 : Int), (0 : Int), (0 : Int), (0 : Int), (0 : Int), (0 : Int), (0 : Int), (0 : Int), (0 : Int), (0 : Int), (0 : Int), (0 : Int), (0 : Int), (0 : Int), (0 : Int), (0 : Int), (0 : Int), (0 : Int), (0 : Int), (0 : Int), (0 : Int), (0 : Int),
                                  (0 : Int), (0 : Int)])) ∧
                             some
                                (Blk.fix
                                 (D.arr IntKind.u8 (32 : Nat)
                                  (mSum
                                   (ofM
                                    (D.st
                                     [D.st
                                       [D.arr IntKind.u32 (8 : Nat)
                                         (mWr
                                             (ofM
                                              (D.st
                                               [D.st
                                                 [D.arr IntKind.u32 (8 : Nat)
                                                   (mWr
                                                       (ofM
                                                        (D.st
                                                         [D.st [D.arr IntKind.u32 (8 : Nat) (mNew k).i.h.l, D.val (Value.int IntKind.u64 (↑(mNew k).i.n : Int)), D.arr IntKind.u8 (64 : Nat) (mNew k).i.l],
                                                          D.st [D.arr IntKind.u32 (8 : Nat) (mNew k).o.h.l, D.val (Value.int IntKind.u64 (↑(mNew k).o.n : Int)), D.arr IntKind.u8 (64 : Nat) (mNew k).o.l]]))
                                                       (List.take ((↑(32 : Nat) : Int).toNat - Int.toNat (0 : Int)) (List.drop (0 : Nat) (strN k p x)))).i.h.l,
                                                  D.val
                                                   (Value.int IntKind.u64
                                                    (↑(mWr
                                                         (ofM
                                                          (D.st
                                                           [D.st [D.arr IntKind.u32 (8 : Nat) (mNew k).i.h.l, D.val (Value.int IntKind.u64 (↑(mNew k).i.n : Int)), D.arr IntKind.u8 (64 : Nat) (mNew k).i.l],
                                                            D.st [D.arr IntKind.u32 (8 : Nat) (mNew k).o.h.l, D.val (Value.int IntKind.u64 (↑(mNew k).o.n : Int)), D.arr IntKind.u8 (64 : Nat) (mNew k).o.l]]))
                                                         (List.take ((↑(32 : Nat) : Int).toNat - Int.toNat (0 : Int)) (List.drop (0 : Nat) (strN k p x)))).i.n :
                                                     Int)),
                                                  D.arr IntKind.u8 (64 : Nat)
                                                   (mWr
                                                      (ofM
                                                       (D.st
                                                        [D.st [D.arr IntKind.u32 (8 : Nat) (mNew k).i.h.l, D.val (Value.int IntKind.u64 (↑(mNew k).i.n : Int)), D.arr IntKind.u8 (64 : Nat) (mNew k).i.l],
                                                         D.st [D.arr IntKind.u32 (8 : Nat) (mNew k).o.h.l, D.val (Value.int IntKind.u64 (↑(mNew k).o.n : Int)), D.arr IntKind.u8 (64 : Nat) (mNew k).o.l]]))
                                                      (List.take ((↑(32 : Nat) : Int).toNat - Int.toNat (0 : Int)) (List.drop (0 : Nat) (strN k p x)))).i.l],
                                                D.st
                                                 [D.arr IntKind.u32 (8 : Nat)
                                                   (mWr
                                                       (ofM
                                                        (D.st
                                                         [D.st [D.arr IntKind.u32 (8 : Nat) (mNew k).i.h.l, D.val (Value.int IntKind.u64 (↑(mNew k).i.n : Int)), D.arr IntKind.u8 (64 : Nat) (mNew k).i.l],
                                                          D.st [D.arr IntKind.u32 (8 : Nat) (mNew k).o.h.l, D.val (Value.int IntKind.u64 (↑(mNew k).o.n : Int)), D.arr IntKind.u8 (64 : Nat) (mNew k).o.l]]))
                                                       (List.take ((↑(32 : Nat) : Int).toNat - Int.toNat (0 : Int)) (List.drop (0 : Nat) (strN k p x)))).o.h.l,
                                                  D.val
                                                   (Value.int IntKind.u64
                                                    (↑(mWr
                                                         (ofM
                                                          (D.st
                                                           [D.st [D.arr IntKind.u32 (8 : Nat) (mNew k).i.h.l, D.val (Value.int IntKind.u64 (↑(mNew k).i.n : Int)), D.arr IntKind.u8 (64 : Nat) (mNew k).i.l],
                                                            D.st [D.arr IntKind.u32 (8 : Nat) (mNew k).o.h.l, D.val (Value.int IntKind.u64 (↑(mNew k).o.n : Int)), D.arr IntKind.u8 (64 : Nat) (mNew k).o.l]]))
                                                         (List.take ((↑(32 : Nat) : Int).toNat - Int.toNat (0 : Int)) (List.drop (0 : Nat) (strN k p x)))).o.n :
                                                     Int)),
                                                  D.arr IntKind.u8 (64 : Nat)
                                                   (mWr
                                                      (ofM
                                                       (D.st
                                                        [D.st [D.arr IntKind.u32 (8 : Nat) (mNew k).i.h.l, D.val (Value.int IntKind.u64 (↑(mNew k).i.n : Int)), D.arr IntKind.u8 (64 : Nat) (mNew k).i.l],
                                                         D.st [D.arr IntKind.u32 (8 : Nat) (mNew k).o.h.l, D.val (Value.int IntKind.u64 (↑(mNew k).o.n : Int)), D.arr IntKind.u8 (64 : Nat) (mNew k).o.l]]))
                                                      (List.take ((↑(32 : Nat) : Int).toNat - Int.toNat (0 : Int)) (List.drop (0 : Nat) (strN k p x)))).o.l]]))
                                             p).i.h.l,
                                        D.val
                                         (Value.int IntKind.u64
                                          (↑(mWr
                                               (ofM
                                                (D.st
                                                 [D.st
                                                   [D.arr IntKind.u32 (8 : Nat)
                                                     (mWr
                                                         (ofM
                                                          (D.st
                                                           [D.st [D.arr IntKind.u32 (8 : Nat) (mNew k).i.h.l, D.val (Value.int IntKind.u64 (↑(mNew k).i.n : Int)), D.arr IntKind.u8 (64 : Nat) (mNew k).i.l],
                                                            D.st [D.arr IntKind.u32 (8 : Nat) (mNew k).o.h.l, D.val (Value.int IntKind.u64 (↑(mNew k).o.n : Int)), D.arr IntKind.u8 (64 : Nat) (mNew k).o.l]]))
                                                         (List.take ((↑(32 : Nat) : Int).toNat - Int.toNat (0 : Int)) (List.drop (0 : Nat) (strN k p x)))).i.h.l,
                                                    D.val
                                                     (Value.int IntKind.u64
                                                      (↑(mWr
                                                           (ofM
                                                            (D.st
                                                             [D.st [D.arr IntKind.u32 (8 : Nat) (mNew k).i.h.l, D.val (Value.int IntKind.u64 (↑(mNew k).i.n : Int)), D.arr IntKind.u8 (64 : Nat) (mNew k).i.l],
                                                              D.st [D.arr IntKind.u32 (8 : Nat) (mNew k).o.h.l, D.val (Value.int IntKind.u64 (↑(mNew k).o.n : Int)), D.arr IntKind.u8 (64 : Nat) (mNew k).o.l]]))
                                                           (List.take ((↑(32 : Nat) : Int).toNat - Int.toNat (0 : Int)) (List.drop (0 : Nat) (strN k p x)))).i.n :
                                                       Int)),
                                                    D.arr IntKind.u8 (64 : Nat)
                                                     (mWr
                                                        (ofM
                                                         (D.st
                                                          [D.st [D.arr IntKind.u32 (8 : Nat) (mNew k).i.h.l, D.val (Value.int IntKind.u64 (↑(mNew k).i.n : Int)), D.arr IntKind.u8 (64 : Nat) (mNew k).i.l],
                                                           D.st [D.arr IntKind.u32 (8 : Nat) (mNew k).o.h.l, D.val (Value.int IntKind.u64 (↑(mNew k).o.n : Int)), D.arr IntKind.u8 (64 : Nat) (mNew k).o.l]]))
                                                        (List.take ((↑(32 : Nat) : Int).toNat - Int.toNat (0 : Int)) (List.drop (0 : Nat) (strN k p x)))).i.l],
                                                  D.st
                                                   [D.arr IntKind.u32 (8 : Nat)
                                                     (mWr
                                                         (ofM
                                                          (D.st
                                                           [D.st [D.arr IntKind.u32 (8 : Nat) (mNew k).i.h.l, D.val (Value.int IntKind.u64 (↑(mNew k).i.n : Int)), D.arr IntKind.u8 (64 : Nat) (mNew k).i.l],
                                                            D.st [D.arr IntKind.u32 (8 : Nat) (mNew k).o.h.l, D.val (Value.int IntKind.u64 (↑(mNew k).o.n : Int)), D.arr IntKind.u8 (64 : Nat) (mNew k).o.l]]))
                                                         (List.take ((↑(32 : Nat) : Int).toNat - Int.toNat (0 : Int)) (List.drop (0 : Nat) (strN k p x)))).o.h.l,
                                                    D.val
                                                     (Value.int IntKind.u64
                                                      (↑(mWr
                                                           (ofM
                                                            (D.st
                                                             [D.st [D.arr IntKind.u32 (8 : Nat) (mNew k).i.h.l, D.val (Value.int IntKind.u64 (↑(mNew k).i.n : Int)), D.arr IntKind.u8 (64 : Nat) (mNew k).i.l],
                                                              D.st [D.arr IntKind.u32 (8 : Nat) (mNew k).o.h.l, D.val (Value.int IntKind.u64 (↑(mNew k).o.n : Int)), D.arr IntKind.u8 (64 : Nat) (mNew k).o.l]]))
                                                           (List.take ((↑(32 : Nat) : Int).toNat - Int.toNat (0 : Int)) (List.drop (0 : Nat) (strN k p x)))).o.n :
                                                       Int)),
                                                    D.arr IntKind.u8 (64 : Nat)
                                                     (mWr
                                                        (ofM
                                                         (D.st
                                                          [D.st [D.arr IntKind.u32 (8 : Nat) (mNew k).i.h.l, D.val (Value.int IntKind.u64 (↑(mNew k).i.n : Int)), D.arr IntKind.u8 (64 : Nat) (mNew k).i.l],
                                                           D.st [D.arr IntKind.u32 (8 : Nat) (mNew k).o.h.l, D.val (Value.int IntKind.u64 (↑(mNew k).o.n : Int)), D.arr IntKind.u8 (64 : Nat) (mNew k).o.l]]))
                                                        (List.take ((↑(32 : Nat) : Int).toNat - Int.toNat (0 : Int)) (List.drop (0 : Nat) (strN k p x)))).o.l]]))
                                               p).i.n :
                                           Int)),
                                        D.arr IntKind.u8 (64 : Nat)
                                         (mWr
                                            (ofM
                                             (D.st
                                              [D.st
                                                [D.arr IntKind.u32 (8 : Nat)
                                                  (mWr
                                                      (ofM
                                                       (D.st
                                                        [D.st [D.arr IntKind.u32 (8 : Nat) (mNew k).i.h.l, D.val (Value.int IntKind.u64 (↑(mNew k).i.n : Int)), D.arr IntKind.u8 (64 : Nat) (mNew k).i.l],
                                                         D.st [D.arr IntKind.u32 (8 : Nat) (mNew k).o.h.l, D.val (Value.int IntKind.u64 (↑(mNew k).o.n : Int)), D.arr IntKind.u8 (64 : Nat) (mNew k).o.l]]))
                                                      (List.take ((↑(32 : Nat) : Int).toNat - Int.toNat (0 : Int)) (List.drop (0 : Nat) (strN k p x)))).i.h.l,
                                                 D.val
                                                  (Value.int IntKind.u64
                                                   (↑(mWr
                                                        (ofM
                                                         (D.st
                                                          [D.st [D.arr IntKind.u32 (8 : Nat) (mNew k).i.h.l, D.val (Value.int IntKind.u64 (↑(mNew k).i.n : Int)), D.arr IntKind.u8 (64 : Nat) (mNew k).i.l],
                                                           D.st [D.arr IntKind.u32 (8 : Nat) (mNew k).o.h.l, D.val (Value.int IntKind.u64 (↑(mNew k).o.n : Int)), D.arr IntKind.u8 (64 : Nat) (mNew k).o.l]]))
                                                        (List.take ((↑(32 : Nat) : Int).toNat - Int.toNat (0 : Int)) (List.drop (0 : Nat) (strN k p x)))).i.n :
                                                    Int)),
                                                 D.arr IntKind.u8 (64 : Nat)
                                                  (mWr
                                                     (ofM
                                                      (D.st
                                                       [D.st [D.arr IntKind.u32 (8 : Nat) (mNew k).i.h.l, D.val (Value.int IntKind.u64 (↑(mNew k).i.n : Int)), D.arr IntKind.u8 (64 : Nat) (mNew k).i.l],
                                                        D.st [D.arr IntKind.u32 (8 : Nat) (mNew k).o.h.l, D.val (Value.int IntKind.u64 (↑(mNew k).o.n : Int)), D.arr IntKind.u8 (64 : Nat) (mNew k).o.l]]))
                                                     (List.take ((↑(32 : Nat) : Int).toNat - Int.toNat (0 : Int)) (List.drop (0 : Nat) (strN k p x)))).i.l],
                                               D.st
                                                [D.arr IntKind.u32 (8 : Nat)
                                                  (mWr
                                                      (ofM
                                                       (D.st
                                                        [D.st [D.arr IntKind.u32 (8 : Nat) (mNew k).i.h.l, D.val (Value.int IntKind.u64 (↑(mNew k).i.n : Int)), D.arr IntKind.u8 (64 : Nat) (mNew k).i.l],
                                                         D.st [D.arr IntKind.u32 (8 : Nat) (mNew k).o.h.l, D.val (Value.int IntKind.u64 (↑(mNew k).o.n : Int)), D.arr IntKind.u8 (64 : Nat) (mNew k).o.l]]))
                                                      (List.take ((↑(32 : Nat) : Int).toNat - Int.toNat (0 : Int)) (List.drop (0 : Nat) (strN k p x)))).o.h.l,
                                                 D.val
                                                  (Value.int IntKind.u64
                                                   (↑(mWr
                                                        (ofM
                                                         (D.st
                                                          [D.st [D.arr IntKind.u32 (8 : Nat) (mNew k).i.h.l, D.val (Value.int IntKind.u64 (↑(mNew k).i.n : Int)), D.arr IntKind.u8 (64 : Nat) (mNew k).i.l],
                                                           D.st [D.arr IntKind.u32 (8 : Nat) (mNew k).o.h.l, D.val (Value.int IntKind.u64 (↑(mNew k).o.n : Int)), D.arr IntKind.u8 (64 : Nat) (mNew k).o.l]]))
                                                        (List.take ((↑(32 : Nat) : Int).toNat - Int.toNat (0 : Int)) (List.drop (0 : Nat) (strN k p x)))).o.n :
                                                    Int)),
                                                 D.arr IntKind.u8 (64 : Nat)
                                                  (mWr
                                                     (ofM
                                                      (D.st
                                                       [D.st [D.arr IntKind.u32 (8 : Nat) (mNew k).i.h.l, D.val (Value.int IntKind.u64 (↑(mNew k).i.n : Int)), D.arr IntKind.u8 (64 : Nat) (mNew k).i.l],
                                                        D.st [D.arr IntKind.u32 (8 : Nat) (mNew k).o.h.l, D.val (Value.int IntKind.u64 (↑(mNew k).o.n : Int)), D.arr IntKind.u8 (64 : Nat) (mNew k).o.l]]))
                                                     (List.take ((↑(32 : Nat) : Int).toNat - Int.toNat (0 : Int)) (List.drop (0 : Nat) (strN k p x)))).o.l]]))
                                            p).i.l],
                                      D.st
                                       [D.arr IntKind.u32 (8 : Nat)
                                         (mWr
                                             (ofM
                                              (D.st
                                               [D.st
                                                 [D.arr IntKind.u32 (8 : Nat)
                                                   (mWr
                                                       (ofM
                                                        (D.st
                                                         [D.st [D.arr IntKind.u32 (8 : Nat) (mNew k).i.h.l, D.val (Value.int IntKind.u64 (↑(mNew k).i.n : Int)), D.arr IntKind.u8 (64 : Nat) (mNew k).i.l],
                                                          D.st [D.arr IntKind.u32 (8 : Nat) (mNew k).o.h.l, D.val (Value.int IntKind.u64 (↑(mNew k).o.n : Int)), D.arr IntKind.u8 (64 : Nat) (mNew k).o.l]]))
                                                       (List.take ((↑(32 : Nat) : Int).toNat - Int.toNat (0 : Int)) (List.drop (0 : Nat) (strN k p x)))).i.h.l,
                                                  D.val
                                                   (Value.int IntKind.u64
                                                    (↑(mWr
                                                         (ofM
                                                          (D.st
                                                           [D.st [D.arr IntKind.u32 (8 : Nat) (mNew k).i.h.l, D.val (Value.int IntKind.u64 (↑(mNew k).i.n : Int)), D.arr IntKind.u8 (64 : Nat) (mNew k).i.l],
                                                            D.st [D.arr IntKind.u32 (8 : Nat) (mNew k).o.h.l, D.val (Value.int IntKind.u64 (↑(mNew k).o.n : Int)), D.arr IntKind.u8 (64 : Nat) (mNew k).o.l]]))
                                                         (List.take ((↑(32 : Nat) : Int).toNat - Int.toNat (0 : Int)) (List.drop (0 : Nat) (strN k p x)))).i.n :
                                                     Int)),
                                                  D.arr IntKind.u8 (64 : Nat)
                                                   (mWr
                                                      (ofM
                                                       (D.st
                                                        [D.st [D.arr IntKind.u32 (8 : Nat) (mNew k).i.h.l, D.val (Value.int IntKind.u64 (↑(mNew k).i.n : Int)), D.arr IntKind.u8 (64 : Nat) (mNew k).i.l],
                                                         D.st [D.arr IntKind.u32 (8 : Nat) (mNew k).o.h.l, D.val (Value.int IntKind.u64 (↑(mNew k).o.n : Int)), D.arr IntKind.u8 (64 : Nat) (mNew k).o.l]]))
                                                      (List.take ((↑(32 : Nat) : Int).toNat - Int.toNat (0 : Int)) (List.drop (0 : Nat) (strN k p x)))).i.l],
                                                D.st
                                                 [D.arr IntKind.u32 (8 : Nat)
                                                   (mWr
                                                       (ofM
                                                        (D.st
                                                         [D.st [D.arr IntKind.u32 (8 : Nat) (mNew k).i.h.l, D.val (Value.int IntKind.u64 (↑(mNew k).i.n : Int)), D.arr IntKind.u8 (64 : Nat) (mNew k).i.l],
                                                          D.st [D.arr IntKind.u32 (8 : Nat) (mNew k).o.h.l, D.val (Value.int IntKind.u64 (↑(mNew k).o.n : Int)), D.arr IntKind.u8 (64 : Nat) (mNew k).o.l]]))
                                                       (List.take ((↑(32 : Nat) : Int).toNat - Int.toNat (0 : Int)) (List.drop (0 : Nat) (strN k p x)))).o.h.l,
                                                  D.val
                                                   (Value.int IntKind.u64
                                                    (↑(mWr
                                                         (ofM
                                                          (D.st
                                                           [D.st [D.arr IntKind.u32 (8 : Nat) (mNew k).i.h.l, D.val (Value.int IntKind.u64 (↑(mNew k).i.n : Int)), D.arr IntKind.u8 (64 : Nat) (mNew k).i.l],
                                                            D.st [D.arr IntKind.u32 (8 : Nat) (mNew k).o.h.l, D.val (Value.int IntKind.u64 (↑(mNew k).o.n : Int)), D.arr IntKind.u8 (64 : Nat) (mNew k).o.l]]))
                                                         (List.take ((↑(32 : Nat) : Int).toNat - Int.toNat (0 : Int)) (List.drop (0 : Nat) (strN k p x)))).o.n :
                                                     Int)),
                                                  D.arr IntKind.u8 (64 : Nat)
                                                   (mWr
                                                      (ofM
                                                       (D.st
                                                        [D.st [D.arr IntKind.u32 (8 : Nat) (mNew k).i.h.l, D.val (Value.int IntKind.u64 (↑(mNew k).i.n : Int)), D.arr IntKind.u8 (64 : Nat) (mNew k).i.l],
                                                         D.st [D.arr IntKind.u32 (8 : Nat) (mNew k).o.h.l, D.val (Value.int IntKind.u64 (↑(mNew k).o.n : Int)), D.arr IntKind.u8 (64 : Nat) (mNew k).o.l]]))
                                                      (List.take ((↑(32 : Nat) : Int).toNat - Int.toNat (0 : Int)) (List.drop (0 : Nat) (strN k p x)))).o.l]]))
                                             p).o.h.l,
                                        D.val
                                         (Value.int IntKind.u64
                                          (↑(mWr
                                               (ofM
                                                (D.st
                                                 [D.st
                                                   [D.arr IntKind.u32 (8 : Nat)
                                                     (mWr
                                                         (ofM
                                                          (D.st
                                                           [D.st [D.arr IntKind.u32 (8 : Nat) (mNew k).i.h.l, D.val (Value.int IntKind.u64 (↑(mNew k).i.n : Int)), D.arr IntKind.u8 (64 : Nat) (mNew k).i.l],
                                                            D.st [D.arr IntKind.u32 (8 : Nat) (mNew k).o.h.l, D.val (Value.int IntKind.u64 (↑(mNew k).o.n : Int)), D.arr IntKind.u8 (64 : Nat) (mNew k).o.l]]))
                                                         (List.take ((↑(32 : Nat) : Int).toNat - Int.toNat (0 : Int)) (List.drop (0 : Nat) (strN k p x)))).i.h.l,
                                                    D.val
                                                     (Value.int IntKind.u64
                                                      (↑(mWr
                                                           (ofM
                                                            (D.st
                                                             [D.st [D.arr IntKind.u32 (8 : Nat) (mNew k).i.h.l, D.val (Value.int IntKind.u64 (↑(mNew k).i.n : Int)), D.arr IntKind.u8 (64 : Nat) (mNew k).i.l],
                                                              D.st [D.arr IntKind.u32 (8 : Nat) (mNew k).o.h.l, D.val (Value.int IntKind.u64 (↑(mNew k).o.n : Int)), D.arr IntKind.u8 (64 : Nat) (mNew k).o.l]]))
                                                           (List.take ((↑(32 : Nat) : Int).toNat - Int.toNat (0 : Int)) (List.drop (0 : Nat) (strN k p x)))).i.n :
                                                       Int)),
                                                    D.arr IntKind.u8 (64 : Nat)
                                                     (mWr
                                                        (ofM
                                                         (D.st
                                                          [D.st [D.arr IntKind.u32 (8 : Nat) (mNew k).i.h.l, D.val (Value.int IntKind.u64 (↑(mNew k).i.n : Int)), D.arr IntKind.u8 (64 : Nat) (mNew k).i.l],
                                                           D.st [D.arr IntKind.u32 (8 : Nat) (mNew k).o.h.l, D.val (Value.int IntKind.u64 (↑(mNew k).o.n : Int)), D.arr IntKind.u8 (64 : Nat) (mNew k).o.l]]))
                                                        (List.take ((↑(32 : Nat) : Int).toNat - Int.toNat (0 : Int)) (List.drop (0 : Nat) (strN k p x)))).i.l],
                                                  D.st
                                                   [D.arr IntKind.u32 (8 : Nat)
                                                     (mWr
                                                         (ofM
                                                          (D.st
                                                           [D.st [D.arr IntKind.u32 (8 : Nat) (mNew k).i.h.l, D.val (Value.int IntKind.u64 (↑(mNew k).i.n : Int)), D.arr IntKind.u8 (64 : Nat) (mNew k).i.l],
                                                            D.st [D.arr IntKind.u32 (8 : Nat) (mNew k).o.h.l, D.val (Value.int IntKind.u64 (↑(mNew k).o.n : Int)), D.arr IntKind.u8 (64 : Nat) (mNew k).o.l]]))
                                                         (List.take ((↑(32 : Nat) : Int).toNat - Int.toNat (0 : Int)) (List.drop (0 : Nat) (strN k p x)))).o.h.l,
                                                    D.val
                                                     (Value.int IntKind.u64
                                                      (↑(mWr
                                                           (ofM
                                                            (D.st
                                                             [D.st [D.arr IntKind.u32 (8 : Nat) (mNew k).i.h.l, D.val (Value.int IntKind.u64 (↑(mNew k).i.n : Int)), D.arr IntKind.u8 (64 : Nat) (mNew k).i.l],
                                                              D.st [D.arr IntKind.u32 (8 : Nat) (mNew k).o.h.l, D.val (Value.int IntKind.u64 (↑(mNew k).o.n : Int)), D.arr IntKind.u8 (64 : Nat) (mNew k).o.l]]))
                                                           (List.take ((↑(32 : Nat) : Int).toNat - Int.toNat (0 : Int)) (List.drop (0 : Nat) (strN k p x)))).o.n :
                                                       Int)),
                                                    D.arr IntKind.u8 (64 : Nat)
                                                     (mWr
                                                        (ofM
                                                         (D.st
                                                          [D.st [D.arr IntKind.u32 (8 : Nat) (mNew k).i.h.l, D.val (Value.int IntKind.u64 (↑(mNew k).i.n : Int)), D.arr IntKind.u8 (64 : Nat) (mNew k).i.l],
                                                           D.st [D.arr IntKind.u32 (8 : Nat) (mNew k).o.h.l, D.val (Value.int IntKind.u64 (↑(mNew k).o.n : Int)), D.arr IntKind.u8 (64 : Nat) (mNew k).o.l]]))
                                                        (List.take ((↑(32 : Nat) : Int).toNat - Int.toNat (0 : Int)) (List.drop (0 : Nat) (strN k p x)))).o.l]]))
                                               p).o.n :
                                           Int)),
                                        D.arr IntKind.u8 (64 : Nat)
                                         (mWr
                                            (ofM
                                             (D.st
                                              [D.st
                                                [D.arr IntKind.u32 (8 : Nat)
                                                  (mWr
                                                      (ofM
                                                       (D.st
                                                        [D.st [D.arr IntKind.u32 (8 : Nat) (mNew k).i.h.l, D.val (Value.int IntKind.u64 (↑(mNew k).i.n : Int)), D.arr IntKind.u8 (64 : Nat) (mNew k).i.l],
                                                         D.st [D.arr IntKind.u32 (8 : Nat) (mNew k).o.h.l, D.val (Value.int IntKind.u64 (↑(mNew k).o.n : Int)), D.arr IntKind.u8 (64 : Nat) (mNew k).o.l]]))
                                                      (List.take ((↑(32 : Nat) : Int).toNat - Int.toNat (0 : Int)) (List.drop (0 : Nat) (strN k p x)))).i.h.l,
                                                 D.val
                                                  (Value.int IntKind.u64
                                                   (↑(mWr
                                                        (ofM
                                                         (D.st
                                                          [D.st [D.arr IntKind.u32 (8 : Nat) (mNew k).i.h.l, D.val (Value.int IntKind.u64 (↑(mNew k).i.n : Int)), D.arr IntKind.u8 (64 : Nat) (mNew k).i.l],
                                                           D.st [D.arr IntKind.u32 (8 : Nat) (mNew k).o.h.l, D.val (Value.int IntKind.u64 (↑(mNew k).o.n : Int)), D.arr IntKind.u8 (64 : Nat) (mNew k).o.l]]))
                                                        (List.take ((↑(32 : Nat) : Int).toNat - Int.toNat (0 : Int)) (List.drop (0 : Nat) (strN k p x)))).i.n :
                                                    Int)),
                                                 D.arr IntKind.u8 (64 : Nat)
                                                  (mWr
                                                     (ofM
                                                      (D.st
                                                       [D.st [D.arr IntKind.u32 (8 : Nat) (mNew k).i.h.l, D.val (Value.int IntKind.u64 (↑(mNew k).i.n : Int)), D.arr IntKind.u8 (64 : Nat) (mNew k).i.l],
                                                        D.st [D.arr IntKind.u32 (8 : Nat) (mNew k).o.h.l, D.val (Value.int IntKind.u64 (↑(mNew k).o.n : Int)), D.arr IntKind.u8 (64 : Nat) (mNew k).o.l]]))
                                                     (List.take ((↑(32 : Nat) : Int).toNat - Int.toNat (0 : Int)) (List.drop (0 : Nat) (strN k p x)))).i.l],
                                               D.st
                                                [D.arr IntKind.u32 (8 : Nat)
                                                  (mWr
                                                      (ofM
                                                       (D.st
                                                        [D.st [D.arr IntKind.u32 (8 : Nat) (mNew k).i.h.l, D.val (Value.int IntKind.u64 (↑(mNew k).i.n : Int)), D.arr IntKind.u8 (64 : Nat) (mNew k).i.l],
                                                         D.st [D.arr IntKind.u32 (8 : Nat) (mNew k).o.h.l, D.val (Value.int IntKind.u64 (↑(mNew k).o.n : Int)), D.arr IntKind.u8 (64 : Nat) (mNew k).o.l]]))
                                                      (List.take ((↑(32 : Nat) : Int).toNat - Int.toNat (0 : Int)) (List.drop (0 : Nat) (strN k p x)))).o.h.l,
                                                 D.val
                                                  (Value.int IntKind.u64
                                                   (↑(mWr
                                                        (ofM
                                                         (D.st
                                                          [D.st [D.arr IntKind.u32 (8 : Nat) (mNew k).i.h.l, D.val (Value.int IntKind.u64 (↑(mNew k).i.n : Int)), D.arr IntKind.u8 (64 : Nat) (mNew k).i.l],
                                                           D.st [D.arr IntKind.u32 (8 : Nat) (mNew k).o.h.l, D.val (Value.int IntKind.u64 (↑(mNew k).o.n : Int)), D.arr IntKind.u8 (64 : Nat) (mNew k).o.l]]))
                                                        (List.take ((↑(32 : Nat) : Int).toNat - Int.toNat (0 : Int)) (List.drop (0 : Nat) (strN k p x)))).o.n :
                                                    Int)),
                                                 D.arr IntKind.u8 (64 : Nat)
                                                  (mWr
                                                     (ofM
                                                      (D.st
                                                       [D.st [D.arr IntKind.u32 (8 : Nat) (mNew k).i.h.l, D.val (Value.int IntKind.u64 (↑(mNew k).i.n : Int)), D.arr IntKind.u8 (64 : Nat) (mNew k).i.l],
                                                        D.st [D.arr IntKind.u32 (8 : Nat) (mNew k).o.h.l, D.val (Value.int IntKind.u64 (↑(mNew k).o.n : Int)), D.arr IntKind.u8 (64 : Nat) (mNew k).o.l]]))
                                                     (List.take ((↑(32 : Nat) : Int).toNat - Int.toNat (0 : Int)) (List.drop (0 : Nat) (strN k p x)))).o.l]]))
                                            p).o.l]]))))) =
                               some (Blk.fix (D.arr IntKind.u8 (32 : Nat) (strN k p (IntKind.i64.wrap ((↑x : Int) + (1 : Int))).toNat))) ∧
                              True) ∧
                            true = true) ∧
                          (IntKind.i64.wrap ((↑x : Int) + (1 : Int))).toNat ≤ (8 : Nat) ∧ (8 : Nat) - (IntKind.i64.wrap ((↑x : Int) + (1 : Int))).toNat < (8 : Nat) - x
              | false => ((32 : Nat) ≠ (0 : Nat) ∧ (32 : Nat) = (32 : Nat) ∧ true = true) ∧ (Sk.arr (32 : Nat) = Sk.arr (32 : Nat) ∧ (32 : Nat) ≠ (0 : Nat) ∧ (32 : Nat) = (32 : Nat) ∧ false = false) ∧ (((32 : Nat) ≠ (0 : Nat) ∧ (32 : Nat) = (32 : Nat) ∧ true = true) ∧ True) ∧ D.arr IntKind.u8 (32 : Nat) (strN k p x) = F) := by kernel_rfl
set_option maxRecDepth 100000 in
theorem vc28  (k p : List Int) (F : D)  :
    (owed c28 (inv32 k p) Tryd.f28 [.str k, .str p] F) = (
 (True ∧ (32 : Nat) ≠ (0 : Nat)) ∧
   True ∧
    True ∧
     (∃ (k_1 : List Int), ∃ (p_1 : List Int), [D.str k, D.str p] = [D.str k_1, D.str p_1] ∧ isB k_1 ∧ isBytes p_1 ∧ p_1.length ≤ (500000000000000 : Nat)) ∧
      (True ∧ (32 : Nat) ≠ (0 : Nat)) ∧
       (Sk.arr (32 : Nat) = Sk.arr (32 : Nat) ∧ (32 : Nat) ≠ (0 : Nat) ∧ (32 : Nat) = (32 : Nat) ∧ false = false) ∧
        True ∧
         (((AV.d (D.val (Value.int IntKind.i64 (0 : Int))) = AV.d (D.val (Value.int IntKind.i64 (↑(Int.toNat (0 : Int)) : Int))) ∧ True) ∧
            (some
                (Blk.fix
                 (D.arr IntKind.u8 (32 : Nat)
                  [(0 : Int), (0 : Int), (0 : Int), (0 : Int), (0 : Int), (0 : Int), (0 : Int), (0 : Int), (0 : Int), (0 : Int), (0 : Int), (0 : Int), (0 : Int), (0 : Int), (0 : Int), (0 : Int), (0 : Int), (0 : Int), (0 : Int), (0 : Int), (0 : Int), (0 : Int), (0 : Int), (0 : Int), (0 : Int), (0 : Int), (0 : Int), (0 : Int), (0 : Int), (0 : Int), (0 : Int), (0 : Int)])) =
               some
                (Blk.fix
                 (D.arr IntKind.u8 (32 : Nat)
                  [(0 : Int), (0 : Int), (0 : Int), (0 : Int), (0 : Int), (0 : Int), (0 : Int), (0 : Int), (0 : Int), (0 : Int), (0 : Int), (0 : Int), (0 : Int), (0 : Int), (0 : Int), (0 : Int), (0 : Int), (0 : Int), (0 : Int), (0 : Int), (0 : Int), (0 : Int), (0 : Int), (0 : Int), (0 : Int), (0 : Int), (0 : Int), (0 : Int), (0 : Int), (0 : Int), (0 : Int), (0 : Int)])) ∧
              some (Blk.fix (D.arr IntKind.u8 (32 : Nat) (mkL k p))) = some (Blk.fix (D.arr IntKind.u8 (32 : Nat) (strN k p (Int.toNat (0 : Int))))) ∧ True) ∧
             true = true) ∧
           Int.toNat (0 : Int) ≤ (8 : Nat)) ∧
          ∀ (x : Nat),
           x ≤ (8 : Nat) →
            true = true ∧
             True ∧
              match decide ((↑x : Int) < (8 : Int)) with
              | true =>
               True ∧
                ((0 : Int) ≤ (0 : Int) ∧ (0 : Int) ≤ (↑(32 : Nat) : Int) ∧ (↑(32 : Nat) : Int) ≤ (↑(32 : Nat) : Int) ∧ (32 : Nat) = (32 : Nat) ∧ (1 : Nat) = (1 : Nat)) ∧
                 isBytes (List.take ((↑(32 : Nat) : Int).toNat - Int.toNat (0 : Int)) (List.drop (0 : Nat) (strN k p x))) ∧
                  True ∧
                   (↑((List.take ((↑(32 : Nat) : Int).toNat - Int.toNat (0 : Int)) (List.drop (0 : Nat) (strN k p x))).length + p.length) : Int) ≤ (9223372036854775807 : Int) ∧
                    (∃ (k_1 : List Int), ∃ (p_1 : List Int), [D.str k, D.str (List.take ((↑(32 : Nat) : Int).toNat - Int.toNat (0 : Int)) (List.drop (0 : Nat) (strN k p x)) ++ p)] = [D.str k_1, D.str p_1] ∧ isB k_1 ∧ isBytes p_1 ∧ p_1.length ≤ (500000000000000 : Nat)) ∧
                     (Sk.arr (32 : Nat) = Sk.arr (32 : Nat) ∧ (32 : Nat) ≠ (0 : Nat) ∧ (32 : Nat) = (32 : Nat) ∧ false = false) ∧
                      True ∧
                       True ∧
                        ((AV.d (D.val (Value.int IntKind.i64 (IntKind.i64.wrap ((↑x : Int) + (1 : Int))))) = AV.d (D.val (Value.int IntKind.i64 (↑(IntKind.i64.wrap ((↑x : Int) + (1 : Int))).toNat : Int))) ∧ True) ∧
                          (some
                              (Blk.fix
                               (D.arr IntKind.u8 (32 : Nat)
                                [(0 : Int), (0 : Int), (0 : Int), (0 : Int), (0 : Int), (0 : Int), (0 : Int), (0 : Int), (0 : Int), (0 : Int), (0 : Int), (0 : Int), (0 : Int), (0 : Int), (0 : Int), (0 : Int), (0 : Int), (0 : Int), (0 : Int), (0 : Int), (0 : Int), (0 : Int), (0 : Int), (0 : Int), (0 : Int), (0 : Int), (0 : Int), (0 : Int), (0 : Int), (0 : Int),
                                 (0 : Int), (0 : Int)])) =
                             some
                              (Blk.fix
                               (D.arr IntKind.u8 (32 : Nat)
                                [(0 : Int), (0 : Int), (0 : Int), (0 : Int), (0 : Int), (0 : Int), (0 : Int), (0 : Int), (0 : Int), (0 : Int), (0 : Int), (0 : Int), (0 : Int), (0 : Int), (0 : Int), (0 : Int), (0 : Int), (0 : Int), (0 : Int), (0 : Int), (0 : Int), (0 : Int), (0 : Int), (0 : Int), (0 : Int), (0 : Int), (0 : Int), (0 : Int), (0 : Int), (0 : Int),
                                 (0 : Int), (0 : Int)])) ∧
                            some (Blk.fix (D.arr IntKind.u8 (32 : Nat) (mkL k (List.take ((↑(32 : Nat) : Int).toNat - Int.toNat (0 : Int)) (List.drop (0 : Nat) (strN k p x)) ++ p)))) = some (Blk.fix (D.arr IntKind.u8 (32 : Nat) (strN k p (IntKind.i64.wrap ((↑x : Int) + (1 : Int))).toNat))) ∧ True) ∧
                           true = true) ∧
                         (IntKind.i64.wrap ((↑x : Int) + (1 : Int))).toNat ≤ (8 : Nat) ∧ (8 : Nat) - (IntKind.i64.wrap ((↑x : Int) + (1 : Int))).toNat < (8 : Nat) - x
              | false => ((32 : Nat) ≠ (0 : Nat) ∧ (32 : Nat) = (32 : Nat) ∧ true = true) ∧ (Sk.arr (32 : Nat) = Sk.arr (32 : Nat) ∧ (32 : Nat) ≠ (0 : Nat) ∧ (32 : Nat) = (32 : Nat) ∧ false = false) ∧ (((32 : Nat) ≠ (0 : Nat) ∧ (32 : Nat) = (32 : Nat) ∧ true = true) ∧ True) ∧ D.arr IntKind.u8 (32 : Nat) (strN k p x) = F) := by kernel_rfl
set_option maxRecDepth 100000 in
theorem vc25  (s m : List Int) (n : Int) (F : D)  :
    (owedNew c25 (fun _ => none) Tryd.f25 [.ints .u8 s, keptD m n] F) = (
 (True ∧ false = false) ∧
   True ∧
    True ∧
     (Sk.st [Sk.arr (32 : Nat), Sk.one] = Sk.st [Sk.arr (32 : Nat), Sk.one] ∧ (1 : Nat) < (2 : Nat)) ∧
      ((1 : Nat) ≠ (0 : Nat) ∧ (1 : Nat) = (1 : Nat) ∧ false = false) ∧
       True ∧
        True ∧
         match decide (n < (0 : Int)) with
         | true => True ∧ True ∧ True ∧ False
         | false =>
          (Sk.st [Sk.arr (32 : Nat), Sk.one] = Sk.st [Sk.arr (32 : Nat), Sk.one] ∧ (1 : Nat) < (2 : Nat)) ∧
           ((1 : Nat) ≠ (0 : Nat) ∧ (1 : Nat) = (1 : Nat) ∧ false = false) ∧
            True ∧
             True ∧
              match decide (n > (3 : Int)) with
              | true => True ∧ True ∧ False
              | false =>
               True ∧
                (∃ (l : List Int), [D.ints IntKind.u8 s] = [D.ints IntKind.u8 l] ∧ isP l) ∧
                 ((33 : Nat) ≠ (0 : Nat) ∧ (33 : Nat) = (33 : Nat) ∧ true = true) ∧
                  (false = false ∧ ((0 : Nat) < (2 : Nat) ∧ Sk.one = Sk.one) ∧ false = false ∧ ((1 : Nat) < (2 : Nat) ∧ Sk.st [Sk.arr (32 : Nat), Sk.one] = Sk.st [Sk.arr (32 : Nat), Sk.one]) ∧ True) ∧
                   (True ∧ false = false) ∧ True ∧ True ∧ (false = false ∧ True) ∧ True ∧ D.tup [D.st [D.ints IntKind.u8 s, D.st [D.arr IntKind.u8 (32 : Nat) m, D.val (Value.int IntKind.i64 n)]], D.val (Value.int IntKind.i64 (0 : Int))] = F) := by kernel_rfl
set_option maxRecDepth 100000 in
theorem vc25b  (s m : List Int) (n : Int) (F : D)  :
    (owed c25 (fun _ => none) Tryd.f25 [.ints .u8 s, keptD m n] F) = (
 (True ∧ false = false) ∧
   True ∧
    True ∧
     (Sk.st [Sk.arr (32 : Nat), Sk.one] = Sk.st [Sk.arr (32 : Nat), Sk.one] ∧ (1 : Nat) < (2 : Nat)) ∧
      ((1 : Nat) ≠ (0 : Nat) ∧ (1 : Nat) = (1 : Nat) ∧ false = false) ∧
       True ∧
        True ∧
         match decide (n < (0 : Int)) with
         | true => True ∧ True ∧ True ∧ (false = false ∧ false = false ∧ True) ∧ D.tup [D.val (Value.pointer none), D.val (Value.int IntKind.i64 (1 : Int))] = F
         | false =>
          (Sk.st [Sk.arr (32 : Nat), Sk.one] = Sk.st [Sk.arr (32 : Nat), Sk.one] ∧ (1 : Nat) < (2 : Nat)) ∧
           ((1 : Nat) ≠ (0 : Nat) ∧ (1 : Nat) = (1 : Nat) ∧ false = false) ∧
            True ∧
             True ∧
              match decide (n > (3 : Int)) with
              | true => True ∧ True ∧ (false = false ∧ false = false ∧ True) ∧ D.tup [D.val (Value.pointer none), D.val (Value.int IntKind.i64 (1 : Int))] = F
              | false =>
               True ∧
                (∃ (l : List Int), [D.ints IntKind.u8 s] = [D.ints IntKind.u8 l] ∧ isP l) ∧
                 ((33 : Nat) ≠ (0 : Nat) ∧ (33 : Nat) = (33 : Nat) ∧ true = true) ∧
                  (false = false ∧ ((0 : Nat) < (2 : Nat) ∧ Sk.one = Sk.one) ∧ false = false ∧ ((1 : Nat) < (2 : Nat) ∧ Sk.st [Sk.arr (32 : Nat), Sk.one] = Sk.st [Sk.arr (32 : Nat), Sk.one]) ∧ True) ∧
                   (True ∧ false = false) ∧ True ∧ True ∧ (false = false ∧ false = false ∧ True) ∧ D.tup [(D.st [D.ints IntKind.u8 s, D.st [D.arr IntKind.u8 (32 : Nat) m, D.val (Value.int IntKind.i64 n)]]).ref, D.val (Value.int IntKind.i64 (0 : Int))] = F) := by kernel_rfl
set_option maxRecDepth 100000 in
theorem vc26  (s m : List Int) (n : Int) (F : D)  :
    (owed c0 (fun _ => none) Tryd.f26 [.ref (lockD s m n)] F) = (
 (True ∧ (33 : Nat) ≠ (0 : Nat)) ∧
   True ∧
    True ∧
     (Sk.st [Sk.one, Sk.st [Sk.arr (32 : Nat), Sk.one]] = Sk.st [Sk.one, Sk.st [Sk.arr (32 : Nat), Sk.one]] ∧ (1 : Nat) < (2 : Nat)) ∧
      ((33 : Nat) ≠ (0 : Nat) ∧ (33 : Nat) = (33 : Nat) ∧ true = true) ∧ (Sk.st [Sk.arr (32 : Nat), Sk.one] = Sk.st [Sk.arr (32 : Nat), Sk.one] ∧ (33 : Nat) ≠ (0 : Nat) ∧ (33 : Nat) = (33 : Nat) ∧ false = false) ∧ (((33 : Nat) ≠ (0 : Nat) ∧ (33 : Nat) = (33 : Nat) ∧ true = true) ∧ True) ∧ D.st [D.arr IntKind.u8 (32 : Nat) m, D.val (Value.int IntKind.i64 n)] = F) := by kernel_rfl
set_option maxRecDepth 100000 in
theorem vc27  (s m : List Int) (n : Int) (F : D)  :
    (owed c0 (fun _ => none) Tryd.f27 [.ref (lockD s m n)] F) = (
 True ∧ True ∧ True ∧ (Sk.st [Sk.one, Sk.st [Sk.arr (32 : Nat), Sk.one]] = Sk.st [Sk.one, Sk.st [Sk.arr (32 : Nat), Sk.one]] ∧ (1 : Nat) < (2 : Nat)) ∧ (Sk.st [Sk.arr (32 : Nat), Sk.one] = Sk.st [Sk.arr (32 : Nat), Sk.one] ∧ (1 : Nat) < (2 : Nat)) ∧ ((1 : Nat) ≠ (0 : Nat) ∧ (1 : Nat) = (1 : Nat) ∧ false = false) ∧ True ∧ (false = false ∧ True) ∧ D.val (Value.int IntKind.i64 n) = F) := by kernel_rfl
set_option maxRecDepth 100000 in
theorem vc29  (s m : List Int) (n : Int) (p : List Int) (F : D)  :
    (owedIo c29 (fun _ => none) Tryd.f29 (lockD s m n) [.ints .u8 p] F) = (
 True ∧
   True ∧
    True ∧
     (Sk.st [Sk.one, Sk.st [Sk.arr (32 : Nat), Sk.one]] = Sk.st [Sk.one, Sk.st [Sk.arr (32 : Nat), Sk.one]] ∧ (1 : Nat) < (2 : Nat)) ∧
      (Sk.st [Sk.arr (32 : Nat), Sk.one] = Sk.st [Sk.arr (32 : Nat), Sk.one] ∧ (1 : Nat) < (2 : Nat)) ∧
       ((1 : Nat) ≠ (0 : Nat) ∧ (1 : Nat) = (1 : Nat) ∧ false = false) ∧
        True ∧
         match n == (0 : Int) with
         | true => True ∧ (false = false ∧ True) ∧ Sk.st [Sk.one, Sk.st [Sk.arr (32 : Nat), Sk.one]] = Sk.st [Sk.one, Sk.st [Sk.arr (32 : Nat), Sk.one]] ∧ D.tup [D.val (Value.int IntKind.i64 (11 : Int)), D.st [D.ints IntKind.u8 s, D.st [D.arr IntKind.u8 (32 : Nat) m, D.val (Value.int IntKind.i64 n)]]] = F
         | false =>
          True ∧
           True ∧
            (Sk.st [Sk.one, Sk.st [Sk.arr (32 : Nat), Sk.one]] = Sk.st [Sk.one, Sk.st [Sk.arr (32 : Nat), Sk.one]] ∧ (0 : Nat) < (2 : Nat)) ∧
             ((1 : Nat) ≠ (0 : Nat) ∧ (1 : Nat) = (1 : Nat) ∧ false = false) ∧
              True ∧
               (∃ (k : List Int), ∃ (p_1 : List Int), [D.ints IntKind.u8 s, D.ints IntKind.u8 p] = [D.ints IntKind.u8 k, D.ints IntKind.u8 p_1] ∧ isP k ∧ isP p_1) ∧
                (True ∧ (32 : Nat) ≠ (0 : Nat)) ∧
                 (Sk.arr (32 : Nat) = Sk.arr (32 : Nat) ∧ (32 : Nat) ≠ (0 : Nat) ∧ (32 : Nat) = (32 : Nat) ∧ false = false) ∧
                  ((0 : Int) ≤ (0 : Int) ∧ (0 : Int) ≤ (↑(32 : Nat) : Int) ∧ (↑(32 : Nat) : Int) ≤ (↑(32 : Nat) : Int) ∧ (32 : Nat) = (32 : Nat) ∧ (1 : Nat) = (1 : Nat)) ∧
                   True ∧
                    True ∧
                     (Sk.st [Sk.one, Sk.st [Sk.arr (32 : Nat), Sk.one]] = Sk.st [Sk.one, Sk.st [Sk.arr (32 : Nat), Sk.one]] ∧ (1 : Nat) < (2 : Nat)) ∧
                      (Sk.st [Sk.arr (32 : Nat), Sk.one] = Sk.st [Sk.arr (32 : Nat), Sk.one] ∧ (0 : Nat) < (2 : Nat)) ∧
                       ((0 : Int) ≤ (0 : Int) ∧ (0 : Int) ≤ (↑(32 : Nat) : Int) ∧ (↑(32 : Nat) : Int) ≤ (↑(32 : Nat) : Int) ∧ (32 : Nat) = (32 : Nat) ∧ (1 : Nat) = (1 : Nat)) ∧
                        (∃ (a : List Int), ∃ (b : List Int), [D.ints IntKind.u8 (List.take ((↑(32 : Nat) : Int).toNat - (0 : Nat)) (List.drop (0 : Nat) (strL s p))), D.ints IntKind.u8 (List.take ((↑(32 : Nat) : Int).toNat - (0 : Nat)) (List.drop (0 : Nat) m))] = [D.ints IntKind.u8 a, D.ints IntKind.u8 b] ∧ isB a ∧ isB b) ∧
                         True ∧
                          match !eqB (List.take ((↑(32 : Nat) : Int).toNat - (0 : Nat)) (List.drop (0 : Nat) (strL s p))) (List.take ((↑(32 : Nat) : Int).toNat - (0 : Nat)) (List.drop (0 : Nat) m)) with
                          | true =>
                           True ∧
                            True ∧
                             (Sk.st [Sk.one, Sk.st [Sk.arr (32 : Nat), Sk.one]] = Sk.st [Sk.one, Sk.st [Sk.arr (32 : Nat), Sk.one]] ∧ (1 : Nat) < (2 : Nat)) ∧
                              (Sk.st [Sk.arr (32 : Nat), Sk.one] = Sk.st [Sk.arr (32 : Nat), Sk.one] ∧ (1 : Nat) < (2 : Nat)) ∧
                               ((1 : Nat) ≠ (0 : Nat) ∧ (1 : Nat) = (1 : Nat) ∧ false = false) ∧
                                True ∧
                                 True ∧
                                  (Sk.st [Sk.one, Sk.st [Sk.arr (32 : Nat), Sk.one]] = Sk.st [Sk.one, Sk.st [Sk.arr (32 : Nat), Sk.one]] ∧ (1 : Nat) < (2 : Nat)) ∧
                                   (Sk.st [Sk.arr (32 : Nat), Sk.one] = Sk.st [Sk.arr (32 : Nat), Sk.one] ∧ (1 : Nat) < (2 : Nat)) ∧
                                    (((1 : Nat) < (2 : Nat) ∧ (1 : Nat) < (2 : Nat) ∧ Sk.one = Sk.one) ∧ (1 : Nat) ≠ (0 : Nat) ∧ (1 : Nat) = (1 : Nat) ∧ false = false) ∧
                                     True ∧ (false = false ∧ True) ∧ Sk.st [Sk.one, Sk.st [Sk.arr (32 : Nat), Sk.one]] = Sk.st [Sk.one, Sk.st [Sk.arr (32 : Nat), Sk.one]] ∧ D.tup [D.val (Value.int IntKind.i64 (10 : Int)), D.st [D.ints IntKind.u8 s, D.st [D.arr IntKind.u8 (32 : Nat) m, D.val (Value.int IntKind.i64 (IntKind.i64.wrap (n - (1 : Int))))]]] = F
                          | false =>
                           True ∧
                            True ∧
                             (Sk.st [Sk.one, Sk.st [Sk.arr (32 : Nat), Sk.one]] = Sk.st [Sk.one, Sk.st [Sk.arr (32 : Nat), Sk.one]] ∧ (1 : Nat) < (2 : Nat)) ∧
                              (Sk.st [Sk.arr (32 : Nat), Sk.one] = Sk.st [Sk.arr (32 : Nat), Sk.one] ∧ (1 : Nat) < (2 : Nat)) ∧
                               (((1 : Nat) < (2 : Nat) ∧ (1 : Nat) < (2 : Nat) ∧ Sk.one = Sk.one) ∧ (1 : Nat) ≠ (0 : Nat) ∧ (1 : Nat) = (1 : Nat) ∧ false = false) ∧
                                True ∧ (false = false ∧ True) ∧ Sk.st [Sk.one, Sk.st [Sk.arr (32 : Nat), Sk.one]] = Sk.st [Sk.one, Sk.st [Sk.arr (32 : Nat), Sk.one]] ∧ D.tup [D.val (Value.int IntKind.i64 (0 : Int)), D.st [D.ints IntKind.u8 s, D.st [D.arr IntKind.u8 (32 : Nat) m, D.val (Value.int IntKind.i64 (3 : Int))]]] = F) := by kernel_rfl
set_option maxRecDepth 100000 in
theorem vc34  (s m : List Int) (n : Int) (p : List Int) (F : D)  :
    (owedIo c34 (fun _ => none) Tryd.f34 (lockD s m n) [.ints .u8 p] F) = (
 True ∧
   True ∧
    (∃ (l : List Int), [D.ints IntKind.u8 p] = [D.ints IntKind.u8 l]) ∧
     True ∧
      match !rgt p with
      | true => True ∧ (false = false ∧ True) ∧ Sk.st [Sk.one, Sk.st [Sk.arr (32 : Nat), Sk.one]] = Sk.st [Sk.one, Sk.st [Sk.arr (32 : Nat), Sk.one]] ∧ D.tup [D.val (Value.int IntKind.i64 (1 : Int)), D.st [D.ints IntKind.u8 s, D.st [D.arr IntKind.u8 (32 : Nat) m, D.val (Value.int IntKind.i64 n)]]] = F
      | false =>
       True ∧
        True ∧
         True ∧
          (Sk.st [Sk.one, Sk.st [Sk.arr (32 : Nat), Sk.one]] = Sk.st [Sk.one, Sk.st [Sk.arr (32 : Nat), Sk.one]] ∧ (0 : Nat) < (2 : Nat)) ∧
           ((1 : Nat) ≠ (0 : Nat) ∧ (1 : Nat) = (1 : Nat) ∧ false = false) ∧
            True ∧
             (∃ (k : List Int), ∃ (p_1 : List Int), [D.ints IntKind.u8 s, D.ints IntKind.u8 p] = [D.ints IntKind.u8 k, D.ints IntKind.u8 p_1] ∧ isP k ∧ isP p_1) ∧
              (false = false ∧ ((0 : Nat) < (2 : Nat) ∧ Sk.arr (32 : Nat) = Sk.arr (32 : Nat)) ∧ false = false ∧ ((1 : Nat) < (2 : Nat) ∧ Sk.one = Sk.one) ∧ True) ∧
               True ∧
                (Sk.st [Sk.one, Sk.st [Sk.arr (32 : Nat), Sk.one]] = Sk.st [Sk.one, Sk.st [Sk.arr (32 : Nat), Sk.one]] ∧ (1 : Nat) < (2 : Nat)) ∧
                 (((1 : Nat) < (2 : Nat) ∧ Sk.st [Sk.arr (32 : Nat), Sk.one] = Sk.st [Sk.arr (32 : Nat), Sk.one]) ∧ (33 : Nat) ≠ (0 : Nat) ∧ (33 : Nat) = (33 : Nat) ∧ false = false) ∧
                  True ∧ (false = false ∧ True) ∧ Sk.st [Sk.one, Sk.st [Sk.arr (32 : Nat), Sk.one]] = Sk.st [Sk.one, Sk.st [Sk.arr (32 : Nat), Sk.one]] ∧ D.tup [D.val (Value.int IntKind.i64 (0 : Int)), D.st [D.ints IntKind.u8 s, D.st [D.arr IntKind.u8 (32 : Nat) (strL s p), D.val (Value.int IntKind.i64 (3 : Int))]]] = F) := by kernel_rfl
set_option maxRecDepth 100000 in
theorem vc33  (s m : List Int) (n : Int) (p q : List Int) (F : D)  :
    (owedIo c33 (fun _ => none) Tryd.f33 (lockD s m n) [.ints .u8 p, .ints .u8 q] F) = (
 True ∧
   True ∧
    (∃ (l : List Int), [D.ints IntKind.u8 q] = [D.ints IntKind.u8 l]) ∧
     True ∧
      match !rgt q with
      | true => True ∧ (false = false ∧ True) ∧ Sk.st [Sk.one, Sk.st [Sk.arr (32 : Nat), Sk.one]] = Sk.st [Sk.one, Sk.st [Sk.arr (32 : Nat), Sk.one]] ∧ D.tup [D.val (Value.int IntKind.i64 (1 : Int)), D.st [D.ints IntKind.u8 s, D.st [D.arr IntKind.u8 (32 : Nat) m, D.val (Value.int IntKind.i64 n)]]] = F
      | false =>
       True ∧
        True ∧
         (∃ (s_1 : List Int), ∃ (m_1 : List Int), ∃ (n_1 : Int), ∃ (p_1 : List Int), [D.st [D.ints IntKind.u8 s, D.st [D.arr IntKind.u8 (32 : Nat) m, D.val (Value.int IntKind.i64 n)]], D.ints IntKind.u8 p] = [D.st [D.ints IntKind.u8 s_1, D.st [D.arr IntKind.u8 (32 : Nat) m_1, D.val (Value.int IntKind.i64 n_1)]], D.ints IntKind.u8 p_1] ∧ (isP s_1 ∧ isM m_1 ∧ lfOk n_1) ∧ isP p_1) ∧
          True ∧
           True ∧
            True ∧
             match tryE s m n p != (0 : Int) with
             | true => True ∧ True ∧ (false = false ∧ True) ∧ Sk.st [Sk.one, Sk.st [Sk.arr (32 : Nat), Sk.one]] = Sk.st [Sk.one, Sk.st [Sk.arr (32 : Nat), Sk.one]] ∧ D.tup [D.val (Value.int IntKind.i64 (tryE s m n p)), D.st [D.ints IntKind.u8 s, D.st [D.arr IntKind.u8 (32 : Nat) m, D.val (Value.int IntKind.i64 (tryN s m n p))]]] = F
             | false =>
              True ∧
               True ∧
                (∃ (s_1 : List Int),
                  ∃ (m_1 : List Int), ∃ (n_1 : Int), ∃ (p_1 : List Int), [D.st [D.ints IntKind.u8 s, D.st [D.arr IntKind.u8 (32 : Nat) m, D.val (Value.int IntKind.i64 (tryN s m n p))]], D.ints IntKind.u8 q] = [D.st [D.ints IntKind.u8 s_1, D.st [D.arr IntKind.u8 (32 : Nat) m_1, D.val (Value.int IntKind.i64 n_1)]], D.ints IntKind.u8 p_1] ∧ (isP s_1 ∧ isM m_1 ∧ lfOk n_1) ∧ isP p_1) ∧
                 True ∧ (false = false ∧ True) ∧ Sk.st [Sk.one, Sk.st [Sk.arr (32 : Nat), Sk.one]] = Sk.st [Sk.one, Sk.st [Sk.arr (32 : Nat), Sk.one]] ∧ D.tup [D.val (Value.int IntKind.i64 (rpE q)), D.st [D.ints IntKind.u8 s, D.st [D.arr IntKind.u8 (32 : Nat) (rpM s m q), D.val (Value.int IntKind.i64 (rpN (tryN s m n p) q))]]] = F) := by kernel_rfl
set_option maxRecDepth 100000 in
theorem vc31  (s p : List Int) (F : D)  :
    (owedNew c31 (fun _ => none) Tryd.f31 [.ints .u8 s, .ints .u8 p] F) = (
 True ∧
   True ∧
    True ∧
     (∃ (l : List Int), [D.ints IntKind.u8 s] = [D.ints IntKind.u8 l] ∧ isP l) ∧
      (false = false ∧ ((0 : Nat) < (2 : Nat) ∧ Sk.one = Sk.one) ∧ True) ∧
       (True ∧ false = false) ∧
        True ∧
         True ∧
          True ∧
           (∃ (s_1 : List Int),
             ∃ (m : List Int),
              ∃ (n : Int),
               ∃ (p_1 : List Int),
                [D.st
                    [D.ints IntKind.u8 s,
                     D.st
                      [D.arr IntKind.u8 (32 : Nat)
                        [(0 : Int), (0 : Int), (0 : Int), (0 : Int), (0 : Int), (0 : Int), (0 : Int), (0 : Int), (0 : Int), (0 : Int), (0 : Int), (0 : Int), (0 : Int), (0 : Int), (0 : Int), (0 : Int), (0 : Int), (0 : Int), (0 : Int), (0 : Int), (0 : Int), (0 : Int), (0 : Int), (0 : Int), (0 : Int), (0 : Int), (0 : Int), (0 : Int), (0 : Int), (0 : Int), (0 : Int), (0 : Int)],
                       D.val (Value.int IntKind.i64 (0 : Int))]],
                   D.ints IntKind.u8 p] =
                  [D.st [D.ints IntKind.u8 s_1, D.st [D.arr IntKind.u8 (32 : Nat) m, D.val (Value.int IntKind.i64 n)]], D.ints IntKind.u8 p_1] ∧
                 (isP s_1 ∧ isM m ∧ lfOk n) ∧ isP p_1) ∧
            True ∧
             True ∧
              True ∧
               match rpE p != (0 : Int) with
               | true => True ∧ True ∧ True ∧ False
               | false =>
                True ∧
                 True ∧
                  True ∧
                   (false = false ∧ True) ∧
                    True ∧
                     D.tup
                       [D.st
                         [D.ints IntKind.u8 s,
                          D.st
                           [D.arr IntKind.u8 (32 : Nat)
                             (rpM s
                              [(0 : Int), (0 : Int), (0 : Int), (0 : Int), (0 : Int), (0 : Int), (0 : Int), (0 : Int), (0 : Int), (0 : Int), (0 : Int), (0 : Int), (0 : Int), (0 : Int), (0 : Int), (0 : Int), (0 : Int), (0 : Int), (0 : Int), (0 : Int), (0 : Int), (0 : Int), (0 : Int), (0 : Int), (0 : Int), (0 : Int), (0 : Int), (0 : Int), (0 : Int), (0 : Int), (0 : Int),
                               (0 : Int)]
                              p),
                            D.val (Value.int IntKind.i64 (rpN (0 : Int) p))]],
                        D.val (Value.int IntKind.i64 (0 : Int))] =
                      F) := by kernel_rfl
set_option maxRecDepth 100000 in
theorem vc31b  (s p : List Int) (F : D)  :
    (owed c31 (fun _ => none) Tryd.f31 [.ints .u8 s, .ints .u8 p] F) = (
 True ∧
   True ∧
    True ∧
     (∃ (l : List Int), [D.ints IntKind.u8 s] = [D.ints IntKind.u8 l] ∧ isP l) ∧
      (false = false ∧ ((0 : Nat) < (2 : Nat) ∧ Sk.one = Sk.one) ∧ True) ∧
       (True ∧ false = false) ∧
        True ∧
         True ∧
          True ∧
           (∃ (s_1 : List Int),
             ∃ (m : List Int),
              ∃ (n : Int),
               ∃ (p_1 : List Int),
                [D.st
                    [D.ints IntKind.u8 s,
                     D.st
                      [D.arr IntKind.u8 (32 : Nat)
                        [(0 : Int), (0 : Int), (0 : Int), (0 : Int), (0 : Int), (0 : Int), (0 : Int), (0 : Int), (0 : Int), (0 : Int), (0 : Int), (0 : Int), (0 : Int), (0 : Int), (0 : Int), (0 : Int), (0 : Int), (0 : Int), (0 : Int), (0 : Int), (0 : Int), (0 : Int), (0 : Int), (0 : Int), (0 : Int), (0 : Int), (0 : Int), (0 : Int), (0 : Int), (0 : Int), (0 : Int), (0 : Int)],
                       D.val (Value.int IntKind.i64 (0 : Int))]],
                   D.ints IntKind.u8 p] =
                  [D.st [D.ints IntKind.u8 s_1, D.st [D.arr IntKind.u8 (32 : Nat) m, D.val (Value.int IntKind.i64 n)]], D.ints IntKind.u8 p_1] ∧
                 (isP s_1 ∧ isM m ∧ lfOk n) ∧ isP p_1) ∧
            True ∧
             True ∧
              True ∧
               match rpE p != (0 : Int) with
               | true => True ∧ True ∧ True ∧ (false = false ∧ false = false ∧ True) ∧ D.tup [D.val (Value.pointer none), D.val (Value.int IntKind.i64 (rpE p))] = F
               | false =>
                True ∧
                 True ∧
                  True ∧
                   (false = false ∧ false = false ∧ True) ∧
                    D.tup
                      [(D.st
                         [D.ints IntKind.u8 s,
                          D.st
                           [D.arr IntKind.u8 (32 : Nat)
                             (rpM s
                              [(0 : Int), (0 : Int), (0 : Int), (0 : Int), (0 : Int), (0 : Int), (0 : Int), (0 : Int), (0 : Int), (0 : Int), (0 : Int), (0 : Int), (0 : Int), (0 : Int), (0 : Int), (0 : Int), (0 : Int), (0 : Int), (0 : Int), (0 : Int), (0 : Int), (0 : Int), (0 : Int), (0 : Int), (0 : Int), (0 : Int), (0 : Int), (0 : Int), (0 : Int), (0 : Int), (0 : Int),
                               (0 : Int)]
                              p),
                            D.val (Value.int IntKind.i64 (rpN (0 : Int) p))]]).ref,
                       D.val (Value.int IntKind.i64 (0 : Int))] =
                     F) := by kernel_rfl
end Go.Proofs.YtkicjckhkefnpaaDoor
/- package pin: its functions meet. -/
namespace Go.Proofs.YtkicjckhkefnpaaDoor
open Go Go.Vg

theorem mkL_len (k p : List Int) : (mkL k p).length = 32 := digL_len _
theorem mkL_bytes (k p : List Int) : isBytes (mkL k p) := digL_bytes _
theorem strN_len (k p : List Int) (i : Nat) : (strN k p i).length = 32 := by cases i <;> exact mkL_len _ _
theorem strN_bytes (k p : List Int) (i : Nat) : isBytes (strN k p i) := by cases i <;> exact mkL_bytes _ _
theorem strL_M (k p : List Int) : isM (strL k p) := ⟨strN_bytes _ _ _, strN_len _ _ _⟩
theorem isP_B {p : List Int} (h : isP p) : isB p := ⟨h.1, by have := h.2; omega⟩
theorem t32 (l : List Int) (h : l.length = 32) : l.take 32 = l := List.take_of_length_le (by omega)

set_option maxRecDepth 100000 in
theorem m78 : Meets Tryd.prog 78 sp78 := by
  refine meets_of_owed (C := c78) ⟨tab_ok, fun f s h => by cases h⟩ (by kernel_rfl) (by kernel_rfl : Tryd.prog.funcs[78]? = some Tryd.f78) (by kernel_rfl) (by kernel_rfl) (by kernel_rfl) _ ?_
  rintro _ ⟨l, rfl, hb, hl⟩
  refine ⟨fun h => (by cases h), fun _ => none, ?_⟩
  show owed c78 (fun _ => none) Tryd.f78 [.ints .u8 l] (.ints .u8 l)
  rw [vc78]
  simp (decide := true) only [List.nil_append, eq_self, true_and, and_true, ne_eq, not_false_eq_true, true_implies]
  refine ⟨fun h => ?_, ?_⟩
  · rw [List.eq_nil_of_length_eq_zero h]
  · and_intros <;> first | rfl | trivial | omega

set_option maxRecDepth 100000 in
theorem m85 : Meets Tryd.prog 85 sp85 := by
  refine meets_of_owed (C := c0) ⟨tab_ok, fun f s h => by cases h⟩ (by kernel_rfl) (by kernel_rfl : Tryd.prog.funcs[85]? = some Tryd.f85) (by kernel_rfl) (by kernel_rfl) (by kernel_rfl) _ ?_
  rintro _ ⟨l, rfl⟩
  refine ⟨fun _ => rfl, fun _ => none, ?_⟩
  show owed c0 (fun _ => none) Tryd.f85 [.ints .u8 l] (.val (.bool (rgt l)))
  rw [vc85]
  unfold rgt
  split
  · rename_i h
    have h := of_decide_eq_true h
    rw [decide_eq_true (show 4 ≤ l.length by omega), Bool.true_and]
    simp only [true_and]
    congr 2
    by_cases h2 : l.length ≤ 16
    · rw [decide_eq_true h2, decide_eq_true (by omega)]
    · rw [decide_eq_false h2, decide_eq_false (by omega)]
  · rename_i h
    have h := of_decide_eq_false h
    rw [decide_eq_false (show ¬ 4 ≤ l.length by omega), Bool.false_and]
    simp only [true_and]

set_option maxRecDepth 100000 in
theorem m32 : Meets Tryd.prog 32 sp32 := by
  refine meets_of_owed (C := c32) ⟨tab_ok, lkS_ok ⟨m81, m82, m83, m84, trivial⟩⟩ (by kernel_rfl) (by kernel_rfl : Tryd.prog.funcs[32]? = some Tryd.f32) (by kernel_rfl) (by kernel_rfl) (by kernel_rfl) _ ?_
  rintro _ ⟨k, p, rfl, hk, hp⟩
  refine ⟨fun _ => rfl, inv32 k p, ?_⟩
  show owed c32 (inv32 k p) Tryd.f32 [.ints .u8 k, .ints .u8 p] (d32 (strL k p))
  rw [vc32]
  have hkB := isP_B hk
  have hpB := isP_B hp
  have tk : ∀ i, List.take 32 (strN k p i) = strN k p i := fun i => t32 _ (strN_len k p i)
  simp (decide := true) only [ofM', mWr_app, mac_eq, tk, Int.toNat_natCast, show Int.toNat 32 = 32 from rfl, show Int.toNat 0 = 0 from rfl, List.drop_zero, Nat.sub_zero, eq_self, true_and, and_true, ne_eq, not_false_eq_true]
  refine ⟨⟨k, p, rfl, hkB, hpB⟩, by and_intros <;> first | rfl | trivial | omega, ?_⟩
  intro x hx
  split
  · rename_i h
    have h := of_decide_eq_true h
    have e1 : IntKind.i64.wrap ((x : Int) + 1) = ((x + 1 : Nat) : Int) := by rw [wi (by omega) (by omega)]; omega
    have hN : isB (strN k p x) := ⟨strN_bytes _ _ _, by rw [strN_len]; omega⟩
    have hNp : isBytes (strN k p x ++ p) := fun z hz => (List.mem_append.1 hz).elim (strN_bytes _ _ _ z) (hp.1 z)
    simp only [e1, Int.toNat_natCast]
    refine ⟨⟨k, rfl, hkB⟩, ⟨_, _, rfl, mNew_ok hkB, hN⟩, ⟨_, _, rfl, mWr_ok (mNew_ok hkB) hN.1, hpB⟩, ⟨_, rfl, mWr_ok (mNew_ok hkB) hNp⟩, ?_⟩
    and_intros <;> first | rfl | trivial | omega
  · rename_i h
    have h := of_decide_eq_false h
    obtain rfl : x = 8 := by omega
    rfl

set_option maxRecDepth 100000 in
theorem m28 : Meets Tryd.prog 28 sp28 := by
  refine meets_of_owed (C := c28) ⟨tab_ok, lkS_ok ⟨m79, trivial⟩⟩ (by kernel_rfl) (by kernel_rfl : Tryd.prog.funcs[28]? = some Tryd.f28) (by kernel_rfl) (by kernel_rfl) (by kernel_rfl) _ ?_
  rintro _ ⟨k, p, rfl, hk, hp⟩
  refine ⟨fun _ => rfl, inv32 k p, ?_⟩
  show owed c28 (inv32 k p) Tryd.f28 [.str k, .str p] (d32 (strL k p))
  rw [vc28]
  have hkB := isP_B hk
  have hpl := hp.2
  have tk : ∀ i, List.take 32 (strN k p i) = strN k p i := fun i => t32 _ (strN_len k p i)
  simp (decide := true) only [tk, strN_len, Int.toNat_natCast, show Int.toNat 32 = 32 from rfl, show Int.toNat 0 = 0 from rfl, List.drop_zero, Nat.sub_zero, eq_self, true_and, and_true, ne_eq, not_false_eq_true]
  refine ⟨⟨k, p, rfl, hkB, hp.1, by omega⟩, by and_intros <;> first | rfl | trivial | omega, ?_⟩
  intro x hx
  split
  · rename_i h
    have h := of_decide_eq_true h
    have e1 : IntKind.i64.wrap ((x : Int) + 1) = ((x + 1 : Nat) : Int) := by rw [wi (by omega) (by omega)]; omega
    have hNp : isBytes (strN k p x ++ p) := fun z hz => (List.mem_append.1 hz).elim (strN_bytes _ _ _ z) (hp.1 z)
    simp only [e1, Int.toNat_natCast]
    refine ⟨strN_bytes _ _ _, by omega, ⟨k, _, rfl, hkB, hNp, by rw [List.length_append, strN_len]; omega⟩, ?_⟩
    and_intros <;> first | rfl | trivial | omega
  · rename_i h
    have h := of_decide_eq_false h
    obtain rfl : x = 8 := by omega
    rfl

set_option maxRecDepth 100000 in
theorem m25 : MeetsQ Tryd.prog 25 sp25 := by
  refine meetsNew_of_owed (C := c25) ⟨tab_ok, lkS_ok ⟨m78, trivial⟩⟩ (by kernel_rfl) (by kernel_rfl : Tryd.prog.funcs[25]? = some Tryd.f25) (by kernel_rfl) (by kernel_rfl) (by kernel_rfl) _ ⟨by kernel_rfl, by kernel_rfl⟩ ?_
  rintro _ ⟨s, m, n, rfl, hs, h0, h3⟩
  refine ⟨fun _ => none, ?_⟩
  show owedNew c25 (fun _ => none) Tryd.f25 [.ints .u8 s, keptD m n] (.tup [lockD s m n, i64 0])
  rw [vc25, decide_eq_false (show ¬ n < 0 by omega), decide_eq_false (show ¬ n > 3 by omega)]
  simp (decide := true) only [eq_self, true_and, and_true, ne_eq, not_false_eq_true]
  exact ⟨s, rfl, hs⟩

set_option maxRecDepth 100000 in
theorem m25b : Meets Tryd.prog 25 sp25b := by
  refine meets_of_owed (C := c25) ⟨tab_ok, lkS_ok ⟨m78, trivial⟩⟩ (by kernel_rfl) (by kernel_rfl : Tryd.prog.funcs[25]? = some Tryd.f25) (by kernel_rfl) (by kernel_rfl) (by kernel_rfl) _ ?_
  rintro _ ⟨s, m, n, rfl, hs, hn⟩
  refine ⟨fun _ => rfl, fun _ => none, ?_⟩
  show owed c25 (fun _ => none) Tryd.f25 [.ints .u8 s, keptD m n] (.tup [.val (.pointer none), i64 1])
  rw [vc25b]
  unfold lfOk at hn
  by_cases h0 : n < 0
  · rw [decide_eq_true h0]
    simp (decide := true) only [eq_self, true_and, and_true, ne_eq, not_false_eq_true]
  · rw [decide_eq_false h0, decide_eq_true (show n > 3 by omega)]
    simp (decide := true) only [eq_self, true_and, and_true, ne_eq, not_false_eq_true]

set_option maxRecDepth 100000 in
theorem m26 : Meets Tryd.prog 26 sp26 := by
  refine meets_of_owed (C := c0) ⟨tab_ok, fun f s h => by cases h⟩ (by kernel_rfl) (by kernel_rfl : Tryd.prog.funcs[26]? = some Tryd.f26) (by kernel_rfl) (by kernel_rfl) (by kernel_rfl) _ ?_
  rintro _ ⟨s, m, n, rfl⟩
  refine ⟨fun _ => rfl, fun _ => none, ?_⟩
  show owed c0 (fun _ => none) Tryd.f26 [.ref (lockD s m n)] (keptD m n)
  rw [vc26]
  simp (decide := true) only [eq_self, true_and, and_true, ne_eq, not_false_eq_true]

set_option maxRecDepth 100000 in
theorem m27 : Meets Tryd.prog 27 sp27 := by
  refine meets_of_owed (C := c0) ⟨tab_ok, fun f s h => by cases h⟩ (by kernel_rfl) (by kernel_rfl : Tryd.prog.funcs[27]? = some Tryd.f27) (by kernel_rfl) (by kernel_rfl) (by kernel_rfl) _ ?_
  rintro _ ⟨s, m, n, rfl⟩
  refine ⟨fun _ => rfl, fun _ => none, ?_⟩
  show owed c0 (fun _ => none) Tryd.f27 [.ref (lockD s m n)] (i64 n)
  rw [vc27]
  simp (decide := true) only [eq_self, true_and, and_true, ne_eq, not_false_eq_true]

set_option maxRecDepth 100000 in
theorem m29 : MeetsQ Tryd.prog 29 sp29 := by
  refine meetsIo_of_owed (C := c29) ⟨tab_ok, lkS_ok ⟨m32, m80, trivial⟩⟩ (by kernel_rfl) (by kernel_rfl : Tryd.prog.funcs[29]? = some Tryd.f29) (by kernel_rfl) (by kernel_rfl) (by kernel_rfl) _ ⟨by kernel_rfl, by kernel_rfl⟩ ?_
  rintro x ds ⟨s, m, n, p, he, ⟨hs, hm, hn⟩, hp⟩
  obtain ⟨rfl, rfl⟩ := List.cons.inj he
  refine ⟨fun _ => none, ?_⟩
  show owedIo c29 (fun _ => none) Tryd.f29 (lockD s m n) [.ints .u8 p] (.tup [i64 (tryE s m n p), lockD s m (tryN s m n p)])
  rw [vc29]
  have tm : List.take 32 m = m := t32 _ hm.2
  have ts : List.take 32 (strL s p) = strL s p := t32 _ (strL_M s p).2
  simp (decide := true) only [tm, ts, Int.toNat_natCast, show Int.toNat 32 = 32 from rfl, show Int.toNat 0 = 0 from rfl, List.drop_zero, Nat.sub_zero, eq_self, true_and, and_true, ne_eq, not_false_eq_true]
  unfold tryE tryN
  split
  · rename_i h
    obtain rfl : n = 0 := eq_of_beq h
    rfl
  · rename_i h
    have h : ¬ n = 0 := fun e => by rw [e] at h; exact absurd h (by decide)
    rw [if_neg h, if_neg h]
    refine ⟨⟨s, p, rfl, hs, hp⟩, ⟨_, m, rfl, ⟨(strL_M s p).1, by rw [(strL_M s p).2]; omega⟩, hm.1, by rw [hm.2]; omega⟩, ?_⟩
    rw [eqB_eq]
    by_cases he : strL s p = m
    · rw [if_pos he, if_pos he, decide_eq_true he]
      rfl
    · have hn2 := hn
      unfold lfOk at hn2
      rw [if_neg he, if_neg he, decide_eq_false he]
      simp only [Bool.not_false]
      rw [wi (by omega) (by omega)]

set_option maxRecDepth 100000 in
theorem m34 : MeetsQ Tryd.prog 34 sp34 := by
  refine meetsIo_of_owed (C := c34) ⟨tab_ok, lkS_ok ⟨m85, m32, trivial⟩⟩ (by kernel_rfl) (by kernel_rfl : Tryd.prog.funcs[34]? = some Tryd.f34) (by kernel_rfl) (by kernel_rfl) (by kernel_rfl) _ ⟨by kernel_rfl, by kernel_rfl⟩ ?_
  rintro x ds ⟨s, m, n, p, he, ⟨hs, hm, hn⟩, hp⟩
  obtain ⟨rfl, rfl⟩ := List.cons.inj he
  refine ⟨fun _ => none, ?_⟩
  show owedIo c34 (fun _ => none) Tryd.f34 (lockD s m n) [.ints .u8 p] (.tup [i64 (rpE p), lockD s (rpM s m p) (rpN n p)])
  rw [vc34]
  simp (decide := true) only [eq_self, true_and, and_true, ne_eq, not_false_eq_true]
  unfold rpE rpM rpN
  refine ⟨⟨p, rfl⟩, ?_⟩
  cases hr : rgt p with
  | true =>
    simp only [Bool.not_true, if_true]
    refine ⟨⟨s, p, rfl, hs, hp⟩, ?_⟩
    first | rfl | trivial
  | false => first | rfl | trivial

set_option maxRecDepth 100000 in
theorem m33 : MeetsQ Tryd.prog 33 sp33 := by
  refine meetsIo_of_owed (C := c33) ⟨tab_ok, lkS_ok ⟨m85, m29, m34, trivial⟩⟩ (by kernel_rfl) (by kernel_rfl : Tryd.prog.funcs[33]? = some Tryd.f33) (by kernel_rfl) (by kernel_rfl) (by kernel_rfl) _ ⟨by kernel_rfl, by kernel_rfl⟩ ?_
  rintro x ds ⟨s, m, n, p, q, he, ⟨hs, hm, hn⟩, hp, hq⟩
  obtain ⟨rfl, rfl⟩ := List.cons.inj he
  refine ⟨fun _ => none, ?_⟩
  show owedIo c33 (fun _ => none) Tryd.f33 (lockD s m n) [.ints .u8 p, .ints .u8 q] (.tup [i64 (chE s m n p q), lockD s (chM s m n p q) (chN s m n p q)])
  rw [vc33]
  simp (decide := true) only [eq_self, true_and, and_true, ne_eq, not_false_eq_true]
  unfold chE chM chN
  refine ⟨⟨q, rfl⟩, ?_⟩
  cases hr : rgt q with
  | false => rfl
  | true =>
    simp only [Bool.not_true, if_true]
    refine ⟨⟨s, m, n, p, rfl, ⟨hs, hm, hn⟩, hp⟩, ?_⟩
    have hn2 : lfOk (tryN s m n p) := by
      unfold tryN
      unfold lfOk at hn ⊢
      split
      · omega
      · split <;> omega
    by_cases he : tryE s m n p = 0
    · rw [he]
      simp (decide := true) only [if_true]
      refine ⟨⟨s, m, _, q, rfl, ⟨hs, hm, hn2⟩, hq⟩, ?_⟩
      unfold rpE rpM rpN
      rw [hr]
      rfl
    · rw [if_neg he, if_neg he, show (tryE s m n p != 0) = true from bne_iff_ne.2 he]

theorem zM : isM (List.replicate 32 0) := ⟨fun x hx => by rw [List.eq_of_mem_replicate hx]; omega, List.length_replicate⟩

set_option maxRecDepth 100000 in
theorem m31 : MeetsQ Tryd.prog 31 sp31 := by
  refine meetsNew_of_owed (C := c31) ⟨tab_ok, lkS_ok ⟨m78, m34, trivial⟩⟩ (by kernel_rfl) (by kernel_rfl : Tryd.prog.funcs[31]? = some Tryd.f31) (by kernel_rfl) (by kernel_rfl) (by kernel_rfl) _ ⟨by kernel_rfl, by kernel_rfl⟩ ?_
  rintro _ ⟨s, p, rfl, hs, hp, hr⟩
  refine ⟨fun _ => none, ?_⟩
  show owedNew c31 (fun _ => none) Tryd.f31 [.ints .u8 s, .ints .u8 p] (.tup [lockD s (strL s p) 3, i64 0])
  rw [vc31]
  have e1 : rpE p = 0 := by unfold rpE; rw [hr]; rfl
  have e2 : ∀ m, rpM s m p = strL s p := fun m => by unfold rpM; rw [hr]; rfl
  have e3 : ∀ n, rpN n p = 3 := fun n => by unfold rpN; rw [hr]; rfl
  simp (decide := true) only [e1, e2, e3, eq_self, true_and, and_true, ne_eq, not_false_eq_true]
  exact ⟨⟨s, rfl, hs⟩, ⟨s, _, 0, p, rfl, ⟨hs, zM, by unfold lfOk; omega⟩, hp⟩, trivial⟩

set_option maxRecDepth 100000 in
theorem m31b : Meets Tryd.prog 31 sp31b := by
  refine meets_of_owed (C := c31) ⟨tab_ok, lkS_ok ⟨m78, m34, trivial⟩⟩ (by kernel_rfl) (by kernel_rfl : Tryd.prog.funcs[31]? = some Tryd.f31) (by kernel_rfl) (by kernel_rfl) (by kernel_rfl) _ ?_
  rintro _ ⟨s, p, rfl, hs, hp, hr⟩
  refine ⟨fun _ => rfl, fun _ => none, ?_⟩
  show owed c31 (fun _ => none) Tryd.f31 [.ints .u8 s, .ints .u8 p] (.tup [.val (.pointer none), i64 1])
  rw [vc31b]
  have e1 : rpE p = 1 := by unfold rpE; rw [hr]; rfl
  simp (decide := true) only [e1, eq_self, true_and, and_true, ne_eq, not_false_eq_true]
  exact ⟨⟨s, rfl, hs⟩, ⟨s, _, 0, p, rfl, ⟨hs, zM, by unfold lfOk; omega⟩, hp⟩, trivial⟩

end Go.Proofs.YtkicjckhkefnpaaDoor
/- PinRestores: what the law owes. -/
namespace Go.Proofs.YtkicjckhkefnpaaDoor
open Go Go.Vg

noncomputable def c5 : Ctx := ⟨tab, lkS [(25, sp25), (26, sp26), (27, sp27), (28, sp28), (29, sp29)], [], []⟩
def c5b : Ctx := ⟨tab, lkS [(25, sp25b)], [], []⟩
--KEEP ofR BitVec.toNat prL pr Go.Proofs.YtkicjckhkefnpaaDoor.R8.l wrS ofS okS padL fhK outL sumL fromL digL woL wl woI iv st0 rsS rsE wat fullL Go.Vg.eqB ofM xK mNew mWr mSum mkL padK mixK sameI okM isB strN strL isP rgt isM tryE tryN rpE rpM rpN chE chM chN lfOk
set_option maxRecDepth 100000 in
theorem vc5  (s p m : List Int) (n : Int) (F : D)  :
    (owed c5 (fun _ => none) Tryd.f5 [.ints .u8 s, .ints .u8 p, keptD m n] F) = (
 (True ∧ false = false) ∧
   True ∧
    True ∧
     ((33 : Nat) ≠ (0 : Nat) ∧ (33 : Nat) = (33 : Nat) ∧ true = true) ∧
      ((∃ (s_1 : List Int), ∃ (m_1 : List Int), ∃ (n_1 : Int), [D.ints IntKind.u8 s, D.st [D.arr IntKind.u8 (32 : Nat) m, D.val (Value.int IntKind.i64 n)]] = [D.ints IntKind.u8 s_1, D.st [D.arr IntKind.u8 (32 : Nat) m_1, D.val (Value.int IntKind.i64 n_1)]] ∧ isP s_1 ∧ lfOk n_1) ∧ True) ∧
       True ∧
        True ∧
         ((0 : Nat) < (1 : Nat) ∧ false = false) ∧
          True ∧
           True ∧
            (Sk.st [Sk.arr (32 : Nat), Sk.one] = Sk.st [Sk.arr (32 : Nat), Sk.one] ∧ (1 : Nat) < (2 : Nat)) ∧
             ((1 : Nat) ≠ (0 : Nat) ∧ (1 : Nat) = (1 : Nat) ∧ false = false) ∧
              True ∧
               True ∧
                match decide (n < (0 : Int)) with
                | true => True ∧ True ∧ True ∧ True ∧ True ∧ True ∧ (false = false ∧ True) ∧ D.val (Value.bool false) = F
                | false =>
                 (Sk.st [Sk.arr (32 : Nat), Sk.one] = Sk.st [Sk.arr (32 : Nat), Sk.one] ∧ (1 : Nat) < (2 : Nat)) ∧
                  ((1 : Nat) ≠ (0 : Nat) ∧ (1 : Nat) = (1 : Nat) ∧ false = false) ∧
                   True ∧
                    True ∧
                     match decide (n > (3 : Int)) with
                     | true => True ∧ True ∧ True ∧ True ∧ True ∧ (false = false ∧ True) ∧ D.val (Value.bool false) = F
                     | false =>
                      True ∧
                       True ∧
                        True ∧
                         True ∧
                          True ∧
                           True ∧
                            True ∧
                             True ∧
                              (∃ (s_1 : List Int), ∃ (m_1 : List Int), ∃ (n_1 : Int), [(D.st [D.ints IntKind.u8 s, D.st [D.arr IntKind.u8 (32 : Nat) m, D.val (Value.int IntKind.i64 n)]]).ref] = [(D.st [D.ints IntKind.u8 s_1, D.st [D.arr IntKind.u8 (32 : Nat) m_1, D.val (Value.int IntKind.i64 n_1)]]).ref]) ∧
                               ((33 : Nat) ≠ (0 : Nat) ∧ (33 : Nat) = (33 : Nat) ∧ true = true) ∧
                                (true = true ∧
                                  Sk.st [Sk.arr (32 : Nat), Sk.one] = Sk.st [Sk.arr (32 : Nat), Sk.one] ∧
                                   Sk.st [Sk.arr (32 : Nat), Sk.one] = Sk.st [Sk.arr (32 : Nat), Sk.one] ∧ true = true ∧ true = true ∧ (IntKind.u8 = IntKind.u8 ∧ IntKind.u8 = IntKind.u8 ∧ (32 : Nat) = (32 : Nat) ∧ (32 : Nat) = (32 : Nat) ∧ (1 : Nat) = (1 : Nat)) ∧ false = false ∧ false = false ∧ (IntKind.i64 = IntKind.i64 ∧ IntKind.i64 = IntKind.i64) ∧ True) ∧
                                 True ∧
                                  True ∧
                                   match !(eqB m m && (n == n && true)) with
                                   | true => True ∧ True ∧ (false = false ∧ True) ∧ D.val (Value.bool false) = F
                                   | false =>
                                    True ∧
                                     (∃ (s_1 : List Int), ∃ (m_1 : List Int), ∃ (n_1 : Int), [(D.st [D.ints IntKind.u8 s, D.st [D.arr IntKind.u8 (32 : Nat) m, D.val (Value.int IntKind.i64 n)]]).ref] = [(D.st [D.ints IntKind.u8 s_1, D.st [D.arr IntKind.u8 (32 : Nat) m_1, D.val (Value.int IntKind.i64 n_1)]]).ref]) ∧
                                      (Sk.st [Sk.arr (32 : Nat), Sk.one] = Sk.st [Sk.arr (32 : Nat), Sk.one] ∧ (1 : Nat) < (2 : Nat)) ∧
                                       ((1 : Nat) ≠ (0 : Nat) ∧ (1 : Nat) = (1 : Nat) ∧ false = false) ∧
                                        True ∧
                                         True ∧
                                          match n != n with
                                          | true => True ∧ (false = false ∧ True) ∧ D.val (Value.bool false) = F
                                          | false =>
                                           True ∧
                                            (Sk.st [Sk.arr (32 : Nat), Sk.one] = Sk.st [Sk.arr (32 : Nat), Sk.one] ∧ (1 : Nat) < (2 : Nat)) ∧
                                             ((1 : Nat) ≠ (0 : Nat) ∧ (1 : Nat) = (1 : Nat) ∧ false = false) ∧
                                              True ∧
                                               match n == (0 : Int) with
                                               | true =>
                                                True ∧
                                                 True ∧
                                                  True ∧
                                                   (∃ (s_1 : List Int),
                                                     ∃ (m_1 : List Int),
                                                      ∃ (n_1 : Int),
                                                       ∃ (p_1 : List Int),
                                                        [D.st [D.ints IntKind.u8 s, D.st [D.arr IntKind.u8 (32 : Nat) m, D.val (Value.int IntKind.i64 n)]], D.ints IntKind.u8 p] = [D.st [D.ints IntKind.u8 s_1, D.st [D.arr IntKind.u8 (32 : Nat) m_1, D.val (Value.int IntKind.i64 n_1)]], D.ints IntKind.u8 p_1] ∧
                                                         (isP s_1 ∧ isM m_1 ∧ lfOk n_1) ∧ isP p_1) ∧
                                                    True ∧ True ∧ True ∧ (false = false ∧ True) ∧ D.val (Value.bool (tryE s m n p == (11 : Int))) = F
                                               | false =>
                                                True ∧
                                                 isBytes s ∧
                                                  True ∧
                                                   isBytes p ∧
                                                    (∃ (k : List Int), ∃ (p_1 : List Int), [D.str s, D.str p] = [D.str k, D.str p_1] ∧ isP k ∧ isP p_1) ∧
                                                     (Sk.st [Sk.arr (32 : Nat), Sk.one] = Sk.st [Sk.arr (32 : Nat), Sk.one] ∧ (0 : Nat) < (2 : Nat)) ∧
                                                      ((32 : Nat) ≠ (0 : Nat) ∧ (32 : Nat) = (32 : Nat) ∧ true = true) ∧
                                                       (IntKind.u8 = IntKind.u8 ∧ IntKind.u8 = IntKind.u8 ∧ (32 : Nat) = (32 : Nat) ∧ (32 : Nat) = (32 : Nat) ∧ (1 : Nat) = (1 : Nat)) ∧
                                                        match !eqB (strL s p) m with
                                                        | true =>
                                                         True ∧
                                                          True ∧
                                                           True ∧
                                                            (∃ (s_1 : List Int),
                                                              ∃ (m_1 : List Int),
                                                               ∃ (n_1 : Int),
                                                                ∃ (p_1 : List Int),
                                                                 [D.st [D.ints IntKind.u8 s, D.st [D.arr IntKind.u8 (32 : Nat) m, D.val (Value.int IntKind.i64 n)]], D.ints IntKind.u8 p] = [D.st [D.ints IntKind.u8 s_1, D.st [D.arr IntKind.u8 (32 : Nat) m_1, D.val (Value.int IntKind.i64 n_1)]], D.ints IntKind.u8 p_1] ∧
                                                                  (isP s_1 ∧ isM m_1 ∧ lfOk n_1) ∧ isP p_1) ∧
                                                             True ∧ True ∧ True ∧ (false = false ∧ True) ∧ D.val (Value.bool (tryE s m n p == (10 : Int))) = F
                                                        | false =>
                                                         True ∧
                                                          True ∧
                                                           (∃ (s_1 : List Int),
                                                             ∃ (m_1 : List Int),
                                                              ∃ (n_1 : Int),
                                                               ∃ (p_1 : List Int),
                                                                [D.st [D.ints IntKind.u8 s, D.st [D.arr IntKind.u8 (32 : Nat) m, D.val (Value.int IntKind.i64 n)]], D.ints IntKind.u8 p] = [D.st [D.ints IntKind.u8 s_1, D.st [D.arr IntKind.u8 (32 : Nat) m_1, D.val (Value.int IntKind.i64 n_1)]], D.ints IntKind.u8 p_1] ∧
                                                                 (isP s_1 ∧ isM m_1 ∧ lfOk n_1) ∧ isP p_1) ∧
                                                            True ∧ True ∧ True ∧ (false = false ∧ True) ∧ D.val (Value.bool (tryE s m n p == (0 : Int))) = F) := by kernel_rfl
set_option maxRecDepth 100000 in
theorem vc5b  (s p m : List Int) (n : Int) (F : D)  :
    (owed c5b (fun _ => none) Tryd.f5 [.ints .u8 s, .ints .u8 p, keptD m n] F) = (
 (True ∧ false = false) ∧
   True ∧
    True ∧
     ((33 : Nat) ≠ (0 : Nat) ∧ (33 : Nat) = (33 : Nat) ∧ true = true) ∧
      (∃ (s_1 : List Int), ∃ (m_1 : List Int), ∃ (n_1 : Int), [D.ints IntKind.u8 s, D.st [D.arr IntKind.u8 (32 : Nat) m, D.val (Value.int IntKind.i64 n)]] = [D.ints IntKind.u8 s_1, D.st [D.arr IntKind.u8 (32 : Nat) m_1, D.val (Value.int IntKind.i64 n_1)]] ∧ isP s_1 ∧ ¬lfOk n_1) ∧
       True ∧
        ((0 : Nat) < (2 : Nat) ∧ false = false) ∧
         ((1 : Nat) < (2 : Nat) ∧ false = false) ∧
          True ∧
           True ∧
            (Sk.st [Sk.arr (32 : Nat), Sk.one] = Sk.st [Sk.arr (32 : Nat), Sk.one] ∧ (1 : Nat) < (2 : Nat)) ∧
             ((1 : Nat) ≠ (0 : Nat) ∧ (1 : Nat) = (1 : Nat) ∧ false = false) ∧
              True ∧
               True ∧
                match decide (n < (0 : Int)) with
                | true => True ∧ True ∧ True ∧ True ∧ True ∧ True ∧ True ∧ True ∧ (false = false ∧ True) ∧ D.val (Value.bool ((1 : Int) == (1 : Int))) = F
                | false =>
                 (Sk.st [Sk.arr (32 : Nat), Sk.one] = Sk.st [Sk.arr (32 : Nat), Sk.one] ∧ (1 : Nat) < (2 : Nat)) ∧
                  ((1 : Nat) ≠ (0 : Nat) ∧ (1 : Nat) = (1 : Nat) ∧ false = false) ∧
                   True ∧
                    True ∧
                     match decide (n > (3 : Int)) with
                     | true => True ∧ True ∧ True ∧ True ∧ True ∧ True ∧ True ∧ (false = false ∧ True) ∧ D.val (Value.bool ((1 : Int) == (1 : Int))) = F
                     | false => True ∧ True ∧ True ∧ True ∧ True ∧ True ∧ True ∧ True ∧ True ∧ (false = false ∧ True) ∧ D.val (Value.bool false) = F) := by kernel_rfl
end Go.Proofs.YtkicjckhkefnpaaDoor
/- PinRestores: the law is met. -/
namespace Go.Proofs.YtkicjckhkefnpaaDoor
open Go Go.Vg

theorem meets_or {P : Program} {f : FuncId} {s : Go.Vg.Spec} (p q : List D → Prop) (h1 : Meets P f ⟨p, s.f, s.flat, s.ps⟩) (h2 : Meets P f ⟨q, s.f, s.flat, s.ps⟩) (h : ∀ ds, s.pre ds → p ds ∨ q ds) : Meets P f s :=
  fun ds hp => (h ds hp).elim (h1 ds) (h2 ds)

def pre5 (ds : List D) : Prop := ∃ s p m n, ds = [.ints .u8 s, .ints .u8 p, keptD m n] ∧ isP s ∧ isP p ∧ isM m ∧ lfOk n
def pre5b (ds : List D) : Prop := ∃ s p m n, ds = [.ints .u8 s, .ints .u8 p, keptD m n] ∧ isP s ∧ ¬ lfOk n

set_option maxRecDepth 100000 in
theorem m5b : Meets Tryd.prog 5 ⟨pre5b, (lawSpec tab Tryd.f5.params.toList).f, true, Tryd.f5.params.toList⟩ := by
  refine meets_of_owed (C := c5b) ⟨tab_ok, lkS_ok ⟨m25b, trivial⟩⟩ (by kernel_rfl) (by kernel_rfl : Tryd.prog.funcs[5]? = some Tryd.f5) (by kernel_rfl) (by kernel_rfl) (by kernel_rfl) _ ?_
  rintro _ ⟨s, p, m, n, rfl, hs, hn⟩
  refine ⟨fun _ => rfl, fun _ => none, ?_⟩
  show owed c5b (fun _ => none) Tryd.f5 [.ints .u8 s, .ints .u8 p, keptD m n] (.val (.bool true))
  rw [vc5b]
  have hn2 := hn
  unfold lfOk at hn2
  by_cases h0 : n < 0
  · rw [decide_eq_true h0]
    simp (decide := true) only [eq_self, true_and, and_true, ne_eq, not_false_eq_true]
    refine ⟨⟨s, m, n, rfl, hs, hn⟩, ?_⟩
    first | rfl | trivial
  · rw [decide_eq_false h0, decide_eq_true (show n > 3 by omega)]
    simp (decide := true) only [eq_self, true_and, and_true, ne_eq, not_false_eq_true]
    refine ⟨⟨s, m, n, rfl, hs, hn⟩, ?_⟩
    first | rfl | trivial

set_option maxRecDepth 100000 in
theorem m5a : Meets Tryd.prog 5 ⟨pre5, (lawSpec tab Tryd.f5.params.toList).f, true, Tryd.f5.params.toList⟩ := by
  refine meets_of_owed (C := c5) ⟨tab_ok, lkS_ok ⟨m25, m26, m27, m28, m29, trivial⟩⟩ (by kernel_rfl) (by kernel_rfl : Tryd.prog.funcs[5]? = some Tryd.f5) (by kernel_rfl) (by kernel_rfl) (by kernel_rfl) _ ?_
  rintro _ ⟨s, p, m, n, rfl, hs, hp, hm, hn⟩
  refine ⟨fun _ => rfl, fun _ => none, ?_⟩
  show owed c5 (fun _ => none) Tryd.f5 [.ints .u8 s, .ints .u8 p, keptD m n] (.val (.bool true))
  rw [vc5]
  have hn2 := hn
  unfold lfOk at hn2
  rw [decide_eq_false (show ¬ n < 0 by omega), decide_eq_false (show ¬ n > 3 by omega), eqB_refl, show (n == n) = true from beq_self_eq_true n, show (n != n) = false by simp]
  simp (decide := true) only [Bool.and_self, Bool.not_true, eq_self, true_and, and_true, ne_eq, not_false_eq_true]
  have pr : ∃ s_1 m_1 n_1, [D.ref (lockD s m n)] = [D.ref (lockD s_1 m_1 n_1)] := ⟨s, m, n, rfl⟩
  have pt : ∃ s_1 m_1 n_1 p_1, [lockD s m n, D.ints .u8 p] = [lockD s_1 m_1 n_1, D.ints .u8 p_1] ∧ (isP s_1 ∧ isM m_1 ∧ lfOk n_1) ∧ isP p_1 := ⟨s, m, n, p, rfl, ⟨hs, hm, hn⟩, hp⟩
  refine ⟨⟨s, m, n, rfl, hs, hn⟩, pr, pr, ?_⟩
  unfold tryE
  by_cases h0 : n = 0
  · rw [if_pos h0, show (n == 0) = true from beq_iff_eq.2 h0]
    refine ⟨pt, ?_⟩
    first | rfl | trivial
  · rw [if_neg h0, show (n == 0) = false from beq_eq_false_iff_ne.2 h0]
    refine ⟨hs.1, hp.1, ⟨s, p, rfl, hs, hp⟩, ?_⟩
    by_cases he : strL s p = m
    · rw [if_pos he, eqB_iff.2 he]
      refine ⟨pt, ?_⟩
      first | rfl | trivial
    · rw [if_neg he, eqB_not.2 he]
      refine ⟨pt, ?_⟩
      first | rfl | trivial

set_option maxRecDepth 100000 in
theorem ok28s  (d : D)  :
    (OkT tab 7 28 d) = (
 ∃ (l : List Int), d = D.arr IntKind.u8 (32 : Nat) l ∧ l.length = (32 : Nat) ∧ ∀ (z : Int), z ∈ l → (0 : Int) ≤ z ∧ z ≤ IntKind.u8.max) := by kernel_rfl
set_option maxRecDepth 100000 in
theorem ok3s  (d : D)  :
    (OkT tab 7 3 d) = (
 ∃ (z : Int), d = D.val (Value.int IntKind.i64 z) ∧ -(2 : Int) ^ (63 : Nat) ≤ z ∧ z ≤ IntKind.i64.max) := by kernel_rfl
theorem kept_of {d : D} (h : OkT tab 8 44 d) : ∃ m n, d = keptD m n ∧ isM m := by
  rw [ok44] at h
  obtain ⟨ds, rfl, h⟩ := h
  rcases ds with _ | ⟨a, _ | ⟨b, _ | ⟨c, t⟩⟩⟩
  · exact h.elim
  · exact h.2.elim
  · have h1 := h.1
    have h2 := h.2.1
    rw [ok28s] at h1
    rw [ok3s] at h2
    obtain ⟨l, rfl, e1, e2⟩ := h1
    obtain ⟨z, rfl, _⟩ := h2
    refine ⟨l, z, rfl, fun x hx => ?_, e1⟩
    have := e2 x hx
    have e : IntKind.u8.max = 255 := rfl
    rw [e] at this
    omega
  · exact h.2.2.elim

theorem m5 : Meets Tryd.prog 5 (lawSpec tab Tryd.f5.params.toList) := by
  refine meets_or pre5 pre5b m5a m5b ?_
  intro ds hds
  have hds : OkAll tab 8 [26, 26, 44] ds := hds
  obtain ⟨d, e, f, rfl, h1, h2, h3⟩ := okAll3 hds
  obtain ⟨s, rfl, hs⟩ := bytes_of h1 rfl
  obtain ⟨p, rfl, hp⟩ := bytes_of h2 rfl
  obtain ⟨m, n, rfl, hm⟩ := kept_of h3
  by_cases hn : lfOk n
  · exact .inl ⟨s, p, m, n, rfl, hs, hp, hm, hn⟩
  · exact .inr ⟨s, p, m, n, rfl, hs, hn⟩

end Go.Proofs.YtkicjckhkefnpaaDoor
