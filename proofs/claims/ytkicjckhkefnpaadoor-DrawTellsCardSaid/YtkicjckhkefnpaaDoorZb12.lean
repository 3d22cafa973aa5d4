/- the reference's block. -/
import Derived.Test.YtkicjckhkefnpaaDoorZb11
namespace Go.Proofs.YtkicjckhkefnpaaDoor
open Go Go.Vg
def pw (l : List Int) (i : Nat) : Nat → W
 | 0 => 0
 | k + 1 => pw l i k * 256 + BitVec.ofNat 32 (l.getD (i + k) 0).toNat
def inv128 (x : R8) (l : List Int) : Nat → Option Inv
 | 3 => some ⟨Nat, fun i => [(6, .d (i64 ((4 * i : Nat) : Int))), (5, .row 24), (24, .any)], fun i => [(24, .row 113 (.ints .u32 (wl l i)))], fun s => (slotN s 6).toNat / 4, fun _ i => i ≤ 16, fun i => 16 - i⟩
 | 7 => some ⟨Nat × Nat, fun i => [(29, .d (i64 (i.1 : Int))), (7, .d (wd (pw l i.2 i.1)))], fun _ => [], fun s => ((slotN s 29).toNat, (slotN s 6).toNat), fun s i => i.1 ≤ 4 ∧ (i.2 : Int) = slotN s 6, fun i => 4 - i.1⟩
 | 12 => some ⟨Nat, fun _ => [(5, .row 24)], fun i => [(24, .row 113 (.ints .u32 (wl l i)))], fun s => (rowD s 24).length, fun _ i => 16 ≤ i ∧ i ≤ 64, fun i => 64 - i⟩
 | 18 => some ⟨Nat, fun i => [(119, .d (i64 i)), (12, .d (wd (rd x l i).a)), (13, .d (wd (rd x l i).b)), (14, .d (wd (rd x l i).c)), (15, .d (wd (rd x l i).d)), (16, .d (wd (rd x l i).e)), (17, .d (wd (rd x l i).f)), (18, .d (wd (rd x l i).g)), (19, .d (wd (rd x l i).h))],
   fun _ => [], fun s => (slotN s 119).toNat, fun _ i => i ≤ 64, fun i => 64 - i⟩
 | _ => none
set_option maxRecDepth 100000 in
theorem vc128  (x : R8) (l : List Int) (F : D)  :
    (owed c128 (inv128 x l) Tryd.f128 [.ints .u32 x.l, .str l] F) = (
 True ∧
 ((0 : Int) ≤ (0 : Int) ∧ (0 : Int) ≤ (64 : Int) ∧ (64 : Int) ≤ (281474976710656 : Int) ∧ (↑(4 : Nat) : Int) * (64 : Int) ≤ (281474976710656 : Int) ∧ (1 : Nat) = (1 : Nat)) ∧
 True ∧
 True ∧
 (((sm (AV.d (D.ints IntKind.u32 [(↑(BitVec.toNat x.a) : Int), (↑(BitVec.toNat x.b) : Int), (↑(BitVec.toNat x.c) : Int), (↑(BitVec.toNat x.d) : Int), (↑(BitVec.toNat x.e) : Int), (↑(BitVec.toNat x.f) : Int), (↑(BitVec.toNat x.g) : Int), (↑(BitVec.toNat x.h) : Int)])) ∧
 sm (AV.d (D.str l)) ∧ sm (AV.d (D.val (Value.slice none (0 : Nat) (0 : Nat)))) ∧ sm (AV.row (24 : Nat)) ∧ AV.d (D.val (Value.int IntKind.i64 (0 : Int))) = AV.d (D.val (Value.int IntKind.i64 (↑(0 : Nat) : Int))) ∧ True) ∧
 (some (Blk.row (113 : TypeId) (D.ints IntKind.u32 [])) = some (Blk.row (113 : TypeId) (D.ints IntKind.u32 (wl l (0 / 4 : Nat)))) ∧ True) ∧ true = true) ∧
 (0 / 4 : Nat) ≤ (16 : Nat)) ∧
 ∀ (x_1 : Nat),
 x_1 ≤ (16 : Nat) →
 true = true ∧
 True ∧
 True ∧
 match decide ((↑((4 : Nat) * x_1) : Int) < (64 : Int)) with
 | true =>
  True ∧
  True ∧
  (((sm (AV.d (D.ints IntKind.u32 [(↑(BitVec.toNat x.a) : Int), (↑(BitVec.toNat x.b) : Int), (↑(BitVec.toNat x.c) : Int), (↑(BitVec.toNat x.d) : Int), (↑(BitVec.toNat x.e) : Int), (↑(BitVec.toNat x.f) : Int), (↑(BitVec.toNat x.g) : Int), (↑(BitVec.toNat x.h) : Int)])) ∧
  sm (AV.d (D.str l)) ∧
  sm (AV.d (D.val (Value.slice none (0 : Nat) (0 : Nat)))) ∧
  sm (AV.row (24 : Nat)) ∧
  sm (AV.d (D.val (Value.int IntKind.i64 (↑((4 : Nat) * x_1) : Int)))) ∧
  AV.d (D.val (Value.int IntKind.u32 (0 : Int))) = AV.d (D.val (Value.int IntKind.u32 (↑(BitVec.toNat (pw l (↑((4 : Nat) * x_1) : Int).toNat (0 : Nat))) : Int))) ∧
  sm (AV.d (D.val (Value.int IntKind.i64 (↑((4 : Nat) * x_1) : Int)))) ∧ sm (AV.d (D.val (Value.bool (decide ((↑((4 : Nat) * x_1) : Int) < (64 : Int)))))) ∧ AV.d (D.val (Value.int IntKind.i64 (0 : Int))) = AV.d (D.val (Value.int IntKind.i64 (↑(0 : Nat) : Int))) ∧ True) ∧
  (sm (some (Blk.row (113 : TypeId) (D.ints IntKind.u32 (wl l x_1)))) ∧ True) ∧ true = true) ∧
  (0 : Nat) ≤ (4 : Nat) ∧ (↑(↑((4 : Nat) * x_1) : Int).toNat : Int) = (↑((4 : Nat) * x_1) : Int)) ∧
  ∀ (x_2 : Nat × Nat),
  x_2.fst ≤ (4 : Nat) ∧ (↑x_2.snd : Int) = (↑((4 : Nat) * x_1) : Int) →
  true = true ∧
  True ∧
  match decide ((↑x_2.fst : Int) < (4 : Int)) with
  | true =>
   True ∧
   True ∧
   True ∧
   True ∧
   True ∧
   True ∧
   True ∧
   True ∧
   ((0 : Int) ≤ IntKind.i64.wrap ((↑((4 : Nat) * x_1) : Int) + (↑x_2.fst : Int)) ∧ IntKind.i64.wrap ((↑((4 : Nat) * x_1) : Int) + (↑x_2.fst : Int)) < (↑l.length : Int)) ∧
   True ∧
   True ∧
   True ∧
   True ∧
   True ∧
   ((sm (AV.d (D.ints IntKind.u32 [(↑(BitVec.toNat x.a) : Int), (↑(BitVec.toNat x.b) : Int), (↑(BitVec.toNat x.c) : Int), (↑(BitVec.toNat x.d) : Int), (↑(BitVec.toNat x.e) : Int), (↑(BitVec.toNat x.f) : Int), (↑(BitVec.toNat x.g) : Int), (↑(BitVec.toNat x.h) : Int)])) ∧
   sm (AV.d (D.str l)) ∧
   sm (AV.d (D.val (Value.slice none (0 : Nat) (0 : Nat)))) ∧
   sm (AV.row (24 : Nat)) ∧
   sm (AV.d (D.val (Value.int IntKind.i64 (↑((4 : Nat) * x_1) : Int)))) ∧
   AV.d (D.val (Value.int IntKind.u32 (IntKind.u32.wrap (IntKind.u32.wrap ((↑(BitVec.toNat (pw l x_2.snd x_2.fst)) : Int) * (256 : Int)) + IntKind.u32.wrap (l.getD (IntKind.i64.wrap ((↑((4 : Nat) * x_1) : Int) + (↑x_2.fst : Int))).toNat (0 : Int)))))) =
   AV.d (D.val (Value.int IntKind.u32 (↑(BitVec.toNat (pw l (↑((4 : Nat) * x_1) : Int).toNat (IntKind.i64.wrap ((↑x_2.fst : Int) + (1 : Int))).toNat)) : Int))) ∧
   sm (AV.d (D.val (Value.int IntKind.i64 (↑((4 : Nat) * x_1) : Int)))) ∧
   sm (AV.d (D.val (Value.bool (decide ((↑((4 : Nat) * x_1) : Int) < (64 : Int)))))) ∧ AV.d (D.val (Value.int IntKind.i64 (IntKind.i64.wrap ((↑x_2.fst : Int) + (1 : Int))))) = AV.d (D.val (Value.int IntKind.i64 (↑(IntKind.i64.wrap ((↑x_2.fst : Int) + (1 : Int))).toNat : Int))) ∧ True) ∧
   (sm (some (Blk.row (113 : TypeId) (D.ints IntKind.u32 (wl l x_1)))) ∧ True) ∧ true = true) ∧
   ((IntKind.i64.wrap ((↑x_2.fst : Int) + (1 : Int))).toNat ≤ (4 : Nat) ∧ (↑(↑((4 : Nat) * x_1) : Int).toNat : Int) = (↑((4 : Nat) * x_1) : Int)) ∧ (4 : Nat) - (IntKind.i64.wrap ((↑x_2.fst : Int) + (1 : Int))).toNat < (4 : Nat) - x_2.fst
  | false =>
   True ∧
   True ∧
   ((1 : Nat) = (1 : Nat) ∧ (1 : Nat) ≤ (4096 : Nat)) ∧
   ((113 : TypeId) = (113 : TypeId) ∧ (170 : Nat) = (170 : Nat) ∧ true = true ∧ (wl l x_1 ++ [(↑(BitVec.toNat (pw l x_2.snd x_2.fst)) : Int)]).length ≤ (140737488355328 : Nat) ∧ (wl l x_1 ++ [(↑(BitVec.toNat (pw l x_2.snd x_2.fst)) : Int)]).length * (4 : Nat) ≤ (140737488355328 : Nat) ∧ (1 : Nat) ≠ (0 : Nat) ∧ (1 : Nat) = (1 : Nat)) ∧
   True ∧
   True ∧
   True ∧
   True ∧
   ((sm (AV.d (D.ints IntKind.u32 [(↑(BitVec.toNat x.a) : Int), (↑(BitVec.toNat x.b) : Int), (↑(BitVec.toNat x.c) : Int), (↑(BitVec.toNat x.d) : Int), (↑(BitVec.toNat x.e) : Int), (↑(BitVec.toNat x.f) : Int), (↑(BitVec.toNat x.g) : Int), (↑(BitVec.toNat x.h) : Int)])) ∧
   sm (AV.d (D.str l)) ∧
   sm (AV.d (D.val (Value.slice none (0 : Nat) (0 : Nat)))) ∧ sm (AV.row (24 : Nat)) ∧ AV.d (D.val (Value.int IntKind.i64 (IntKind.i64.wrap ((↑((4 : Nat) * x_1) : Int) + (4 : Int))))) = AV.d (D.val (Value.int IntKind.i64 (↑((4 : Nat) * ((IntKind.i64.wrap ((↑((4 : Nat) * x_1) : Int) + (4 : Int))).toNat / (4 : Nat))) : Int))) ∧ True) ∧
   (some (Blk.row (113 : TypeId) (D.ints IntKind.u32 (wl l x_1 ++ [(↑(BitVec.toNat (pw l x_2.snd x_2.fst)) : Int)]))) = some (Blk.row (113 : TypeId) (D.ints IntKind.u32 (wl l ((IntKind.i64.wrap ((↑((4 : Nat) * x_1) : Int) + (4 : Int))).toNat / (4 : Nat))))) ∧ True) ∧ true = true) ∧
   (IntKind.i64.wrap ((↑((4 : Nat) * x_1) : Int) + (4 : Int))).toNat / (4 : Nat) ≤ (16 : Nat) ∧ (16 : Nat) - (IntKind.i64.wrap ((↑((4 : Nat) * x_1) : Int) + (4 : Int))).toNat / (4 : Nat) < (16 : Nat) - x_1
 | false =>
  (((sm (AV.row (24 : Nat)) ∧ True) ∧ (some (Blk.row (113 : TypeId) (D.ints IntKind.u32 (wl l x_1))) = some (Blk.row (113 : TypeId) (D.ints IntKind.u32 (wl l (wl l x_1).length))) ∧ True) ∧ true = true) ∧ (16 : Nat) ≤ (wl l x_1).length ∧ (wl l x_1).length ≤ (64 : Nat)) ∧
  ∀ (x_2 : Nat),
  (16 : Nat) ≤ x_2 ∧ x_2 ≤ (64 : Nat) →
  true = true ∧
  True ∧
  True ∧
  True ∧
  match decide ((↑(wl l x_2).length : Int) < (64 : Int)) with
  | true =>
   True ∧
   True ∧
   True ∧
   True ∧
   True ∧
   True ∧
   ((0 : Int) ≤ IntKind.i64.wrap ((↑(wl l x_2).length : Int) - (15 : Int)) ∧ IntKind.i64.wrap ((↑(wl l x_2).length : Int) - (15 : Int)) < (↑(wl l x_2).length : Int) ∧ (1 : Nat) = (1 : Nat)) ∧
   ((IntKind.i64.wrap ((↑(wl l x_2).length : Int) - (15 : Int))).toNat < (wl l x_2).length ∧ (1 : Nat) = (1 : Nat) ∧ false = false) ∧
   True ∧
   True ∧
   True ∧
   ((0 : Int) ≤ IntKind.i64.wrap ((↑(wl l x_2).length : Int) - (2 : Int)) ∧ IntKind.i64.wrap ((↑(wl l x_2).length : Int) - (2 : Int)) < (↑(wl l x_2).length : Int) ∧ (1 : Nat) = (1 : Nat)) ∧
   ((IntKind.i64.wrap ((↑(wl l x_2).length : Int) - (2 : Int))).toNat < (wl l x_2).length ∧ (1 : Nat) = (1 : Nat) ∧ false = false) ∧
   True ∧
   True ∧
   True ∧
   True ∧
   True ∧
   True ∧
   ((0 : Int) ≤ IntKind.i64.wrap ((↑(wl l x_2).length : Int) - (16 : Int)) ∧ IntKind.i64.wrap ((↑(wl l x_2).length : Int) - (16 : Int)) < (↑(wl l x_2).length : Int) ∧ (1 : Nat) = (1 : Nat)) ∧
   ((IntKind.i64.wrap ((↑(wl l x_2).length : Int) - (16 : Int))).toNat < (wl l x_2).length ∧ (1 : Nat) = (1 : Nat) ∧ false = false) ∧
   True ∧
   True ∧
   True ∧
   ((0 : Int) ≤ IntKind.i64.wrap ((↑(wl l x_2).length : Int) - (7 : Int)) ∧ IntKind.i64.wrap ((↑(wl l x_2).length : Int) - (7 : Int)) < (↑(wl l x_2).length : Int) ∧ (1 : Nat) = (1 : Nat)) ∧
   ((IntKind.i64.wrap ((↑(wl l x_2).length : Int) - (7 : Int))).toNat < (wl l x_2).length ∧ (1 : Nat) = (1 : Nat) ∧ false = false) ∧
   True ∧
   True ∧
   (∃ (x : W),
   ∃ (n : Nat),
   [D.val (Value.int IntKind.u32 ((wl l x_2).getD (IntKind.i64.wrap ((↑(wl l x_2).length : Int) - (15 : Int))).toNat (0 : Int))), D.val (Value.int IntKind.u64 (7 : Int))] = [D.val (Value.int IntKind.u32 (↑(BitVec.toNat x) : Int)), D.val (Value.int IntKind.u64 (↑n : Int))] ∧
   (1 : Nat) ≤ n ∧ n ≤ (31 : Nat)) ∧
   True ∧
   (∃ (x : W),
   ∃ (n : Nat),
   [D.val (Value.int IntKind.u32 ((wl l x_2).getD (IntKind.i64.wrap ((↑(wl l x_2).length : Int) - (15 : Int))).toNat (0 : Int))), D.val (Value.int IntKind.u64 (18 : Int))] = [D.val (Value.int IntKind.u32 (↑(BitVec.toNat x) : Int)), D.val (Value.int IntKind.u64 (↑n : Int))] ∧
   (1 : Nat) ≤ n ∧ n ≤ (31 : Nat)) ∧
   True ∧
   True ∧
   (8 : Int) ≠ (0 : Int) ∧
   True ∧
   True ∧
   True ∧
   (∃ (x : W),
   ∃ (n : Nat),
   [D.val (Value.int IntKind.u32 ((wl l x_2).getD (IntKind.i64.wrap ((↑(wl l x_2).length : Int) - (2 : Int))).toNat (0 : Int))), D.val (Value.int IntKind.u64 (17 : Int))] = [D.val (Value.int IntKind.u32 (↑(BitVec.toNat x) : Int)), D.val (Value.int IntKind.u64 (↑n : Int))] ∧
   (1 : Nat) ≤ n ∧ n ≤ (31 : Nat)) ∧
   True ∧
   (∃ (x : W),
   ∃ (n : Nat),
   [D.val (Value.int IntKind.u32 ((wl l x_2).getD (IntKind.i64.wrap ((↑(wl l x_2).length : Int) - (2 : Int))).toNat (0 : Int))), D.val (Value.int IntKind.u64 (19 : Int))] = [D.val (Value.int IntKind.u32 (↑(BitVec.toNat x) : Int)), D.val (Value.int IntKind.u64 (↑n : Int))] ∧
   (1 : Nat) ≤ n ∧ n ≤ (31 : Nat)) ∧
   True ∧
   True ∧
   (1024 : Int) ≠ (0 : Int) ∧
   True ∧
   True ∧
   ((1 : Nat) = (1 : Nat) ∧ (1 : Nat) ≤ (4096 : Nat)) ∧
   ((113 : TypeId) = (113 : TypeId) ∧
   (170 : Nat) = (170 : Nat) ∧
   true = true ∧
   (wl l x_2 ++
   [IntKind.u32.wrap
   (IntKind.u32.wrap
   (IntKind.u32.wrap ((wl l x_2).getD (IntKind.i64.wrap ((↑(wl l x_2).length : Int) - (16 : Int))).toNat (0 : Int) + (wl l x_2).getD (IntKind.i64.wrap ((↑(wl l x_2).length : Int) - (7 : Int))).toNat (0 : Int)) +
   ixor IntKind.u32
   (ixor IntKind.u32 (↑(BitVec.toNat (rr (toW (D.val (Value.int IntKind.u32 ((wl l x_2).getD (IntKind.i64.wrap ((↑(wl l x_2).length : Int) - (15 : Int))).toNat (0 : Int))))) (7 : Nat))) : Int)
   (↑(BitVec.toNat (rr (toW (D.val (Value.int IntKind.u32 ((wl l x_2).getD (IntKind.i64.wrap ((↑(wl l x_2).length : Int) - (15 : Int))).toNat (0 : Int))))) (18 : Nat))) : Int))
   (IntKind.u32.wrap (((wl l x_2).getD (IntKind.i64.wrap ((↑(wl l x_2).length : Int) - (15 : Int))).toNat (0 : Int)).tdiv (8 : Int)))) +
   ixor IntKind.u32
   (ixor IntKind.u32 (↑(BitVec.toNat (rr (toW (D.val (Value.int IntKind.u32 ((wl l x_2).getD (IntKind.i64.wrap ((↑(wl l x_2).length : Int) - (2 : Int))).toNat (0 : Int))))) (17 : Nat))) : Int)
   (↑(BitVec.toNat (rr (toW (D.val (Value.int IntKind.u32 ((wl l x_2).getD (IntKind.i64.wrap ((↑(wl l x_2).length : Int) - (2 : Int))).toNat (0 : Int))))) (19 : Nat))) : Int))
   (IntKind.u32.wrap (((wl l x_2).getD (IntKind.i64.wrap ((↑(wl l x_2).length : Int) - (2 : Int))).toNat (0 : Int)).tdiv (1024 : Int))))]).length ≤
   (140737488355328 : Nat) ∧
   (wl l x_2 ++
   [IntKind.u32.wrap
   (IntKind.u32.wrap
   (IntKind.u32.wrap ((wl l x_2).getD (IntKind.i64.wrap ((↑(wl l x_2).length : Int) - (16 : Int))).toNat (0 : Int) + (wl l x_2).getD (IntKind.i64.wrap ((↑(wl l x_2).length : Int) - (7 : Int))).toNat (0 : Int)) +
   ixor IntKind.u32
   (ixor IntKind.u32 (↑(BitVec.toNat (rr (toW (D.val (Value.int IntKind.u32 ((wl l x_2).getD (IntKind.i64.wrap ((↑(wl l x_2).length : Int) - (15 : Int))).toNat (0 : Int))))) (7 : Nat))) : Int)
   (↑(BitVec.toNat (rr (toW (D.val (Value.int IntKind.u32 ((wl l x_2).getD (IntKind.i64.wrap ((↑(wl l x_2).length : Int) - (15 : Int))).toNat (0 : Int))))) (18 : Nat))) : Int))
   (IntKind.u32.wrap (((wl l x_2).getD (IntKind.i64.wrap ((↑(wl l x_2).length : Int) - (15 : Int))).toNat (0 : Int)).tdiv (8 : Int)))) +
   ixor IntKind.u32
   (ixor IntKind.u32 (↑(BitVec.toNat (rr (toW (D.val (Value.int IntKind.u32 ((wl l x_2).getD (IntKind.i64.wrap ((↑(wl l x_2).length : Int) - (2 : Int))).toNat (0 : Int))))) (17 : Nat))) : Int)
   (↑(BitVec.toNat (rr (toW (D.val (Value.int IntKind.u32 ((wl l x_2).getD (IntKind.i64.wrap ((↑(wl l x_2).length : Int) - (2 : Int))).toNat (0 : Int))))) (19 : Nat))) : Int))
   (IntKind.u32.wrap (((wl l x_2).getD (IntKind.i64.wrap ((↑(wl l x_2).length : Int) - (2 : Int))).toNat (0 : Int)).tdiv (1024 : Int))))]).length *
   (4 : Nat) ≤
   (140737488355328 : Nat) ∧
   (1 : Nat) ≠ (0 : Nat) ∧ (1 : Nat) = (1 : Nat)) ∧
   True ∧
   ((sm (AV.row (24 : Nat)) ∧ True) ∧
   (some
   (Blk.row (113 : TypeId)
   (D.ints IntKind.u32
   (wl l x_2 ++
   [IntKind.u32.wrap
   (IntKind.u32.wrap
   (IntKind.u32.wrap ((wl l x_2).getD (IntKind.i64.wrap ((↑(wl l x_2).length : Int) - (16 : Int))).toNat (0 : Int) + (wl l x_2).getD (IntKind.i64.wrap ((↑(wl l x_2).length : Int) - (7 : Int))).toNat (0 : Int)) +
   ixor IntKind.u32
   (ixor IntKind.u32 (↑(BitVec.toNat (rr (toW (D.val (Value.int IntKind.u32 ((wl l x_2).getD (IntKind.i64.wrap ((↑(wl l x_2).length : Int) - (15 : Int))).toNat (0 : Int))))) (7 : Nat))) : Int)
   (↑(BitVec.toNat (rr (toW (D.val (Value.int IntKind.u32 ((wl l x_2).getD (IntKind.i64.wrap ((↑(wl l x_2).length : Int) - (15 : Int))).toNat (0 : Int))))) (18 : Nat))) : Int))
   (IntKind.u32.wrap (((wl l x_2).getD (IntKind.i64.wrap ((↑(wl l x_2).length : Int) - (15 : Int))).toNat (0 : Int)).tdiv (8 : Int)))) +
   ixor IntKind.u32
   (ixor IntKind.u32 (↑(BitVec.toNat (rr (toW (D.val (Value.int IntKind.u32 ((wl l x_2).getD (IntKind.i64.wrap ((↑(wl l x_2).length : Int) - (2 : Int))).toNat (0 : Int))))) (17 : Nat))) : Int)
   (↑(BitVec.toNat (rr (toW (D.val (Value.int IntKind.u32 ((wl l x_2).getD (IntKind.i64.wrap ((↑(wl l x_2).length : Int) - (2 : Int))).toNat (0 : Int))))) (19 : Nat))) : Int))
   (IntKind.u32.wrap (((wl l x_2).getD (IntKind.i64.wrap ((↑(wl l x_2).length : Int) - (2 : Int))).toNat (0 : Int)).tdiv (1024 : Int))))]))) =
   some
   (Blk.row (113 : TypeId)
   (D.ints IntKind.u32
   (wl l
   (wl l x_2 ++
   [IntKind.u32.wrap
   (IntKind.u32.wrap
   (IntKind.u32.wrap ((wl l x_2).getD (IntKind.i64.wrap ((↑(wl l x_2).length : Int) - (16 : Int))).toNat (0 : Int) + (wl l x_2).getD (IntKind.i64.wrap ((↑(wl l x_2).length : Int) - (7 : Int))).toNat (0 : Int)) +
   ixor IntKind.u32
   (ixor IntKind.u32 (↑(BitVec.toNat (rr (toW (D.val (Value.int IntKind.u32 ((wl l x_2).getD (IntKind.i64.wrap ((↑(wl l x_2).length : Int) - (15 : Int))).toNat (0 : Int))))) (7 : Nat))) : Int)
   (↑(BitVec.toNat (rr (toW (D.val (Value.int IntKind.u32 ((wl l x_2).getD (IntKind.i64.wrap ((↑(wl l x_2).length : Int) - (15 : Int))).toNat (0 : Int))))) (18 : Nat))) : Int))
   (IntKind.u32.wrap (((wl l x_2).getD (IntKind.i64.wrap ((↑(wl l x_2).length : Int) - (15 : Int))).toNat (0 : Int)).tdiv (8 : Int)))) +
   ixor IntKind.u32
   (ixor IntKind.u32 (↑(BitVec.toNat (rr (toW (D.val (Value.int IntKind.u32 ((wl l x_2).getD (IntKind.i64.wrap ((↑(wl l x_2).length : Int) - (2 : Int))).toNat (0 : Int))))) (17 : Nat))) : Int)
   (↑(BitVec.toNat (rr (toW (D.val (Value.int IntKind.u32 ((wl l x_2).getD (IntKind.i64.wrap ((↑(wl l x_2).length : Int) - (2 : Int))).toNat (0 : Int))))) (19 : Nat))) : Int))
   (IntKind.u32.wrap (((wl l x_2).getD (IntKind.i64.wrap ((↑(wl l x_2).length : Int) - (2 : Int))).toNat (0 : Int)).tdiv (1024 : Int))))]).length))) ∧
   True) ∧
   true = true) ∧
   ((16 : Nat) ≤
   (wl l x_2 ++
   [IntKind.u32.wrap
   (IntKind.u32.wrap
   (IntKind.u32.wrap ((wl l x_2).getD (IntKind.i64.wrap ((↑(wl l x_2).length : Int) - (16 : Int))).toNat (0 : Int) + (wl l x_2).getD (IntKind.i64.wrap ((↑(wl l x_2).length : Int) - (7 : Int))).toNat (0 : Int)) +
   ixor IntKind.u32
   (ixor IntKind.u32 (↑(BitVec.toNat (rr (toW (D.val (Value.int IntKind.u32 ((wl l x_2).getD (IntKind.i64.wrap ((↑(wl l x_2).length : Int) - (15 : Int))).toNat (0 : Int))))) (7 : Nat))) : Int)
   (↑(BitVec.toNat (rr (toW (D.val (Value.int IntKind.u32 ((wl l x_2).getD (IntKind.i64.wrap ((↑(wl l x_2).length : Int) - (15 : Int))).toNat (0 : Int))))) (18 : Nat))) : Int))
   (IntKind.u32.wrap (((wl l x_2).getD (IntKind.i64.wrap ((↑(wl l x_2).length : Int) - (15 : Int))).toNat (0 : Int)).tdiv (8 : Int)))) +
   ixor IntKind.u32
   (ixor IntKind.u32 (↑(BitVec.toNat (rr (toW (D.val (Value.int IntKind.u32 ((wl l x_2).getD (IntKind.i64.wrap ((↑(wl l x_2).length : Int) - (2 : Int))).toNat (0 : Int))))) (17 : Nat))) : Int)
   (↑(BitVec.toNat (rr (toW (D.val (Value.int IntKind.u32 ((wl l x_2).getD (IntKind.i64.wrap ((↑(wl l x_2).length : Int) - (2 : Int))).toNat (0 : Int))))) (19 : Nat))) : Int))
   (IntKind.u32.wrap (((wl l x_2).getD (IntKind.i64.wrap ((↑(wl l x_2).length : Int) - (2 : Int))).toNat (0 : Int)).tdiv (1024 : Int))))]).length ∧
   (wl l x_2 ++
   [IntKind.u32.wrap
   (IntKind.u32.wrap
   (IntKind.u32.wrap ((wl l x_2).getD (IntKind.i64.wrap ((↑(wl l x_2).length : Int) - (16 : Int))).toNat (0 : Int) + (wl l x_2).getD (IntKind.i64.wrap ((↑(wl l x_2).length : Int) - (7 : Int))).toNat (0 : Int)) +
   ixor IntKind.u32
   (ixor IntKind.u32 (↑(BitVec.toNat (rr (toW (D.val (Value.int IntKind.u32 ((wl l x_2).getD (IntKind.i64.wrap ((↑(wl l x_2).length : Int) - (15 : Int))).toNat (0 : Int))))) (7 : Nat))) : Int)
   (↑(BitVec.toNat (rr (toW (D.val (Value.int IntKind.u32 ((wl l x_2).getD (IntKind.i64.wrap ((↑(wl l x_2).length : Int) - (15 : Int))).toNat (0 : Int))))) (18 : Nat))) : Int))
   (IntKind.u32.wrap (((wl l x_2).getD (IntKind.i64.wrap ((↑(wl l x_2).length : Int) - (15 : Int))).toNat (0 : Int)).tdiv (8 : Int)))) +
   ixor IntKind.u32
   (ixor IntKind.u32 (↑(BitVec.toNat (rr (toW (D.val (Value.int IntKind.u32 ((wl l x_2).getD (IntKind.i64.wrap ((↑(wl l x_2).length : Int) - (2 : Int))).toNat (0 : Int))))) (17 : Nat))) : Int)
   (↑(BitVec.toNat (rr (toW (D.val (Value.int IntKind.u32 ((wl l x_2).getD (IntKind.i64.wrap ((↑(wl l x_2).length : Int) - (2 : Int))).toNat (0 : Int))))) (19 : Nat))) : Int))
   (IntKind.u32.wrap (((wl l x_2).getD (IntKind.i64.wrap ((↑(wl l x_2).length : Int) - (2 : Int))).toNat (0 : Int)).tdiv (1024 : Int))))]).length ≤
   (64 : Nat)) ∧
   (64 : Nat) -
   (wl l x_2 ++
   [IntKind.u32.wrap
   (IntKind.u32.wrap
   (IntKind.u32.wrap ((wl l x_2).getD (IntKind.i64.wrap ((↑(wl l x_2).length : Int) - (16 : Int))).toNat (0 : Int) + (wl l x_2).getD (IntKind.i64.wrap ((↑(wl l x_2).length : Int) - (7 : Int))).toNat (0 : Int)) +
   ixor IntKind.u32
   (ixor IntKind.u32 (↑(BitVec.toNat (rr (toW (D.val (Value.int IntKind.u32 ((wl l x_2).getD (IntKind.i64.wrap ((↑(wl l x_2).length : Int) - (15 : Int))).toNat (0 : Int))))) (7 : Nat))) : Int)
   (↑(BitVec.toNat (rr (toW (D.val (Value.int IntKind.u32 ((wl l x_2).getD (IntKind.i64.wrap ((↑(wl l x_2).length : Int) - (15 : Int))).toNat (0 : Int))))) (18 : Nat))) : Int))
   (IntKind.u32.wrap (((wl l x_2).getD (IntKind.i64.wrap ((↑(wl l x_2).length : Int) - (15 : Int))).toNat (0 : Int)).tdiv (8 : Int)))) +
   ixor IntKind.u32
   (ixor IntKind.u32 (↑(BitVec.toNat (rr (toW (D.val (Value.int IntKind.u32 ((wl l x_2).getD (IntKind.i64.wrap ((↑(wl l x_2).length : Int) - (2 : Int))).toNat (0 : Int))))) (17 : Nat))) : Int)
   (↑(BitVec.toNat (rr (toW (D.val (Value.int IntKind.u32 ((wl l x_2).getD (IntKind.i64.wrap ((↑(wl l x_2).length : Int) - (2 : Int))).toNat (0 : Int))))) (19 : Nat))) : Int))
   (IntKind.u32.wrap (((wl l x_2).getD (IntKind.i64.wrap ((↑(wl l x_2).length : Int) - (2 : Int))).toNat (0 : Int)).tdiv (1024 : Int))))]).length <
   (64 : Nat) - x_2
  | false =>
   True ∧
   ((0 : Int) ≤ (0 : Int) ∧ (0 : Int) < (↑(8 : Nat) : Int) ∧ (1 : Nat) = (1 : Nat)) ∧
   ((1 : Nat) ≠ (0 : Nat) ∧ (1 : Nat) = (1 : Nat) ∧ false = false) ∧
   True ∧
   ((0 : Int) ≤ (1 : Int) ∧ (1 : Int) < (↑(8 : Nat) : Int) ∧ (1 : Nat) = (1 : Nat)) ∧
   ((1 : Nat) ≠ (0 : Nat) ∧ (1 : Nat) = (1 : Nat) ∧ false = false) ∧
   True ∧
   ((0 : Int) ≤ (2 : Int) ∧ (2 : Int) < (↑(8 : Nat) : Int) ∧ (1 : Nat) = (1 : Nat)) ∧
   ((1 : Nat) ≠ (0 : Nat) ∧ (1 : Nat) = (1 : Nat) ∧ false = false) ∧
   True ∧
   ((0 : Int) ≤ (3 : Int) ∧ (3 : Int) < (↑(8 : Nat) : Int) ∧ (1 : Nat) = (1 : Nat)) ∧
   ((1 : Nat) ≠ (0 : Nat) ∧ (1 : Nat) = (1 : Nat) ∧ false = false) ∧
   True ∧
   ((0 : Int) ≤ (4 : Int) ∧ (4 : Int) < (↑(8 : Nat) : Int) ∧ (1 : Nat) = (1 : Nat)) ∧
   ((1 : Nat) ≠ (0 : Nat) ∧ (1 : Nat) = (1 : Nat) ∧ false = false) ∧
   True ∧
   ((0 : Int) ≤ (5 : Int) ∧ (5 : Int) < (↑(8 : Nat) : Int) ∧ (1 : Nat) = (1 : Nat)) ∧
   ((1 : Nat) ≠ (0 : Nat) ∧ (1 : Nat) = (1 : Nat) ∧ false = false) ∧
   True ∧
   ((0 : Int) ≤ (6 : Int) ∧ (6 : Int) < (↑(8 : Nat) : Int) ∧ (1 : Nat) = (1 : Nat)) ∧
   ((1 : Nat) ≠ (0 : Nat) ∧ (1 : Nat) = (1 : Nat) ∧ false = false) ∧
   True ∧
   ((0 : Int) ≤ (7 : Int) ∧ (7 : Int) < (↑(8 : Nat) : Int) ∧ (1 : Nat) = (1 : Nat)) ∧
   ((1 : Nat) ≠ (0 : Nat) ∧ (1 : Nat) = (1 : Nat) ∧ false = false) ∧
   True ∧
   True ∧
   True ∧
   True ∧
   True ∧
   True ∧
   True ∧
   True ∧
   True ∧
   True ∧
   True ∧
   (((sm (AV.d (D.ints IntKind.u32 [(↑(BitVec.toNat x.a) : Int), (↑(BitVec.toNat x.b) : Int), (↑(BitVec.toNat x.c) : Int), (↑(BitVec.toNat x.d) : Int), (↑(BitVec.toNat x.e) : Int), (↑(BitVec.toNat x.f) : Int), (↑(BitVec.toNat x.g) : Int), (↑(BitVec.toNat x.h) : Int)])) ∧
   sm (AV.d (D.str l)) ∧
   sm (AV.d (D.val (Value.slice none (0 : Nat) (0 : Nat)))) ∧
   sm (AV.row (24 : Nat)) ∧
   sm (AV.d (D.val (Value.int IntKind.i64 (↑((4 : Nat) * x_1) : Int)))) ∧
   AV.d (D.val (Value.int IntKind.u32 (↑(BitVec.toNat x.a) : Int))) = AV.d (D.val (Value.int IntKind.u32 (↑(BitVec.toNat (rd x l (Int.toNat (0 : Int))).a) : Int))) ∧
   AV.d (D.val (Value.int IntKind.u32 (↑(BitVec.toNat x.b) : Int))) = AV.d (D.val (Value.int IntKind.u32 (↑(BitVec.toNat (rd x l (Int.toNat (0 : Int))).b) : Int))) ∧
   AV.d (D.val (Value.int IntKind.u32 (↑(BitVec.toNat x.c) : Int))) = AV.d (D.val (Value.int IntKind.u32 (↑(BitVec.toNat (rd x l (Int.toNat (0 : Int))).c) : Int))) ∧
   AV.d (D.val (Value.int IntKind.u32 (↑(BitVec.toNat x.d) : Int))) = AV.d (D.val (Value.int IntKind.u32 (↑(BitVec.toNat (rd x l (Int.toNat (0 : Int))).d) : Int))) ∧
   AV.d (D.val (Value.int IntKind.u32 (↑(BitVec.toNat x.e) : Int))) = AV.d (D.val (Value.int IntKind.u32 (↑(BitVec.toNat (rd x l (Int.toNat (0 : Int))).e) : Int))) ∧
   AV.d (D.val (Value.int IntKind.u32 (↑(BitVec.toNat x.f) : Int))) = AV.d (D.val (Value.int IntKind.u32 (↑(BitVec.toNat (rd x l (Int.toNat (0 : Int))).f) : Int))) ∧
   AV.d (D.val (Value.int IntKind.u32 (↑(BitVec.toNat x.g) : Int))) = AV.d (D.val (Value.int IntKind.u32 (↑(BitVec.toNat (rd x l (Int.toNat (0 : Int))).g) : Int))) ∧
   AV.d (D.val (Value.int IntKind.u32 (↑(BitVec.toNat x.h) : Int))) = AV.d (D.val (Value.int IntKind.u32 (↑(BitVec.toNat (rd x l (Int.toNat (0 : Int))).h) : Int))) ∧
   sm (AV.d (D.val (Value.int IntKind.i64 (↑((4 : Nat) * x_1) : Int)))) ∧
   sm (AV.d (D.val (Value.bool (decide ((↑((4 : Nat) * x_1) : Int) < (64 : Int)))))) ∧
   sm (AV.row (24 : Nat)) ∧
   sm (AV.d (D.val (Value.int IntKind.i64 (↑(wl l x_2).length : Int)))) ∧
   sm (AV.d (D.val (Value.bool (decide ((↑(wl l x_2).length : Int) < (64 : Int)))))) ∧
   sm
   (AV.d
   (D.ints IntKind.u32
   [(↑(BitVec.toNat x.a) : Int), (↑(BitVec.toNat x.b) : Int), (↑(BitVec.toNat x.c) : Int), (↑(BitVec.toNat x.d) : Int), (↑(BitVec.toNat x.e) : Int), (↑(BitVec.toNat x.f) : Int), (↑(BitVec.toNat x.g) : Int), (↑(BitVec.toNat x.h) : Int)])) ∧
   sm (AV.dat (D.val (Value.int IntKind.u32 (↑(BitVec.toNat x.a) : Int)))) ∧
   sm (AV.d (D.val (Value.int IntKind.u32 (↑(BitVec.toNat x.a) : Int)))) ∧
   sm
   (AV.d
   (D.ints IntKind.u32
   [(↑(BitVec.toNat x.a) : Int), (↑(BitVec.toNat x.b) : Int), (↑(BitVec.toNat x.c) : Int), (↑(BitVec.toNat x.d) : Int), (↑(BitVec.toNat x.e) : Int), (↑(BitVec.toNat x.f) : Int), (↑(BitVec.toNat x.g) : Int),
   (↑(BitVec.toNat x.h) : Int)])) ∧
   sm (AV.dat (D.val (Value.int IntKind.u32 (↑(BitVec.toNat x.b) : Int)))) ∧
   sm (AV.d (D.val (Value.int IntKind.u32 (↑(BitVec.toNat x.b) : Int)))) ∧
   sm
   (AV.d
   (D.ints IntKind.u32
   [(↑(BitVec.toNat x.a) : Int), (↑(BitVec.toNat x.b) : Int), (↑(BitVec.toNat x.c) : Int), (↑(BitVec.toNat x.d) : Int), (↑(BitVec.toNat x.e) : Int), (↑(BitVec.toNat x.f) : Int), (↑(BitVec.toNat x.g) : Int),
   (↑(BitVec.toNat x.h) : Int)])) ∧
   sm (AV.dat (D.val (Value.int IntKind.u32 (↑(BitVec.toNat x.c) : Int)))) ∧
   sm (AV.d (D.val (Value.int IntKind.u32 (↑(BitVec.toNat x.c) : Int)))) ∧
   sm
   (AV.d
   (D.ints IntKind.u32
   [(↑(BitVec.toNat x.a) : Int), (↑(BitVec.toNat x.b) : Int), (↑(BitVec.toNat x.c) : Int), (↑(BitVec.toNat x.d) : Int), (↑(BitVec.toNat x.e) : Int), (↑(BitVec.toNat x.f) : Int), (↑(BitVec.toNat x.g) : Int),
   (↑(BitVec.toNat x.h) : Int)])) ∧
   sm (AV.dat (D.val (Value.int IntKind.u32 (↑(BitVec.toNat x.d) : Int)))) ∧
   sm (AV.d (D.val (Value.int IntKind.u32 (↑(BitVec.toNat x.d) : Int)))) ∧
   sm
   (AV.d
   (D.ints IntKind.u32
   [(↑(BitVec.toNat x.a) : Int), (↑(BitVec.toNat x.b) : Int), (↑(BitVec.toNat x.c) : Int), (↑(BitVec.toNat x.d) : Int), (↑(BitVec.toNat x.e) : Int), (↑(BitVec.toNat x.f) : Int), (↑(BitVec.toNat x.g) : Int),
   (↑(BitVec.toNat x.h) : Int)])) ∧
   sm (AV.dat (D.val (Value.int IntKind.u32 (↑(BitVec.toNat x.e) : Int)))) ∧
   sm (AV.d (D.val (Value.int IntKind.u32 (↑(BitVec.toNat x.e) : Int)))) ∧
   sm
   (AV.d
   (D.ints IntKind.u32
   [(↑(BitVec.toNat x.a) : Int), (↑(BitVec.toNat x.b) : Int), (↑(BitVec.toNat x.c) : Int), (↑(BitVec.toNat x.d) : Int), (↑(BitVec.toNat x.e) : Int), (↑(BitVec.toNat x.f) : Int), (↑(BitVec.toNat x.g) : Int),
   (↑(BitVec.toNat x.h) : Int)])) ∧
   sm (AV.dat (D.val (Value.int IntKind.u32 (↑(BitVec.toNat x.f) : Int)))) ∧
   sm (AV.d (D.val (Value.int IntKind.u32 (↑(BitVec.toNat x.f) : Int)))) ∧
   sm
   (AV.d
   (D.ints IntKind.u32
   [(↑(BitVec.toNat x.a) : Int), (↑(BitVec.toNat x.b) : Int), (↑(BitVec.toNat x.c) : Int), (↑(BitVec.toNat x.d) : Int), (↑(BitVec.toNat x.e) : Int), (↑(BitVec.toNat x.f) : Int), (↑(BitVec.toNat x.g) : Int),
   (↑(BitVec.toNat x.h) : Int)])) ∧
   sm (AV.dat (D.val (Value.int IntKind.u32 (↑(BitVec.toNat x.g) : Int)))) ∧
   sm (AV.d (D.val (Value.int IntKind.u32 (↑(BitVec.toNat x.g) : Int)))) ∧
   sm
   (AV.d
   (D.ints IntKind.u32
   [(↑(BitVec.toNat x.a) : Int), (↑(BitVec.toNat x.b) : Int), (↑(BitVec.toNat x.c) : Int), (↑(BitVec.toNat x.d) : Int), (↑(BitVec.toNat x.e) : Int), (↑(BitVec.toNat x.f) : Int),
   (↑(BitVec.toNat x.g) : Int), (↑(BitVec.toNat x.h) : Int)])) ∧
   sm (AV.dat (D.val (Value.int IntKind.u32 (↑(BitVec.toNat x.h) : Int)))) ∧
   sm (AV.d (D.val (Value.int IntKind.u32 (↑(BitVec.toNat x.h) : Int)))) ∧
   sm (AV.row (24 : Nat)) ∧
   sm (AV.d (D.val (Value.int IntKind.i64 (↑(wl l x_2).length : Int)))) ∧ AV.d (D.val (Value.int IntKind.i64 (0 : Int))) = AV.d (D.val (Value.int IntKind.i64 (↑(Int.toNat (0 : Int)) : Int))) ∧ True) ∧
   (sm (some (Blk.row (113 : TypeId) (D.ints IntKind.u32 (wl l x_2)))) ∧ True) ∧ true = true) ∧
   Int.toNat (0 : Int) ≤ (64 : Nat)) ∧
   ∀ (x_3 : Nat),
   x_3 ≤ (64 : Nat) →
   true = true ∧
   True ∧
   match decide ((↑x_3 : Int) < (↑(wl l x_2).length : Int)) with
   | true =>
    True ∧
    ((0 : Int) ≤ (↑x_3 : Int) ∧ (↑x_3 : Int) < (↑(wl l x_2).length : Int) ∧ (1 : Nat) = (1 : Nat)) ∧
    ((↑x_3 : Int).toNat < (wl l x_2).length ∧ (1 : Nat) = (1 : Nat) ∧ false = false) ∧
    True ∧
    True ∧
    True ∧
    True ∧
    (∃ (x_4 : W),
    ∃ (n : Nat),
    [D.val (Value.int IntKind.u32 (↑(BitVec.toNat (rd x l x_3).e) : Int)), D.val (Value.int IntKind.u64 (6 : Int))] = [D.val (Value.int IntKind.u32 (↑(BitVec.toNat x_4) : Int)), D.val (Value.int IntKind.u64 (↑n : Int))] ∧ (1 : Nat) ≤ n ∧ n ≤ (31 : Nat)) ∧
    True ∧
    (∃ (x_4 : W),
    ∃ (n : Nat),
    [D.val (Value.int IntKind.u32 (↑(BitVec.toNat (rd x l x_3).e) : Int)), D.val (Value.int IntKind.u64 (11 : Int))] = [D.val (Value.int IntKind.u32 (↑(BitVec.toNat x_4) : Int)), D.val (Value.int IntKind.u64 (↑n : Int))] ∧ (1 : Nat) ≤ n ∧ n ≤ (31 : Nat)) ∧
    True ∧
    True ∧
    (∃ (x_4 : W),
    ∃ (n : Nat),
    [D.val (Value.int IntKind.u32 (↑(BitVec.toNat (rd x l x_3).e) : Int)), D.val (Value.int IntKind.u64 (25 : Int))] = [D.val (Value.int IntKind.u32 (↑(BitVec.toNat x_4) : Int)), D.val (Value.int IntKind.u64 (↑n : Int))] ∧
    (1 : Nat) ≤ n ∧ n ≤ (31 : Nat)) ∧
    True ∧
    True ∧
    True ∧
    True ∧
    True ∧
    (∃ (x_4 : W),
    ∃ (y : W),
    ∃ (z : W),
    [D.val (Value.int IntKind.u32 (↑(BitVec.toNat (rd x l x_3).e) : Int)), D.val (Value.int IntKind.u32 (↑(BitVec.toNat (rd x l x_3).f) : Int)), D.val (Value.int IntKind.u32 (↑(BitVec.toNat (rd x l x_3).g) : Int))] =
    [D.val (Value.int IntKind.u32 (↑(BitVec.toNat x_4) : Int)), D.val (Value.int IntKind.u32 (↑(BitVec.toNat y) : Int)), D.val (Value.int IntKind.u32 (↑(BitVec.toNat z) : Int))]) ∧
    True ∧
    True ∧
    ((0 : Int) ≤ (↑x_3 : Int) ∧ (↑x_3 : Int) < (↑(64 : Nat) : Int) ∧ (64 : Nat) = (64 : Nat) ∧ (1 : Nat) = (1 : Nat)) ∧
    ((1 : Nat) ≠ (0 : Nat) ∧ (1 : Nat) = (1 : Nat) ∧ false = false) ∧
    True ∧
    True ∧
    True ∧
    True ∧
    True ∧
    (∃ (x_4 : W),
    ∃ (n : Nat),
    [D.val (Value.int IntKind.u32 (↑(BitVec.toNat (rd x l x_3).a) : Int)), D.val (Value.int IntKind.u64 (2 : Int))] =
    [D.val (Value.int IntKind.u32 (↑(BitVec.toNat x_4) : Int)), D.val (Value.int IntKind.u64 (↑n : Int))] ∧
    (1 : Nat) ≤ n ∧ n ≤ (31 : Nat)) ∧
    True ∧
    (∃ (x_4 : W),
    ∃ (n : Nat),
    [D.val (Value.int IntKind.u32 (↑(BitVec.toNat (rd x l x_3).a) : Int)), D.val (Value.int IntKind.u64 (13 : Int))] =
    [D.val (Value.int IntKind.u32 (↑(BitVec.toNat x_4) : Int)), D.val (Value.int IntKind.u64 (↑n : Int))] ∧
    (1 : Nat) ≤ n ∧ n ≤ (31 : Nat)) ∧
    True ∧
    True ∧
    (∃ (x_4 : W),
    ∃ (n : Nat),
    [D.val (Value.int IntKind.u32 (↑(BitVec.toNat (rd x l x_3).a) : Int)), D.val (Value.int IntKind.u64 (22 : Int))] =
    [D.val (Value.int IntKind.u32 (↑(BitVec.toNat x_4) : Int)), D.val (Value.int IntKind.u64 (↑n : Int))] ∧
    (1 : Nat) ≤ n ∧ n ≤ (31 : Nat)) ∧
    True ∧
    True ∧
    True ∧
    True ∧
    (∃ (x_4 : W),
    ∃ (y : W),
    ∃ (z : W),
    [D.val (Value.int IntKind.u32 (↑(BitVec.toNat (rd x l x_3).a) : Int)), D.val (Value.int IntKind.u32 (↑(BitVec.toNat (rd x l x_3).b) : Int)),
    D.val (Value.int IntKind.u32 (↑(BitVec.toNat (rd x l x_3).c) : Int))] =
    [D.val (Value.int IntKind.u32 (↑(BitVec.toNat x_4) : Int)), D.val (Value.int IntKind.u32 (↑(BitVec.toNat y) : Int)), D.val (Value.int IntKind.u32 (↑(BitVec.toNat z) : Int))]) ∧
    True ∧
    True ∧
    True ∧
    True ∧
    True ∧
    True ∧
    True ∧
    True ∧
    True ∧
    True ∧
    True ∧
    True ∧
    True ∧
    True ∧
    True ∧
    True ∧
    True ∧
    True ∧
    True ∧
    True ∧
    True ∧
    True ∧
    True ∧
    True ∧
    ((sm
    (AV.d
    (D.ints IntKind.u32
    [(↑(BitVec.toNat x.a) : Int), (↑(BitVec.toNat x.b) : Int), (↑(BitVec.toNat x.c) : Int), (↑(BitVec.toNat x.d) : Int),
    (↑(BitVec.toNat x.e) : Int), (↑(BitVec.toNat x.f) : Int), (↑(BitVec.toNat x.g) : Int), (↑(BitVec.toNat x.h) : Int)])) ∧
    sm (AV.d (D.str l)) ∧
    sm (AV.d (D.val (Value.slice none (0 : Nat) (0 : Nat)))) ∧
    sm (AV.row (24 : Nat)) ∧
    sm (AV.d (D.val (Value.int IntKind.i64 (↑((4 : Nat) * x_1) : Int)))) ∧
    AV.d
    (D.val
    (Value.int IntKind.u32
    (IntKind.u32.wrap
    (IntKind.u32.wrap
    (IntKind.u32.wrap
    (IntKind.u32.wrap
    (IntKind.u32.wrap
    ((↑(BitVec.toNat (rd x l x_3).h) : Int) +
    ixor IntKind.u32
    (ixor IntKind.u32
    (↑(BitVec.toNat
    (rr (toW (D.val (Value.int IntKind.u32 (↑(BitVec.toNat (rd x l x_3).e) : Int)))) (6 : Nat))) :
    Int)
    (↑(BitVec.toNat
    (rr (toW (D.val (Value.int IntKind.u32 (↑(BitVec.toNat (rd x l x_3).e) : Int)))) (11 : Nat))) :
    Int))
    (↑(BitVec.toNat
    (rr (toW (D.val (Value.int IntKind.u32 (↑(BitVec.toNat (rd x l x_3).e) : Int)))) (25 : Nat))) :
    Int)) +
    (↑(BitVec.toNat
    (chW (toW (D.val (Value.int IntKind.u32 (↑(BitVec.toNat (rd x l x_3).e) : Int))))
    (toW (D.val (Value.int IntKind.u32 (↑(BitVec.toNat (rd x l x_3).f) : Int))))
    (toW (D.val (Value.int IntKind.u32 (↑(BitVec.toNat (rd x l x_3).g) : Int)))))) :
    Int)) +
    gl1.getD (↑x_3 : Int).toNat (0 : Int)) +
    (wl l x_2).getD (↑x_3 : Int).toNat (0 : Int)) +
    IntKind.u32.wrap
    (ixor IntKind.u32
    (ixor IntKind.u32
    (↑(BitVec.toNat (rr (toW (D.val (Value.int IntKind.u32 (↑(BitVec.toNat (rd x l x_3).a) : Int)))) (2 : Nat))) : Int)
    (↑(BitVec.toNat (rr (toW (D.val (Value.int IntKind.u32 (↑(BitVec.toNat (rd x l x_3).a) : Int)))) (13 : Nat))) :
    Int))
    (↑(BitVec.toNat (rr (toW (D.val (Value.int IntKind.u32 (↑(BitVec.toNat (rd x l x_3).a) : Int)))) (22 : Nat))) : Int) +
    (↑(BitVec.toNat
    (mjW (toW (D.val (Value.int IntKind.u32 (↑(BitVec.toNat (rd x l x_3).a) : Int))))
    (toW (D.val (Value.int IntKind.u32 (↑(BitVec.toNat (rd x l x_3).b) : Int))))
    (toW (D.val (Value.int IntKind.u32 (↑(BitVec.toNat (rd x l x_3).c) : Int)))))) :
    Int)))))) =
    AV.d (D.val (Value.int IntKind.u32 (↑(BitVec.toNat (rd x l (IntKind.i64.wrap ((↑x_3 : Int) + (1 : Int))).toNat).a) : Int))) ∧
    AV.d (D.val (Value.int IntKind.u32 (↑(BitVec.toNat (rd x l x_3).a) : Int))) =
    AV.d (D.val (Value.int IntKind.u32 (↑(BitVec.toNat (rd x l (IntKind.i64.wrap ((↑x_3 : Int) + (1 : Int))).toNat).b) : Int))) ∧
    AV.d (D.val (Value.int IntKind.u32 (↑(BitVec.toNat (rd x l x_3).b) : Int))) =
    AV.d (D.val (Value.int IntKind.u32 (↑(BitVec.toNat (rd x l (IntKind.i64.wrap ((↑x_3 : Int) + (1 : Int))).toNat).c) : Int))) ∧
    AV.d (D.val (Value.int IntKind.u32 (↑(BitVec.toNat (rd x l x_3).c) : Int))) =
    AV.d (D.val (Value.int IntKind.u32 (↑(BitVec.toNat (rd x l (IntKind.i64.wrap ((↑x_3 : Int) + (1 : Int))).toNat).d) : Int))) ∧
    AV.d
    (D.val
    (Value.int IntKind.u32
    (IntKind.u32.wrap
    ((↑(BitVec.toNat (rd x l x_3).d) : Int) +
    IntKind.u32.wrap
    (IntKind.u32.wrap
    (IntKind.u32.wrap
    (IntKind.u32.wrap
    ((↑(BitVec.toNat (rd x l x_3).h) : Int) +
    ixor IntKind.u32
    (ixor IntKind.u32
    (↑(BitVec.toNat
    (rr (toW (D.val (Value.int IntKind.u32 (↑(BitVec.toNat (rd x l x_3).e) : Int))))
    (6 : Nat))) :
    Int)
    (↑(BitVec.toNat
    (rr (toW (D.val (Value.int IntKind.u32 (↑(BitVec.toNat (rd x l x_3).e) : Int))))
    (11 : Nat))) :
    Int))
    (↑(BitVec.toNat
    (rr (toW (D.val (Value.int IntKind.u32 (↑(BitVec.toNat (rd x l x_3).e) : Int))))
    (25 : Nat))) :
    Int)) +
    (↑(BitVec.toNat
    (chW (toW (D.val (Value.int IntKind.u32 (↑(BitVec.toNat (rd x l x_3).e) : Int))))
    (toW (D.val (Value.int IntKind.u32 (↑(BitVec.toNat (rd x l x_3).f) : Int))))
    (toW (D.val (Value.int IntKind.u32 (↑(BitVec.toNat (rd x l x_3).g) : Int)))))) :
    Int)) +
    gl1.getD (↑x_3 : Int).toNat (0 : Int)) +
    (wl l x_2).getD (↑x_3 : Int).toNat (0 : Int)))))) =
    AV.d (D.val (Value.int IntKind.u32 (↑(BitVec.toNat (rd x l (IntKind.i64.wrap ((↑x_3 : Int) + (1 : Int))).toNat).e) : Int))) ∧
    AV.d (D.val (Value.int IntKind.u32 (↑(BitVec.toNat (rd x l x_3).e) : Int))) =
    AV.d
    (D.val (Value.int IntKind.u32 (↑(BitVec.toNat (rd x l (IntKind.i64.wrap ((↑x_3 : Int) + (1 : Int))).toNat).f) : Int))) ∧
    AV.d (D.val (Value.int IntKind.u32 (↑(BitVec.toNat (rd x l x_3).f) : Int))) =
    AV.d
    (D.val (Value.int IntKind.u32 (↑(BitVec.toNat (rd x l (IntKind.i64.wrap ((↑x_3 : Int) + (1 : Int))).toNat).g) : Int))) ∧
    AV.d (D.val (Value.int IntKind.u32 (↑(BitVec.toNat (rd x l x_3).g) : Int))) =
    AV.d
    (D.val
    (Value.int IntKind.u32 (↑(BitVec.toNat (rd x l (IntKind.i64.wrap ((↑x_3 : Int) + (1 : Int))).toNat).h) : Int))) ∧
    sm (AV.d (D.val (Value.int IntKind.i64 (↑((4 : Nat) * x_1) : Int)))) ∧
    sm (AV.d (D.val (Value.bool (decide ((↑((4 : Nat) * x_1) : Int) < (64 : Int)))))) ∧
    sm (AV.row (24 : Nat)) ∧
    sm (AV.d (D.val (Value.int IntKind.i64 (↑(wl l x_2).length : Int)))) ∧
    sm (AV.d (D.val (Value.bool (decide ((↑(wl l x_2).length : Int) < (64 : Int)))))) ∧
    sm
    (AV.d
    (D.ints IntKind.u32
    [(↑(BitVec.toNat x.a) : Int), (↑(BitVec.toNat x.b) : Int), (↑(BitVec.toNat x.c) : Int),
    (↑(BitVec.toNat x.d) : Int), (↑(BitVec.toNat x.e) : Int), (↑(BitVec.toNat x.f) : Int),
    (↑(BitVec.toNat x.g) : Int), (↑(BitVec.toNat x.h) : Int)])) ∧
    sm (AV.dat (D.val (Value.int IntKind.u32 (↑(BitVec.toNat x.a) : Int)))) ∧
    sm (AV.d (D.val (Value.int IntKind.u32 (↑(BitVec.toNat x.a) : Int)))) ∧
    sm
    (AV.d
    (D.ints IntKind.u32
    [(↑(BitVec.toNat x.a) : Int), (↑(BitVec.toNat x.b) : Int), (↑(BitVec.toNat x.c) : Int),
    (↑(BitVec.toNat x.d) : Int), (↑(BitVec.toNat x.e) : Int), (↑(BitVec.toNat x.f) : Int),
    (↑(BitVec.toNat x.g) : Int), (↑(BitVec.toNat x.h) : Int)])) ∧
    sm (AV.dat (D.val (Value.int IntKind.u32 (↑(BitVec.toNat x.b) : Int)))) ∧
    sm (AV.d (D.val (Value.int IntKind.u32 (↑(BitVec.toNat x.b) : Int)))) ∧
    sm
    (AV.d
    (D.ints IntKind.u32
    [(↑(BitVec.toNat x.a) : Int), (↑(BitVec.toNat x.b) : Int), (↑(BitVec.toNat x.c) : Int),
    (↑(BitVec.toNat x.d) : Int), (↑(BitVec.toNat x.e) : Int), (↑(BitVec.toNat x.f) : Int),
    (↑(BitVec.toNat x.g) : Int), (↑(BitVec.toNat x.h) : Int)])) ∧
    sm (AV.dat (D.val (Value.int IntKind.u32 (↑(BitVec.toNat x.c) : Int)))) ∧
    sm (AV.d (D.val (Value.int IntKind.u32 (↑(BitVec.toNat x.c) : Int)))) ∧
    sm
    (AV.d
    (D.ints IntKind.u32
    [(↑(BitVec.toNat x.a) : Int), (↑(BitVec.toNat x.b) : Int),
    (↑(BitVec.toNat x.c) : Int), (↑(BitVec.toNat x.d) : Int),
    (↑(BitVec.toNat x.e) : Int), (↑(BitVec.toNat x.f) : Int),
    (↑(BitVec.toNat x.g) : Int), (↑(BitVec.toNat x.h) : Int)])) ∧
    sm (AV.dat (D.val (Value.int IntKind.u32 (↑(BitVec.toNat x.d) : Int)))) ∧
    sm (AV.d (D.val (Value.int IntKind.u32 (↑(BitVec.toNat x.d) : Int)))) ∧
    sm
    (AV.d
    (D.ints IntKind.u32
    [(↑(BitVec.toNat x.a) : Int), (↑(BitVec.toNat x.b) : Int),
    (↑(BitVec.toNat x.c) : Int), (↑(BitVec.toNat x.d) : Int),
    (↑(BitVec.toNat x.e) : Int), (↑(BitVec.toNat x.f) : Int),
    (↑(BitVec.toNat x.g) : Int), (↑(BitVec.toNat x.h) : Int)])) ∧
    sm (AV.dat (D.val (Value.int IntKind.u32 (↑(BitVec.toNat x.e) : Int)))) ∧
    sm (AV.d (D.val (Value.int IntKind.u32 (↑(BitVec.toNat x.e) : Int)))) ∧
    sm
    (AV.d
    (D.ints IntKind.u32
    [(↑(BitVec.toNat x.a) : Int), (↑(BitVec.toNat x.b) : Int),
    (↑(BitVec.toNat x.c) : Int), (↑(BitVec.toNat x.d) : Int),
    (↑(BitVec.toNat x.e) : Int), (↑(BitVec.toNat x.f) : Int),
    (↑(BitVec.toNat x.g) : Int), (↑(BitVec.toNat x.h) : Int)])) ∧
    sm (AV.dat (D.val (Value.int IntKind.u32 (↑(BitVec.toNat x.f) : Int)))) ∧
    sm (AV.d (D.val (Value.int IntKind.u32 (↑(BitVec.toNat x.f) : Int)))) ∧
    sm
    (AV.d
    (D.ints IntKind.u32
    [(↑(BitVec.toNat x.a) : Int), (↑(BitVec.toNat x.b) : Int),
    (↑(BitVec.toNat x.c) : Int), (↑(BitVec.toNat x.d) : Int),
    (↑(BitVec.toNat x.e) : Int), (↑(BitVec.toNat x.f) : Int),
    (↑(BitVec.toNat x.g) : Int), (↑(BitVec.toNat x.h) : Int)])) ∧
    sm (AV.dat (D.val (Value.int IntKind.u32 (↑(BitVec.toNat x.g) : Int)))) ∧
    sm (AV.d (D.val (Value.int IntKind.u32 (↑(BitVec.toNat x.g) : Int)))) ∧
    sm
    (AV.d
    (D.ints IntKind.u32
    [(↑(BitVec.toNat x.a) : Int), (↑(BitVec.toNat x.b) : Int),
    (↑(BitVec.toNat x.c) : Int), (↑(BitVec.toNat x.d) : Int),
    (↑(BitVec.toNat x.e) : Int), (↑(BitVec.toNat x.f) : Int),
    (↑(BitVec.toNat x.g) : Int),
    (↑(BitVec.toNat x.h) : Int)])) ∧
    sm
    (AV.dat
    (D.val (Value.int IntKind.u32 (↑(BitVec.toNat x.h) : Int)))) ∧
    sm
    (AV.d
    (D.val
    (Value.int IntKind.u32 (↑(BitVec.toNat x.h) : Int)))) ∧
    sm (AV.row (24 : Nat)) ∧
    sm
    (AV.d
    (D.val
    (Value.int IntKind.i64 (↑(wl l x_2).length : Int)))) ∧
    AV.d
    (D.val
    (Value.int IntKind.i64
    (IntKind.i64.wrap ((↑x_3 : Int) + (1 : Int))))) =
    AV.d
    (D.val
    (Value.int IntKind.i64
    (↑(IntKind.i64.wrap
    ((↑x_3 : Int) + (1 : Int))).toNat :
    Int))) ∧
    True) ∧
    (sm (some (Blk.row (113 : TypeId) (D.ints IntKind.u32 (wl l x_2)))) ∧ True) ∧ true = true) ∧
    (IntKind.i64.wrap ((↑x_3 : Int) + (1 : Int))).toNat ≤ (64 : Nat) ∧ (64 : Nat) - (IntKind.i64.wrap ((↑x_3 : Int) + (1 : Int))).toNat < (64 : Nat) - x_3
   | false =>
    True ∧
    ((0 : Int) ≤ (0 : Int) ∧ (0 : Int) < (↑(8 : Nat) : Int) ∧ (1 : Nat) = (1 : Nat)) ∧
    ((1 : Nat) ≠ (0 : Nat) ∧ (1 : Nat) = (1 : Nat) ∧ false = false) ∧
    True ∧
    True ∧
    True ∧
    ((0 : Int) ≤ (1 : Int) ∧ (1 : Int) < (↑(8 : Nat) : Int) ∧ (1 : Nat) = (1 : Nat)) ∧
    ((1 : Nat) ≠ (0 : Nat) ∧ (1 : Nat) = (1 : Nat) ∧ false = false) ∧
    True ∧
    True ∧
    True ∧
    ((0 : Int) ≤ (2 : Int) ∧ (2 : Int) < (↑(8 : Nat) : Int) ∧ (1 : Nat) = (1 : Nat)) ∧
    ((1 : Nat) ≠ (0 : Nat) ∧ (1 : Nat) = (1 : Nat) ∧ false = false) ∧
    True ∧
    True ∧
    True ∧
    ((0 : Int) ≤ (3 : Int) ∧ (3 : Int) < (↑(8 : Nat) : Int) ∧ (1 : Nat) = (1 : Nat)) ∧
    ((1 : Nat) ≠ (0 : Nat) ∧ (1 : Nat) = (1 : Nat) ∧ false = false) ∧
    True ∧
    True ∧
    True ∧
    ((0 : Int) ≤ (4 : Int) ∧ (4 : Int) < (↑(8 : Nat) : Int) ∧ (1 : Nat) = (1 : Nat)) ∧
    ((1 : Nat) ≠ (0 : Nat) ∧ (1 : Nat) = (1 : Nat) ∧ false = false) ∧
    True ∧
    True ∧
    True ∧
    ((0 : Int) ≤ (5 : Int) ∧ (5 : Int) < (↑(8 : Nat) : Int) ∧ (1 : Nat) = (1 : Nat)) ∧
    ((1 : Nat) ≠ (0 : Nat) ∧ (1 : Nat) = (1 : Nat) ∧ false = false) ∧
    True ∧
    True ∧
    True ∧
    ((0 : Int) ≤ (6 : Int) ∧ (6 : Int) < (↑(8 : Nat) : Int) ∧ (1 : Nat) = (1 : Nat)) ∧
    ((1 : Nat) ≠ (0 : Nat) ∧ (1 : Nat) = (1 : Nat) ∧ false = false) ∧
    True ∧
    True ∧
    True ∧
    ((0 : Int) ≤ (7 : Int) ∧ (7 : Int) < (↑(8 : Nat) : Int) ∧ (1 : Nat) = (1 : Nat)) ∧
    ((1 : Nat) ≠ (0 : Nat) ∧ (1 : Nat) = (1 : Nat) ∧ false = false) ∧
    True ∧
    True ∧
    ((1 : Nat) = (1 : Nat) ∧ (8 : Nat) ≤ (4096 : Nat)) ∧
    True ∧
    (false = false ∧ True) ∧
    D.ints IntKind.u32
    [IntKind.u32.wrap ((↑(BitVec.toNat x.a) : Int) + (↑(BitVec.toNat (rd x l x_3).a) : Int)), IntKind.u32.wrap ((↑(BitVec.toNat x.b) : Int) + (↑(BitVec.toNat (rd x l x_3).b) : Int)),
    IntKind.u32.wrap ((↑(BitVec.toNat x.c) : Int) + (↑(BitVec.toNat (rd x l x_3).c) : Int)), IntKind.u32.wrap ((↑(BitVec.toNat x.d) : Int) + (↑(BitVec.toNat (rd x l x_3).d) : Int)),
    IntKind.u32.wrap ((↑(BitVec.toNat x.e) : Int) + (↑(BitVec.toNat (rd x l x_3).e) : Int)), IntKind.u32.wrap ((↑(BitVec.toNat x.f) : Int) + (↑(BitVec.toNat (rd x l x_3).f) : Int)),
    IntKind.u32.wrap ((↑(BitVec.toNat x.g) : Int) + (↑(BitVec.toNat (rd x l x_3).g) : Int)), IntKind.u32.wrap ((↑(BitVec.toNat x.h) : Int) + (↑(BitVec.toNat (rd x l x_3).h) : Int))] =
    F) := by kernel_rfl
end Go.Proofs.YtkicjckhkefnpaaDoor
namespace Go.Proofs.YtkicjckhkefnpaaDoor
open Go Go.Vg
theorem mulW (x : W) : IntKind.u32.wrap ((x.toNat : Int) * 256) = ((x * 256).toNat : Int) := by
 rw [w32, BitVec.toNat_mul]
 have : (256 : W).toNat = 256 := rfl
 rw [this]
 omega
theorem bytW {l : List Int} (h : isBytes l) {i : Nat} (hi : i < l.length) : IntKind.u32.wrap (l.getD i 0) = ((BitVec.ofNat 32 (l.getD i 0).toNat).toNat : Int) := by
 obtain ⟨b, e, hb⟩ := byte_at h hi
 rw [e, Int.toNat_natCast, wN32, BitVec.toNat_ofNat]
theorem pw_wat {l : List Int} (h : isBytes l) {i : Nat} (hi : i + 3 < l.length) : pw l i 4 = wat l i := by
 obtain ⟨a, ea, ha⟩ := byte_at h (i := i) (by omega)
 obtain ⟨b, eb, hb⟩ := byte_at h (i := i + 1) (by omega)
 obtain ⟨c, ec, hc⟩ := byte_at h (i := i + 2) (by omega)
 obtain ⟨d, ed, hd⟩ := byte_at h (i := i + 3) (by omega)
 unfold wat
 simp only [pw, Nat.add_zero]
 rw [ea, eb, ec, ed]
 unfold w4
 simp only [Int.toNat_natCast]
 apply BitVec.eq_of_toNat_eq
 have h256 : (256 : W).toNat = 256 := rfl
 simp only [BitVec.toNat_add, BitVec.toNat_mul, BitVec.toNat_ofNat, h256]
 simp only [show (2 : Nat) ^ 32 = 4294967296 from rfl]
 omega
theorem quoW (x : W) (k : Nat) (hk : k ≤ 32) : IntKind.u32.wrap (((x.toNat : Nat) : Int).tdiv ((2 ^ k : Nat) : Int)) = ((x >>> k).toNat : Int) := by
 have hx := x.isLt
 have : x.toNat / 2 ^ k < 4294967296 := Nat.lt_of_le_of_lt (Nat.div_le_self _ _) hx
 rw [tdivN, wrapN .u32 (show _ < 4294967296 from this), BitVec.toNat_ushiftRight, Nat.shiftRight_eq_div_pow]
theorem quo8 (x : W) : IntKind.u32.wrap (((x.toNat : Nat) : Int).tdiv 8) = ((x >>> 3).toNat : Int) := quoW x 3 (by decide)
theorem quo1024 (x : W) : IntKind.u32.wrap (((x.toNat : Nat) : Int).tdiv 1024) = ((x >>> 10).toNat : Int) := quoW x 10 (by decide)
theorem sched (a b c d : W) : ((a + b) + c) + d = ((a + c) + b) + d := by
 rw [BitVec.add_assoc a b c, BitVec.add_comm b c, ← BitVec.add_assoc]
theorem wl_get' (l : List Int) {n j : Nat} (h : j < n) : (wl l n).getD j 0 = ((wn l j).toNat : Int) := by
 have := wl_get l h []
 rwa [List.append_nil] at this
set_option maxRecDepth 100000 in
theorem m128 : Meets Tryd.prog 128 sp128 := by
 refine meets_of_owed (C := c128) ⟨tab_ok, lkS_ok ⟨m133, m134, m135, trivial⟩⟩ (by kernel_rfl) (by kernel_rfl : Tryd.prog.funcs[128]? = some Tryd.f128) (by kernel_rfl) (by kernel_rfl) (by kernel_rfl) _ ?_
 rintro _ ⟨x, l, rfl, hb, hl⟩
 refine ⟨(fun h => by cases h), inv128 x l, ?_⟩
 show owed c128 (inv128 x l) Tryd.f128 [.ints .u32 x.l, .str l] (.ints .u32 (prL x.l l))
 unfold prL
 rw [vc128, ofR_l]
 have hw0 : wl l (0 / 4) = [] := rfl
 have hp0 : ∀ i, pw l i 0 = 0 := fun _ => rfl
 have hz : ((BitVec.toNat (0 : W) : Nat) : Int) = 0 := rfl
 have hr0 : rd x l 0 = x := rfl
 simp (decide := true) only [eq_self, true_and, and_true, ne_eq, not_false_eq_true, Int.toNat_natCast, hw0, hp0, hz, Int.toNat_zero, hr0]
 refine ⟨by and_intros <;> first | rfl | omega | decide | trivial, fun i hi => ?_⟩
 split
 ·rename_i h
  have h : i < 16 := by have := of_decide_eq_true h; omega
  refine ⟨by and_intros <;> first | rfl | omega | decide | trivial, ?_⟩
  rintro ⟨k, at_⟩ ⟨hk, hat⟩
  simp only at hk hat ⊢
  obtain rfl : at_ = 4 * i := by omega
  split
  ·rename_i h2
   have h2 : k < 4 := by have := of_decide_eq_true h2; omega
   have e1 : IntKind.i64.wrap (((4 * i : Nat) : Int) + (k : Int)) = ((4 * i + k : Nat) : Int) := by rw [wi (by omega) (by omega)]; omega
   have e2 : IntKind.i64.wrap ((k : Int) + 1) = ((k + 1 : Nat) : Int) := by rw [wi (by omega) (by omega)]; omega
   simp only [e1, e2, Int.toNat_natCast, mulW, bytW hb (i := 4 * i + k) (by omega), addW]
   and_intros <;> first | rfl | omega | trivial
  ·rename_i h2
   obtain rfl : k = 4 := by have := of_decide_eq_false h2; omega
   have e4 : IntKind.i64.wrap (((4 * i : Nat) : Int) + 4) = ((4 * i + 4 : Nat) : Int) := by rw [wi (by omega) (by omega)]; omega
   rw [e4, Int.toNat_natCast, show (4 * i + 4) / 4 = i + 1 by omega, pw_wat hb (by omega), ← wn_lo l h, ← wl_succ, wl_len]
   and_intros <;> first | rfl | omega | trivial
 ·rename_i h
  obtain rfl : i = 16 := by have := of_decide_eq_false h; omega
  simp only [wl_len]
  refine ⟨by and_intros <;> first | rfl | omega | decide | trivial, ?_⟩
  rintro n ⟨hn, hn2⟩
  split
  ·rename_i h
   have h : n < 64 := by have := of_decide_eq_true h; omega
   have e15 : IntKind.i64.wrap ((n : Int) - 15) = ((n - 15 : Nat) : Int) := by rw [wi (by omega) (by omega)]; omega
   have e16 : IntKind.i64.wrap ((n : Int) - 16) = ((n - 16 : Nat) : Int) := by rw [wi (by omega) (by omega)]; omega
   have e7 : IntKind.i64.wrap ((n : Int) - 7) = ((n - 7 : Nat) : Int) := by rw [wi (by omega) (by omega)]; omega
   have e2 : IntKind.i64.wrap ((n : Int) - 2) = ((n - 2 : Nat) : Int) := by rw [wi (by omega) (by omega)]; omega
   have g15 := wl_get' l (n := n) (j := n - 15) (by omega)
   have g16 := wl_get' l (n := n) (j := n - 16) (by omega)
   have g7 := wl_get' l (n := n) (j := n - 7) (by omega)
   have g2 := wl_get' l (n := n) (j := n - 2) (by omega)
   have hs : wn l (n - 16) + wn l (n - 7) + sA (wn l (n - 15)) + sB (wn l (n - 2)) = wn l n := by rw [sched, ← wn_hi l hn]
   simp only [e15, e16, e7, e2, Int.toNat_natCast, g15, g16, g7, g2, toW_wd, xorW, quo8, quo1024, addW, fA, fB, hs, ← wl_succ, wl_len]
   and_intros <;> first | exact trivial | rfl | omega | exact ⟨_, 7, rfl, by decide, by decide⟩ | exact ⟨_, 18, rfl, by decide, by decide⟩ | exact ⟨_, 17, rfl, by decide, by decide⟩ | exact ⟨_, 19, rfl, by decide, by decide⟩
  ·rename_i h
   obtain rfl : n = 64 := by have := of_decide_eq_false h; omega
   refine ⟨by and_intros <;> first | rfl | omega | decide | trivial, fun t ht => ?_⟩
   split
   ·rename_i h
    have h : t < 64 := by have := of_decide_eq_true h; omega
    have ew : IntKind.i64.wrap ((t : Int) + 1) = ((t + 1 : Nat) : Int) := by rw [wi (by omega) (by omega)]; omega
    have gt := wl_get' l (n := 64) (j := t) h
    simp only [ew, Int.toNat_natCast, gt, gl_ok.2.2, kW_eq h, toW_wd, xorW, addW, fC, fD, rd_succ]
    and_intros <;> first | exact trivial | rfl | omega | exact ⟨_, 6, rfl, by decide, by decide⟩ | exact ⟨_, 11, rfl, by decide, by decide⟩ | exact ⟨_, 25, rfl, by decide, by decide⟩ | exact ⟨_, 2, rfl, by decide, by decide⟩ | exact ⟨_, 13, rfl, by decide, by decide⟩ | exact ⟨_, 22, rfl, by decide, by decide⟩ | exact ⟨_, _, _, rfl⟩
   ·rename_i h
    obtain rfl : t = 64 := by have := of_decide_eq_false h; omega
    simp only [addW]
    and_intros <;> first | exact trivial | rfl | omega
end Go.Proofs.YtkicjckhkefnpaaDoor
namespace Go.Proofs.YtkicjckhkefnpaaDoor
open Go Go.Vg
structure HS where
 h : R8
 n : Nat
 l : List Int
abbrev stD (s : HS) : D := .st [a8 s.h.l, .val (.int .u64 (s.n : Int)), .arr .u8 64 s.l]
def stp (s : HS) (b : Int) : HS :=
 let l' := s.l.set (s.n % 64) b
 let n' := (s.n + 1) % 18446744073709551616
 if n' % 64 = 0 then ⟨pr s.h l', n', l'⟩ else ⟨s.h, n', l'⟩
def wrS (s : HS) (p : List Int) : HS := p.foldl stp s
def ofS (d : D) : HS := ⟨ofR (arrOf (fldOf d 0)), (numOf (fldOf d 1)).toNat, arrOf (fldOf d 2)⟩
def okS (s : HS) : Prop := s.l.length = 64 ∧ isBytes s.l ∧ s.n < 18446744073709551616
def sp76 : Go.Vg.Spec := ⟨fun ds => ∃ s p, ds = [stD s, .ints .u8 p] ∧ okS s ∧ isBytes p ∧ p.length ≤ 1000000000000000, fun ds => stD (wrS (ofS (ds.headD default)) (intsOf (ds.getD 1 default))), true, [117, 26]⟩
def zc (n : Nat) : Nat := (119 - n % 64) % 64
def tl (b : Nat) : Nat → List Int
 | 0 => []
 | k + 1 => ((b / 256 ^ k % 256 : Nat) : Int) :: tl b k
def padL (n : Nat) : List Int := 128 :: (List.replicate (zc n) 0 ++ tl (8 * n % 18446744073709551616) 8)
def sp118 : Go.Vg.Spec := ⟨fun ds => ∃ n, ds = [.val (.int .u64 ((n : Nat) : Int))] ∧ n < 18446744073709551616, fun ds => .ints .u8 (padL (numOf (ds.headD default)).toNat), false, [73]⟩
def sp127 : Go.Vg.Spec := ⟨fun ds => ∃ n, ds = [.val (.int .u64 ((n : Nat) : Int))] ∧ n < 18446744073709551616, fun ds => .str (padL (numOf (ds.headD default)).toNat), true, [73]⟩
def c76 : Ctx := ⟨tab, lkS [(117, sp117)], [], []⟩
def c118 : Ctx := ⟨tab, fun _ => none, [5], []⟩
def inv76 (s : HS) (p : List Int) : Nat → Option Inv
 | 2 => some ⟨Nat, fun i => [(9, .d (i64 i))], fun i => [(2, .fix (stD (wrS s (p.take i))))], fun s => (slotN s 9).toNat, fun _ i => i ≤ p.length, fun i => p.length - i⟩
 | _ => none
def pz (n i : Nat) : List Int := 128 :: List.replicate i 0
def pt (n i : Nat) : List Int := 128 :: (List.replicate (zc n) 0 ++ (tl (8 * n % 18446744073709551616) 8).take i)
def inv118 (n : Nat) : Nat → Option Inv
 | 2 => some ⟨Nat, fun _ => [(3, .row 5), (5, .any)], fun i => [(5, .row 5 (.ints .u8 (pz n i)))], fun s => (rowD s 5).length - 1, fun _ i => i ≤ zc n, fun i => zc n - i⟩
 | 5 => some ⟨Nat, fun i => [(16, .d (i64 i)), (3, .row 5), (7, .any)], fun i => [(5, .row 5 (.ints .u8 (pt n i)))], fun s => (slotN s 16).toNat, fun _ i => i ≤ 8, fun i => 8 - i⟩
 | _ => none
def inv127 (n : Nat) : Nat → Option Inv
 | 3 => some ⟨Nat, fun i => [(3, .d (.str (pz n i)))], fun _ => [], fun s => (strOf (slotD s 3)).length - 1, fun _ i => i ≤ zc n, fun i => zc n - i⟩
 | 8 => some ⟨Nat, fun i => [(21, .d (i64 i)), (5, .d (.val (.int .u64 ((8 * n % 18446744073709551616 / 256 ^ i : Nat) : Int)))), (6, .d (.str (tl (8 * n % 18446744073709551616) i)))], fun _ => [], fun s => (slotN s 21).toNat, fun _ i => i ≤ 8, fun i => 8 - i⟩
 | _ => none
set_option maxRecDepth 100000 in
theorem vc76  (s : HS) (p : List Int) (F : D)  :
    (owed c76 (inv76 s p) Tryd.f76 [stD s, .ints .u8 p] F) = (
 (True ∧ false = false) ∧
 (True ∧ (73 : Nat) ≠ (0 : Nat)) ∧
 True ∧
 True ∧
 True ∧
 (((AV.d (D.val (Value.int IntKind.i64 (0 : Int))) = AV.d (D.val (Value.int IntKind.i64 (↑(Int.toNat (0 : Int)) : Int))) ∧ True) ∧
 (some (Blk.fix (D.st [D.arr IntKind.u32 (8 : Nat) [(↑(BitVec.toNat s.h.a) : Int), (↑(BitVec.toNat s.h.b) : Int), (↑(BitVec.toNat s.h.c) : Int), (↑(BitVec.toNat s.h.d) : Int), (↑(BitVec.toNat s.h.e) : Int), (↑(BitVec.toNat s.h.f) : Int), (↑(BitVec.toNat s.h.g) : Int), (↑(BitVec.toNat s.h.h) : Int)], D.val (Value.int IntKind.u64 (↑s.n : Int)), D.arr IntKind.u8 (64 : Nat) s.l])) =
 some
 (Blk.fix
 (D.st
 [D.arr IntKind.u32 (8 : Nat)
 [(↑(BitVec.toNat (wrS s (List.take (Int.toNat (0 : Int)) p)).h.a) : Int), (↑(BitVec.toNat (wrS s (List.take (Int.toNat (0 : Int)) p)).h.b) : Int), (↑(BitVec.toNat (wrS s (List.take (Int.toNat (0 : Int)) p)).h.c) : Int), (↑(BitVec.toNat (wrS s (List.take (Int.toNat (0 : Int)) p)).h.d) : Int), (↑(BitVec.toNat (wrS s (List.take (Int.toNat (0 : Int)) p)).h.e) : Int),
 (↑(BitVec.toNat (wrS s (List.take (Int.toNat (0 : Int)) p)).h.f) : Int), (↑(BitVec.toNat (wrS s (List.take (Int.toNat (0 : Int)) p)).h.g) : Int), (↑(BitVec.toNat (wrS s (List.take (Int.toNat (0 : Int)) p)).h.h) : Int)],
 D.val (Value.int IntKind.u64 (↑(wrS s (List.take (Int.toNat (0 : Int)) p)).n : Int)), D.arr IntKind.u8 (64 : Nat) (wrS s (List.take (Int.toNat (0 : Int)) p)).l])) ∧
 sm
 (some
 (Blk.fix
 (D.st
 [D.arr IntKind.u32 (8 : Nat) [(0 : Int), (0 : Int), (0 : Int), (0 : Int), (0 : Int), (0 : Int), (0 : Int), (0 : Int)], D.val (Value.int IntKind.u64 (0 : Int)),
 D.arr IntKind.u8 (64 : Nat)
 (List.replicate (64 : Nat) (0 : Int))]))) ∧
 True) ∧
 true = true) ∧
 Int.toNat (0 : Int) ≤ p.length) ∧
 ∀ (x : Nat),
 x ≤ p.length →
 true = true ∧
 True ∧
 match decide ((↑x : Int) < (↑p.length : Int)) with
 | true =>
  ((0 : Int) ≤ (↑x : Int) ∧ (↑x : Int) < (↑p.length : Int) ∧ (1 : Nat) = (1 : Nat)) ∧
  ((1 : Nat) ≠ (0 : Nat) ∧ (1 : Nat) = (1 : Nat) ∧ false = false) ∧
  True ∧
  (Sk.st [Sk.arr (8 : Nat), Sk.one, Sk.arr (64 : Nat)] = Sk.st [Sk.arr (8 : Nat), Sk.one, Sk.arr (64 : Nat)] ∧ (1 : Nat) < (3 : Nat)) ∧
  ((1 : Nat) ≠ (0 : Nat) ∧ (1 : Nat) = (1 : Nat) ∧ false = false) ∧
  (64 : Int) ≠ (0 : Int) ∧
  True ∧
  (Sk.st [Sk.arr (8 : Nat), Sk.one, Sk.arr (64 : Nat)] = Sk.st [Sk.arr (8 : Nat), Sk.one, Sk.arr (64 : Nat)] ∧ (2 : Nat) < (3 : Nat)) ∧
  ((0 : Int) ≤ (↑(wrS s (List.take x p)).n : Int).tmod (64 : Int) ∧ (↑(wrS s (List.take x p)).n : Int).tmod (64 : Int) < (↑(64 : Nat) : Int) ∧ (64 : Nat) = (64 : Nat) ∧ (1 : Nat) = (1 : Nat)) ∧
  (((2 : Nat) < (3 : Nat) ∧ ((↑(wrS s (List.take x p)).n : Int).tmod (64 : Int)).toNat < (64 : Nat) ∧ ([] : List Nat) = [] ∧ true = true) ∧ (1 : Nat) ≠ (0 : Nat) ∧ (1 : Nat) = (1 : Nat) ∧ false = false) ∧
  (Sk.st [Sk.arr (8 : Nat), Sk.one, Sk.arr (64 : Nat)] = Sk.st [Sk.arr (8 : Nat), Sk.one, Sk.arr (64 : Nat)] ∧ (1 : Nat) < (3 : Nat)) ∧
  ((1 : Nat) ≠ (0 : Nat) ∧ (1 : Nat) = (1 : Nat) ∧ false = false) ∧
  True ∧
  (Sk.st [Sk.arr (8 : Nat), Sk.one, Sk.arr (64 : Nat)] = Sk.st [Sk.arr (8 : Nat), Sk.one, Sk.arr (64 : Nat)] ∧ (1 : Nat) < (3 : Nat)) ∧
  (((1 : Nat) < (3 : Nat) ∧ Sk.one = Sk.one) ∧ (1 : Nat) ≠ (0 : Nat) ∧ (1 : Nat) = (1 : Nat) ∧ false = false) ∧
  (Sk.st [Sk.arr (8 : Nat), Sk.one, Sk.arr (64 : Nat)] = Sk.st [Sk.arr (8 : Nat), Sk.one, Sk.arr (64 : Nat)] ∧ (1 : Nat) < (3 : Nat)) ∧
  ((1 : Nat) ≠ (0 : Nat) ∧ (1 : Nat) = (1 : Nat) ∧ false = false) ∧
  (64 : Int) ≠ (0 : Int) ∧
  True ∧
  match (IntKind.u64.wrap ((↑(wrS s (List.take x p)).n : Int) + (1 : Int))).tmod (64 : Int) == (0 : Int) with
  | true =>
   (Sk.st [Sk.arr (8 : Nat), Sk.one, Sk.arr (64 : Nat)] = Sk.st [Sk.arr (8 : Nat), Sk.one, Sk.arr (64 : Nat)] ∧ (0 : Nat) < (3 : Nat)) ∧
   ((8 : Nat) ≠ (0 : Nat) ∧ (8 : Nat) = (8 : Nat) ∧ true = true) ∧
   (Sk.st [Sk.arr (8 : Nat), Sk.one, Sk.arr (64 : Nat)] = Sk.st [Sk.arr (8 : Nat), Sk.one, Sk.arr (64 : Nat)] ∧ (2 : Nat) < (3 : Nat)) ∧
   ((64 : Nat) ≠ (0 : Nat) ∧ (64 : Nat) = (64 : Nat) ∧ true = true) ∧
   (∃ (x_1 : R8),
   ∃ (l : List Int),
   [D.arr IntKind.u32 (8 : Nat)
   [(↑(BitVec.toNat (wrS s (List.take x p)).h.a) : Int), (↑(BitVec.toNat (wrS s (List.take x p)).h.b) : Int), (↑(BitVec.toNat (wrS s (List.take x p)).h.c) : Int), (↑(BitVec.toNat (wrS s (List.take x p)).h.d) : Int), (↑(BitVec.toNat (wrS s (List.take x p)).h.e) : Int),
   (↑(BitVec.toNat (wrS s (List.take x p)).h.f) : Int), (↑(BitVec.toNat (wrS s (List.take x p)).h.g) : Int), (↑(BitVec.toNat (wrS s (List.take x p)).h.h) : Int)],
   D.arr IntKind.u8 (64 : Nat) ((wrS s (List.take x p)).l.set ((↑(wrS s (List.take x p)).n : Int).tmod (64 : Int)).toNat (p.getD (↑x : Int).toNat (0 : Int)))] =
   [D.arr IntKind.u32 (8 : Nat) [(↑(BitVec.toNat x_1.a) : Int), (↑(BitVec.toNat x_1.b) : Int), (↑(BitVec.toNat x_1.c) : Int), (↑(BitVec.toNat x_1.d) : Int), (↑(BitVec.toNat x_1.e) : Int), (↑(BitVec.toNat x_1.f) : Int), (↑(BitVec.toNat x_1.g) : Int), (↑(BitVec.toNat x_1.h) : Int)], D.arr IntKind.u8 (64 : Nat) l] ∧
   isBytes l ∧ l.length = (64 : Nat)) ∧
   (Sk.st [Sk.arr (8 : Nat), Sk.one, Sk.arr (64 : Nat)] = Sk.st [Sk.arr (8 : Nat), Sk.one, Sk.arr (64 : Nat)] ∧ (0 : Nat) < (3 : Nat)) ∧
   (((0 : Nat) < (3 : Nat) ∧ Sk.arr (8 : Nat) = Sk.arr (8 : Nat)) ∧ (8 : Nat) ≠ (0 : Nat) ∧ (8 : Nat) = (8 : Nat) ∧ false = false) ∧
   True ∧
   True ∧
   ((AV.d (D.val (Value.int IntKind.i64 (IntKind.i64.wrap ((↑x : Int) + (1 : Int))))) = AV.d (D.val (Value.int IntKind.i64 (↑(IntKind.i64.wrap ((↑x : Int) + (1 : Int))).toNat : Int))) ∧ True) ∧
   (some
   (Blk.fix
   (D.st
   [D.arr IntKind.u32 (8 : Nat)
   (prL
   [(↑(BitVec.toNat (wrS s (List.take x p)).h.a) : Int), (↑(BitVec.toNat (wrS s (List.take x p)).h.b) : Int), (↑(BitVec.toNat (wrS s (List.take x p)).h.c) : Int), (↑(BitVec.toNat (wrS s (List.take x p)).h.d) : Int), (↑(BitVec.toNat (wrS s (List.take x p)).h.e) : Int),
   (↑(BitVec.toNat (wrS s (List.take x p)).h.f) : Int), (↑(BitVec.toNat (wrS s (List.take x p)).h.g) : Int), (↑(BitVec.toNat (wrS s (List.take x p)).h.h) : Int)]
   ((wrS s (List.take x p)).l.set ((↑(wrS s (List.take x p)).n : Int).tmod (64 : Int)).toNat (p.getD (↑x : Int).toNat (0 : Int)))),
   D.val (Value.int IntKind.u64 (IntKind.u64.wrap ((↑(wrS s (List.take x p)).n : Int) + (1 : Int)))), D.arr IntKind.u8 (64 : Nat) ((wrS s (List.take x p)).l.set ((↑(wrS s (List.take x p)).n : Int).tmod (64 : Int)).toNat (p.getD (↑x : Int).toNat (0 : Int)))])) =
   some
   (Blk.fix
   (D.st
   [D.arr IntKind.u32 (8 : Nat)
   [(↑(BitVec.toNat (wrS s (List.take (IntKind.i64.wrap ((↑x : Int) + (1 : Int))).toNat p)).h.a) : Int), (↑(BitVec.toNat (wrS s (List.take (IntKind.i64.wrap ((↑x : Int) + (1 : Int))).toNat p)).h.b) : Int),
   (↑(BitVec.toNat (wrS s (List.take (IntKind.i64.wrap ((↑x : Int) + (1 : Int))).toNat p)).h.c) : Int), (↑(BitVec.toNat (wrS s (List.take (IntKind.i64.wrap ((↑x : Int) + (1 : Int))).toNat p)).h.d) : Int),
   (↑(BitVec.toNat (wrS s (List.take (IntKind.i64.wrap ((↑x : Int) + (1 : Int))).toNat p)).h.e) : Int), (↑(BitVec.toNat (wrS s (List.take (IntKind.i64.wrap ((↑x : Int) + (1 : Int))).toNat p)).h.f) : Int),
   (↑(BitVec.toNat (wrS s (List.take (IntKind.i64.wrap ((↑x : Int) + (1 : Int))).toNat p)).h.g) : Int), (↑(BitVec.toNat (wrS s (List.take (IntKind.i64.wrap ((↑x : Int) + (1 : Int))).toNat p)).h.h) : Int)],
   D.val (Value.int IntKind.u64 (↑(wrS s (List.take (IntKind.i64.wrap ((↑x : Int) + (1 : Int))).toNat p)).n : Int)), D.arr IntKind.u8 (64 : Nat) (wrS s (List.take (IntKind.i64.wrap ((↑x : Int) + (1 : Int))).toNat p)).l])) ∧
   sm
   (some
   (Blk.fix
   (D.st
   [D.arr IntKind.u32 (8 : Nat) [(0 : Int), (0 : Int), (0 : Int), (0 : Int), (0 : Int), (0 : Int), (0 : Int), (0 : Int)], D.val (Value.int IntKind.u64 (0 : Int)),
   D.arr IntKind.u8 (64 : Nat)
   (List.replicate (64 : Nat) (0 : Int))]))) ∧
   True) ∧
   true = true) ∧
   (IntKind.i64.wrap ((↑x : Int) + (1 : Int))).toNat ≤ p.length ∧ p.length - (IntKind.i64.wrap ((↑x : Int) + (1 : Int))).toNat < p.length - x
  | false =>
   True ∧
   True ∧
   ((AV.d (D.val (Value.int IntKind.i64 (IntKind.i64.wrap ((↑x : Int) + (1 : Int))))) = AV.d (D.val (Value.int IntKind.i64 (↑(IntKind.i64.wrap ((↑x : Int) + (1 : Int))).toNat : Int))) ∧ True) ∧
   (some
   (Blk.fix
   (D.st
   [D.arr IntKind.u32 (8 : Nat)
   [(↑(BitVec.toNat (wrS s (List.take x p)).h.a) : Int), (↑(BitVec.toNat (wrS s (List.take x p)).h.b) : Int), (↑(BitVec.toNat (wrS s (List.take x p)).h.c) : Int), (↑(BitVec.toNat (wrS s (List.take x p)).h.d) : Int), (↑(BitVec.toNat (wrS s (List.take x p)).h.e) : Int),
   (↑(BitVec.toNat (wrS s (List.take x p)).h.f) : Int), (↑(BitVec.toNat (wrS s (List.take x p)).h.g) : Int), (↑(BitVec.toNat (wrS s (List.take x p)).h.h) : Int)],
   D.val (Value.int IntKind.u64 (IntKind.u64.wrap ((↑(wrS s (List.take x p)).n : Int) + (1 : Int)))), D.arr IntKind.u8 (64 : Nat) ((wrS s (List.take x p)).l.set ((↑(wrS s (List.take x p)).n : Int).tmod (64 : Int)).toNat (p.getD (↑x : Int).toNat (0 : Int)))])) =
   some
   (Blk.fix
   (D.st
   [D.arr IntKind.u32 (8 : Nat)
   [(↑(BitVec.toNat (wrS s (List.take (IntKind.i64.wrap ((↑x : Int) + (1 : Int))).toNat p)).h.a) : Int), (↑(BitVec.toNat (wrS s (List.take (IntKind.i64.wrap ((↑x : Int) + (1 : Int))).toNat p)).h.b) : Int), (↑(BitVec.toNat (wrS s (List.take (IntKind.i64.wrap ((↑x : Int) + (1 : Int))).toNat p)).h.c) : Int),
   (↑(BitVec.toNat (wrS s (List.take (IntKind.i64.wrap ((↑x : Int) + (1 : Int))).toNat p)).h.d) : Int), (↑(BitVec.toNat (wrS s (List.take (IntKind.i64.wrap ((↑x : Int) + (1 : Int))).toNat p)).h.e) : Int), (↑(BitVec.toNat (wrS s (List.take (IntKind.i64.wrap ((↑x : Int) + (1 : Int))).toNat p)).h.f) : Int),
   (↑(BitVec.toNat (wrS s (List.take (IntKind.i64.wrap ((↑x : Int) + (1 : Int))).toNat p)).h.g) : Int), (↑(BitVec.toNat (wrS s (List.take (IntKind.i64.wrap ((↑x : Int) + (1 : Int))).toNat p)).h.h) : Int)],
   D.val (Value.int IntKind.u64 (↑(wrS s (List.take (IntKind.i64.wrap ((↑x : Int) + (1 : Int))).toNat p)).n : Int)), D.arr IntKind.u8 (64 : Nat) (wrS s (List.take (IntKind.i64.wrap ((↑x : Int) + (1 : Int))).toNat p)).l])) ∧
   sm
   (some
   (Blk.fix
   (D.st
   [D.arr IntKind.u32 (8 : Nat) [(0 : Int), (0 : Int), (0 : Int), (0 : Int), (0 : Int), (0 : Int), (0 : Int), (0 : Int)], D.val (Value.int IntKind.u64 (0 : Int)),
   D.arr IntKind.u8 (64 : Nat)
   (List.replicate (64 : Nat) (0 : Int))]))) ∧
   True) ∧
   true = true) ∧
   (IntKind.i64.wrap ((↑x : Int) + (1 : Int))).toNat ≤ p.length ∧ p.length - (IntKind.i64.wrap ((↑x : Int) + (1 : Int))).toNat < p.length - x
 | false =>
  ((73 : Nat) ≠ (0 : Nat) ∧ (73 : Nat) = (73 : Nat) ∧ true = true) ∧
  (Sk.st [Sk.arr (8 : Nat), Sk.one, Sk.arr (64 : Nat)] = Sk.st [Sk.arr (8 : Nat), Sk.one, Sk.arr (64 : Nat)] ∧ (73 : Nat) ≠ (0 : Nat) ∧ (73 : Nat) = (73 : Nat) ∧ false = false) ∧
  (((73 : Nat) ≠ (0 : Nat) ∧ (73 : Nat) = (73 : Nat) ∧ true = true) ∧ True) ∧
  D.st
  [D.arr IntKind.u32 (8 : Nat)
  [(↑(BitVec.toNat (wrS s (List.take x p)).h.a) : Int), (↑(BitVec.toNat (wrS s (List.take x p)).h.b) : Int), (↑(BitVec.toNat (wrS s (List.take x p)).h.c) : Int), (↑(BitVec.toNat (wrS s (List.take x p)).h.d) : Int), (↑(BitVec.toNat (wrS s (List.take x p)).h.e) : Int), (↑(BitVec.toNat (wrS s (List.take x p)).h.f) : Int),
  (↑(BitVec.toNat (wrS s (List.take x p)).h.g) : Int), (↑(BitVec.toNat (wrS s (List.take x p)).h.h) : Int)],
  D.val (Value.int IntKind.u64 (↑(wrS s (List.take x p)).n : Int)), D.arr IntKind.u8 (64 : Nat) (wrS s (List.take x p)).l] =
  F) := by kernel_rfl
set_option maxRecDepth 100000 in
theorem vc118  (n : Nat) (F : D)  :
    (owed c118 (inv118 n) Tryd.f118 [.val (.int .u64 (n : Int))] F) = (
 True ∧
 ((1 : Nat) = (1 : Nat) ∧ (1 : Nat) ≤ (4096 : Nat)) ∧
 True ∧
 (((sm (AV.d (D.val (Value.int IntKind.u64 (↑n : Int)))) ∧ sm (AV.d (D.val (Value.slice none (0 : Nat) (0 : Nat)))) ∧ sm (AV.row (5 : Nat)) ∧ True) ∧ (some (Blk.row (5 : TypeId) (D.ints IntKind.u8 [(128 : Int)])) = some (Blk.row (5 : TypeId) (D.ints IntKind.u8 (pz n ((1 : Nat) - (1 : Nat))))) ∧ True) ∧ true = true) ∧ (1 : Nat) - (1 : Nat) ≤ zc n) ∧
 ∀ (x : Nat),
 x ≤ zc n →
 true = true ∧
 True ∧
 True ∧
 True ∧
 True ∧
 True ∧
 (64 : Int) ≠ (0 : Int) ∧
 True ∧
 match (IntKind.u64.wrap ((↑n : Int) + IntKind.u64.wrap (↑(pz n x).length : Int))).tmod (64 : Int) != (56 : Int) with
 | true =>
  True ∧
  ((1 : Nat) = (1 : Nat) ∧ (1 : Nat) ≤ (4096 : Nat)) ∧
  ((5 : TypeId) = (5 : TypeId) ∧ (26 : Nat) = (26 : Nat) ∧ true = true ∧ (pz n x ++ [(0 : Int)]).length ≤ (140737488355328 : Nat) ∧ (pz n x ++ [(0 : Int)]).length * (1 : Nat) ≤ (140737488355328 : Nat) ∧ (1 : Nat) ≠ (0 : Nat) ∧ (1 : Nat) = (1 : Nat)) ∧
  True ∧
  ((sm (AV.d (D.val (Value.int IntKind.u64 (↑n : Int)))) ∧ sm (AV.d (D.val (Value.slice none (0 : Nat) (0 : Nat)))) ∧ sm (AV.row (5 : Nat)) ∧ True) ∧ (some (Blk.row (5 : TypeId) (D.ints IntKind.u8 (pz n x ++ [(0 : Int)]))) = some (Blk.row (5 : TypeId) (D.ints IntKind.u8 (pz n ((pz n x ++ [(0 : Int)]).length - (1 : Nat))))) ∧ True) ∧ true = true) ∧
  (pz n x ++ [(0 : Int)]).length - (1 : Nat) ≤ zc n ∧ zc n - ((pz n x ++ [(0 : Int)]).length - (1 : Nat)) < zc n - x
 | false =>
  True ∧
  (((sm (AV.d (D.val (Value.int IntKind.u64 (↑n : Int)))) ∧
  sm (AV.d (D.val (Value.slice none (0 : Nat) (0 : Nat)))) ∧
  sm (AV.row (5 : Nat)) ∧
  sm (AV.d (D.val (Value.int IntKind.u64 (↑n : Int)))) ∧
  sm (AV.d (D.val (Value.int IntKind.i64 (↑(pz n x).length : Int)))) ∧
  sm (AV.d (D.val (Value.int IntKind.u64 (IntKind.u64.wrap (↑(pz n x).length : Int))))) ∧
  sm (AV.d (D.val (Value.int IntKind.u64 (IntKind.u64.wrap ((↑n : Int) + IntKind.u64.wrap (↑(pz n x).length : Int)))))) ∧
  sm (AV.d (D.val (Value.int IntKind.u64 ((IntKind.u64.wrap ((↑n : Int) + IntKind.u64.wrap (↑(pz n x).length : Int))).tmod (64 : Int))))) ∧
  sm (AV.d (D.val (Value.bool ((IntKind.u64.wrap ((↑n : Int) + IntKind.u64.wrap (↑(pz n x).length : Int))).tmod (64 : Int) != (56 : Int))))) ∧ AV.d (D.val (Value.int IntKind.i64 (0 : Int))) = AV.d (D.val (Value.int IntKind.i64 (↑(Int.toNat (0 : Int)) : Int))) ∧ True) ∧
  (some (Blk.row (5 : TypeId) (D.ints IntKind.u8 (pz n x))) = some (Blk.row (5 : TypeId) (D.ints IntKind.u8 (pt n (Int.toNat (0 : Int))))) ∧ True) ∧ true = true) ∧
  Int.toNat (0 : Int) ≤ (8 : Nat)) ∧
  ∀ (x_1 : Nat),
  x_1 ≤ (8 : Nat) →
  true = true ∧
  True ∧
  match decide ((↑x_1 : Int) < (8 : Int)) with
  | true =>
   True ∧
   True ∧
   True ∧
   True ∧
   True ∧
   True ∧
   True ∧
   True ∧
   True ∧
   (0 : Int) ≤ IntKind.u64.wrap (IntKind.i64.wrap ((56 : Int) - IntKind.i64.wrap ((8 : Int) * (↑x_1 : Int)))) ∧
   True ∧
   ((1 : Nat) = (1 : Nat) ∧ (1 : Nat) ≤ (4096 : Nat)) ∧
   ((5 : TypeId) = (5 : TypeId) ∧
   (26 : Nat) = (26 : Nat) ∧
   true = true ∧
   (pt n x_1 ++ [IntKind.u8.wrap (ishr IntKind.u64 (IntKind.u64.wrap ((8 : Int) * (↑n : Int))) (IntKind.u64.wrap (IntKind.i64.wrap ((56 : Int) - IntKind.i64.wrap ((8 : Int) * (↑x_1 : Int))))))]).length ≤ (140737488355328 : Nat) ∧
   (pt n x_1 ++ [IntKind.u8.wrap (ishr IntKind.u64 (IntKind.u64.wrap ((8 : Int) * (↑n : Int))) (IntKind.u64.wrap (IntKind.i64.wrap ((56 : Int) - IntKind.i64.wrap ((8 : Int) * (↑x_1 : Int))))))]).length * (1 : Nat) ≤ (140737488355328 : Nat) ∧ (1 : Nat) ≠ (0 : Nat) ∧ (1 : Nat) = (1 : Nat)) ∧
   True ∧
   True ∧
   True ∧
   ((sm (AV.d (D.val (Value.int IntKind.u64 (↑n : Int)))) ∧
   sm (AV.d (D.val (Value.slice none (0 : Nat) (0 : Nat)))) ∧
   sm (AV.row (5 : Nat)) ∧
   sm (AV.d (D.val (Value.int IntKind.u64 (↑n : Int)))) ∧
   sm (AV.d (D.val (Value.int IntKind.i64 (↑(pz n x).length : Int)))) ∧
   sm (AV.d (D.val (Value.int IntKind.u64 (IntKind.u64.wrap (↑(pz n x).length : Int))))) ∧
   sm (AV.d (D.val (Value.int IntKind.u64 (IntKind.u64.wrap ((↑n : Int) + IntKind.u64.wrap (↑(pz n x).length : Int)))))) ∧
   sm (AV.d (D.val (Value.int IntKind.u64 ((IntKind.u64.wrap ((↑n : Int) + IntKind.u64.wrap (↑(pz n x).length : Int))).tmod (64 : Int))))) ∧
   sm (AV.d (D.val (Value.bool ((IntKind.u64.wrap ((↑n : Int) + IntKind.u64.wrap (↑(pz n x).length : Int))).tmod (64 : Int) != (56 : Int))))) ∧
   AV.d (D.val (Value.int IntKind.i64 (IntKind.i64.wrap ((↑x_1 : Int) + (1 : Int))))) = AV.d (D.val (Value.int IntKind.i64 (↑(IntKind.i64.wrap ((↑x_1 : Int) + (1 : Int))).toNat : Int))) ∧ True) ∧
   (some (Blk.row (5 : TypeId) (D.ints IntKind.u8 (pt n x_1 ++ [IntKind.u8.wrap (ishr IntKind.u64 (IntKind.u64.wrap ((8 : Int) * (↑n : Int))) (IntKind.u64.wrap (IntKind.i64.wrap ((56 : Int) - IntKind.i64.wrap ((8 : Int) * (↑x_1 : Int))))))]))) =
   some (Blk.row (5 : TypeId) (D.ints IntKind.u8 (pt n (IntKind.i64.wrap ((↑x_1 : Int) + (1 : Int))).toNat))) ∧
   True) ∧
   true = true) ∧
   (IntKind.i64.wrap ((↑x_1 : Int) + (1 : Int))).toNat ≤ (8 : Nat) ∧ (8 : Nat) - (IntKind.i64.wrap ((↑x_1 : Int) + (1 : Int))).toNat < (8 : Nat) - x_1
  | false => True ∧ True ∧ (false = false ∧ True) ∧ D.ints IntKind.u8 (pt n x_1) = F) := by kernel_rfl
set_option maxRecDepth 100000 in
theorem vc127  (n : Nat) (F : D)  :
    (owed c0 (inv127 n) Tryd.f127 [.val (.int .u64 (n : Int))] F) = (
 True ∧
 True ∧
 True ∧
 (64 : Int) ≠ (0 : Int) ∧
 True ∧
 (((AV.d (D.str (ints { data := { toList := [(128 : UInt8)] } })) = AV.d (D.str (pz n ((ints { data := { toList := [(128 : UInt8)] } }).length - (1 : Nat)))) ∧ True) ∧ True ∧ true = true) ∧ (ints { data := { toList := [(128 : UInt8)] } }).length - (1 : Nat) ≤ zc n) ∧
 ∀ (x : Nat),
 x ≤ zc n →
 true = true ∧
 True ∧
 True ∧
 True ∧
 True ∧
 True ∧
 True ∧
 (64 : Int) ≠ (0 : Int) ∧
 True ∧
 match (IntKind.u64.wrap (IntKind.u64.wrap ((↑n : Int).tmod (64 : Int) + IntKind.u64.wrap (↑(pz n x).length : Int)) + (8 : Int))).tmod (64 : Int) != (0 : Int) with
 | true =>
  True ∧
  (↑((pz n x).length + (ints { data := { toList := [(0 : UInt8)] } }).length) : Int) ≤ (9223372036854775807 : Int) ∧
  True ∧
  ((AV.d (D.str (pz n x ++ ints { data := { toList := [(0 : UInt8)] } })) = AV.d (D.str (pz n ((pz n x ++ ints { data := { toList := [(0 : UInt8)] } }).length - (1 : Nat)))) ∧ True) ∧ True ∧ true = true) ∧
  (pz n x ++ ints { data := { toList := [(0 : UInt8)] } }).length - (1 : Nat) ≤ zc n ∧ zc n - ((pz n x ++ ints { data := { toList := [(0 : UInt8)] } }).length - (1 : Nat)) < zc n - x
 | false =>
  True ∧
  True ∧
  True ∧
  True ∧
  True ∧
  (((AV.d (D.val (Value.int IntKind.i64 (0 : Int))) = AV.d (D.val (Value.int IntKind.i64 (↑(Int.toNat (0 : Int)) : Int))) ∧
  AV.d (D.val (Value.int IntKind.u64 (IntKind.u64.wrap ((↑n : Int) * (8 : Int))))) = AV.d (D.val (Value.int IntKind.u64 (↑((8 : Nat) * n % (18446744073709551616 : Nat) / (1 : Nat)) : Int))) ∧ AV.d (D.str (ints { data := { toList := [] } })) = AV.d (D.str (tl ((8 : Nat) * n % (18446744073709551616 : Nat)) (Int.toNat (0 : Int)))) ∧ True) ∧
  True ∧ true = true) ∧
  Int.toNat (0 : Int) ≤ (8 : Nat)) ∧
  ∀ (x_1 : Nat),
  x_1 ≤ (8 : Nat) →
  true = true ∧
  True ∧
  match decide ((↑x_1 : Int) < (8 : Int)) with
  | true =>
   True ∧
   (256 : Int) ≠ (0 : Int) ∧
   True ∧
   ((1 : Nat) = (1 : Nat) ∧ (1 : Nat) ≤ (4096 : Nat)) ∧
   isBytes [IntKind.u8.wrap ((↑((8 : Nat) * n % (18446744073709551616 : Nat) / (256 : Nat) ^ x_1) : Int).tmod (256 : Int))] ∧
   True ∧
   (↑((1 : Nat) + (tl ((8 : Nat) * n % (18446744073709551616 : Nat)) x_1).length) : Int) ≤ (9223372036854775807 : Int) ∧
   True ∧
   True ∧
   (256 : Int) ≠ (0 : Int) ∧
   True ∧
   True ∧
   True ∧
   ((AV.d (D.val (Value.int IntKind.i64 (IntKind.i64.wrap ((↑x_1 : Int) + (1 : Int))))) = AV.d (D.val (Value.int IntKind.i64 (↑(IntKind.i64.wrap ((↑x_1 : Int) + (1 : Int))).toNat : Int))) ∧
   AV.d (D.val (Value.int IntKind.u64 (IntKind.u64.wrap ((↑((8 : Nat) * n % (18446744073709551616 : Nat) / (256 : Nat) ^ x_1) : Int).tdiv (256 : Int))))) =
   AV.d (D.val (Value.int IntKind.u64 (↑((8 : Nat) * n % (18446744073709551616 : Nat) / (256 : Nat) ^ (IntKind.i64.wrap ((↑x_1 : Int) + (1 : Int))).toNat) : Int))) ∧
   AV.d (D.str (IntKind.u8.wrap ((↑((8 : Nat) * n % (18446744073709551616 : Nat) / (256 : Nat) ^ x_1) : Int).tmod (256 : Int)) :: tl ((8 : Nat) * n % (18446744073709551616 : Nat)) x_1)) = AV.d (D.str (tl ((8 : Nat) * n % (18446744073709551616 : Nat)) (IntKind.i64.wrap ((↑x_1 : Int) + (1 : Int))).toNat)) ∧
   True) ∧
   True ∧ true = true) ∧
   (IntKind.i64.wrap ((↑x_1 : Int) + (1 : Int))).toNat ≤ (8 : Nat) ∧ (8 : Nat) - (IntKind.i64.wrap ((↑x_1 : Int) + (1 : Int))).toNat < (8 : Nat) - x_1
  | false => True ∧ True ∧ (↑((pz n x).length + (tl ((8 : Nat) * n % (18446744073709551616 : Nat)) x_1).length) : Int) ≤ (9223372036854775807 : Int) ∧ True ∧ (false = false ∧ True) ∧ D.str (pz n x ++ tl ((8 : Nat) * n % (18446744073709551616 : Nat)) x_1) = F) := by kernel_rfl
end Go.Proofs.YtkicjckhkefnpaaDoor
namespace Go.Proofs.YtkicjckhkefnpaaDoor
open Go Go.Vg
theorem prL_mk (x : R8) (l : List Int) : prL [(x.a.toNat : Int), (x.b.toNat : Int), (x.c.toNat : Int), (x.d.toNat : Int), (x.e.toNat : Int), (x.f.toNat : Int), (x.g.toNat : Int), (x.h.toNat : Int)] l =
  [((pr x l).a.toNat : Int), ((pr x l).b.toNat : Int), ((pr x l).c.toNat : Int), ((pr x l).d.toNat : Int), ((pr x l).e.toNat : Int), ((pr x l).f.toNat : Int), ((pr x l).g.toNat : Int), ((pr x l).h.toNat : Int)] := by
 show prL x.l l = (pr x l).l
 unfold prL
 rw [ofR_l]
theorem bytes_set {l : List Int} (h : isBytes l) {b : Int} (hb : 0 ≤ b ∧ b < 256) (i : Nat) : isBytes (l.set i b) := by
 intro x hx
 rcases List.mem_or_eq_of_mem_set hx with h1 | rfl
 ·exact h x h1
 ·exact hb
theorem stp_ok {s : HS} (h : okS s) {b : Int} (hb : 0 ≤ b ∧ b < 256) : okS (stp s b) := by
 unfold stp
 obtain ⟨h1, h2, h3⟩ := h
 have : (s.n + 1) % 18446744073709551616 < 18446744073709551616 := Nat.mod_lt _ (by decide)
 simp only
 split
 ·exact ⟨by simp [h1], bytes_set h2 hb _, this⟩
 ·exact ⟨by simp [h1], bytes_set h2 hb _, this⟩
theorem wr_ok : ∀ (p : List Int) {s : HS}, okS s → isBytes p → okS (wrS s p)
 | [], _, h, _ => h
 | b :: p, s, h, hp => by
  show okS (wrS (stp s b) p)
  exact wr_ok p (stp_ok h (hp b (by simp))) fun x hx => hp x (by simp [hx])
theorem wr_app (s : HS) (p q : List Int) : wrS s (p ++ q) = wrS (wrS s p) q := List.foldl_append
theorem take_snoc {p : List Int} {i : Nat} (h : i < p.length) : p.take (i + 1) = p.take i ++ [p.getD i 0] := by
 rw [List.take_add_one, List.getElem?_eq_getElem h, List.getD_eq_getElem?_getD, List.getElem?_eq_getElem h]
 rfl
theorem wr_snoc (s : HS) {p : List Int} {i : Nat} (h : i < p.length) : wrS s (p.take (i + 1)) = stp (wrS s (p.take i)) (p.getD i 0) := by
 rw [take_snoc h, wr_app]
 rfl
theorem bytes_take {l : List Int} (h : isBytes l) (n : Nat) : isBytes (l.take n) := fun x hx => h x (List.mem_of_mem_take hx)
theorem ofS_eq (s : HS) : ofS (stD s) = s := by
 show HS.mk (ofR s.h.l) ((s.n : Int)).toNat s.l = s
 rw [ofR_l, Int.toNat_natCast]
set_option maxRecDepth 100000 in
theorem m76 : Meets Tryd.prog 76 sp76 := by
 refine meets_of_owed (C := c76) ⟨tab_ok, lkS_ok ⟨m117, trivial⟩⟩ (by kernel_rfl) (by kernel_rfl : Tryd.prog.funcs[76]? = some Tryd.f76) (by kernel_rfl) (by kernel_rfl) (by kernel_rfl) _ ?_
 rintro _ ⟨s, p, rfl, hs, hp, hl⟩
 refine ⟨fun _ => rfl, inv76 s p, ?_⟩
 show owed c76 (inv76 s p) Tryd.f76 [stD s, .ints .u8 p] (stD (wrS (ofS (stD s)) p))
 rw [vc76, ofS_eq]
 have h0 : wrS s (List.take (Int.toNat 0) p) = s := rfl
 rw [h0]
 simp (decide := true) only [eq_self, true_and, and_true, ne_eq, not_false_eq_true]
 refine ⟨⟨rfl, Nat.zero_le _⟩, fun x hx => ?_⟩
 have hy := wr_ok (p.take x) hs (bytes_take hp x)
 split
 ·rename_i h
  have h : x < p.length := by have := of_decide_eq_true h; omega
  have es := wr_snoc s h
  have ew : IntKind.i64.wrap ((x : Int) + 1) = ((x + 1 : Nat) : Int) := by rw [wi (by omega) (by omega)]; omega
  obtain ⟨b, eb, hb⟩ := byte_at hp h
  rw [ew]
  simp only [Int.toNat_natCast, es, eb]
  generalize wrS s (p.take x) = y at *
  obtain ⟨y1, y2, y3⟩ := hy
  have em : ((y.n : Nat) : Int).tmod 64 = ((y.n % 64 : Nat) : Int) := tmodN _ 64
  have en : IntKind.u64.wrap ((y.n : Int) + 1) = (((y.n + 1) % 18446744073709551616 : Nat) : Int) := by rw [w64]; omega
  have em2 : (((y.n + 1) % 18446744073709551616 : Nat) : Int).tmod 64 = (((y.n + 1) % 18446744073709551616 % 64 : Nat) : Int) := tmodN _ 64
  rw [em, en, em2, Int.toNat_natCast]
  have hlt : y.n % 64 < 64 := Nat.mod_lt _ (by decide)
  unfold stp
  simp only
  split
  ·rename_i h2
   have h2 : (y.n + 1) % 18446744073709551616 % 64 = 0 := by have := eq_of_beq h2; omega
   rw [if_pos h2]
   refine ⟨by omega, by omega, by omega, ⟨_, _, rfl, bytes_set y2 (by omega) _, by simp [y1]⟩, ?_⟩
   rw [prL_mk]
   and_intros <;> first | trivial | rfl | omega
  ·rename_i h2
   have h2 : ¬ (y.n + 1) % 18446744073709551616 % 64 = 0 := fun h3 => by rw [h3] at h2; cases h2
   rw [if_neg h2]
   and_intros <;> first | trivial | rfl | omega
 ·rename_i h
  have h := of_decide_eq_false h
  rw [List.take_of_length_le (by omega)]
  rfl
theorem pz_len (n i : Nat) : (pz n i).length = i + 1 := by simp [pz]
theorem pz_succ (n i : Nat) : pz n i ++ [0] = pz n (i + 1) := by
 unfold pz
 rw [List.replicate_succ', List.cons_append]
theorem pz_end (n : Nat) : pz n (zc n) = pt n 0 := by unfold pz pt; simp
theorem zc_lt (n : Nat) : zc n < 64 := Nat.mod_lt _ (by decide)
theorem tl_len (b : Nat) : ∀ k, (tl b k).length = k
 | 0 => rfl
 | k + 1 => by rw [tl, List.length_cons, tl_len b k]
theorem tl_get (b : Nat) : ∀ k i, i < k → (tl b k).getD i 0 = ((b / 256 ^ (k - 1 - i) % 256 : Nat) : Int)
 | 0, _, h => by omega
 | k + 1, 0, _ => rfl
 | k + 1, i + 1, h => by
  rw [tl, List.getD_cons_succ, tl_get b k i (by omega), show k + 1 - 1 - (i + 1) = k - 1 - i by omega]
theorem pt_succ (n : Nat) {i : Nat} (h : i < 8) : pt n (i + 1) = pt n i ++ [((8 * n % 18446744073709551616 / 256 ^ (7 - i) % 256 : Nat) : Int)] := by
 unfold pt
 rw [take_snoc (by rw [tl_len]; exact h), tl_get _ 8 i h, show 8 - 1 - i = 7 - i by omega]
 simp
theorem pt_end (n : Nat) : pt n 8 = padL n := by
 unfold pt padL
 rw [List.take_of_length_le (by rw [tl_len]; exact Nat.le_refl _)]
theorem pt_len (n : Nat) {i : Nat} (h : i ≤ 8) : (pt n i).length ≤ 100 := by
 unfold pt
 have := zc_lt n
 simp
 omega
set_option maxRecDepth 100000 in
theorem m118 : Meets Tryd.prog 118 sp118 := by
 refine meets_of_owed (C := c118) ⟨tab_ok, fun f s h => by cases h⟩ (by kernel_rfl) (by kernel_rfl : Tryd.prog.funcs[118]? = some Tryd.f118) (by kernel_rfl) (by kernel_rfl) (by kernel_rfl) _ ?_
 rintro _ ⟨n, rfl, hn⟩
 refine ⟨(fun h => by cases h), inv118 n, ?_⟩
 show owed c118 (inv118 n) Tryd.f118 [.val (.int .u64 (n : Int))] (.ints .u8 (padL ((n : Int)).toNat))
 rw [vc118, Int.toNat_natCast]
 simp (decide := true) only [eq_self, true_and, and_true, ne_eq, not_false_eq_true, Nat.sub_self, pz_len]
 refine ⟨⟨rfl, Nat.zero_le _⟩, fun x hx => ?_⟩
 have hz := zc_lt n
 have e1 : IntKind.u64.wrap ((n : Int) + IntKind.u64.wrap ((x + 1 : Nat) : Int)) = (((n + x + 1) % 18446744073709551616 : Nat) : Int) := by
  rw [w64, w64]; omega
 have e2 : (((n + x + 1) % 18446744073709551616 : Nat) : Int).tmod 64 = (((n + x + 1) % 18446744073709551616 % 64 : Nat) : Int) := tmodN _ 64
 rw [e1, e2]
 have ez : zc n = (119 - n % 64) % 64 := rfl
 split
 ·rename_i h
  have h : (n + x + 1) % 18446744073709551616 % 64 ≠ 56 := by
   intro h3
   rw [h3] at h
   cases h
  rw [pz_succ, pz_len, Nat.add_sub_cancel]
  and_intros <;> first | rfl | omega
 ·rename_i h
  have h : (n + x + 1) % 18446744073709551616 % 64 = 56 := by
   have h3 := bne_eq_false_iff_eq.1 h
   omega
  obtain rfl : x = zc n := by omega
  rw [pz_end]
  refine ⟨⟨rfl, rfl⟩, fun i hi => ?_⟩
  split
  ·rename_i h4
   have h4 : i < 8 := by have := of_decide_eq_true h4; omega
   have ew : IntKind.i64.wrap ((i : Int) + 1) = ((i + 1 : Nat) : Int) := by rw [wi (by omega) (by omega)]; omega
   have e8 : IntKind.i64.wrap (8 * (i : Int)) = ((8 * i : Nat) : Int) := by rw [wi (by omega) (by omega)]; omega
   have e56 : IntKind.u64.wrap (IntKind.i64.wrap (56 - ((8 * i : Nat) : Int))) = ((8 * (7 - i) : Nat) : Int) := by
    rw [wi (by omega) (by omega), w64]; omega
   have en : IntKind.u64.wrap (8 * (n : Int)) = ((8 * n % 18446744073709551616 : Nat) : Int) := by rw [w64]; omega
   rw [ew, e8, e56, en, ishrN .u64 (show _ ≤ 64 by omega), wN8, Nat.pow_mul, show (2 : Nat) ^ 8 = 256 from rfl, ← pt_succ n h4, Int.toNat_natCast]
   have := pt_len n (i := i + 1) (by omega)
   and_intros <;> first | rfl | omega
  ·rename_i h4
   obtain rfl : i = 8 := by have := of_decide_eq_false h4; omega
   rw [pt_end]
set_option maxRecDepth 100000 in
theorem m127 : Meets Tryd.prog 127 sp127 := by
 refine meets_of_owed (C := c0) ⟨tab_ok, fun f s h => by cases h⟩ (by kernel_rfl) (by kernel_rfl : Tryd.prog.funcs[127]? = some Tryd.f127) (by kernel_rfl) (by kernel_rfl) (by kernel_rfl) _ ?_
 rintro _ ⟨n, rfl, hn⟩
 refine ⟨fun _ => rfl, inv127 n, ?_⟩
 show owed c0 (inv127 n) Tryd.f127 [.val (.int .u64 (n : Int))] (.str (padL ((n : Int)).toNat))
 rw [vc127, Int.toNat_natCast]
 have i0 : ints { data := { toList := [(0 : UInt8)] } } = [0] := rfl
 have i128 : ints { data := { toList := [(128 : UInt8)] } } = [128] := rfl
 have ie : ints { data := { toList := [] } } = [] := rfl
 rw [i0, i128, ie]
 simp (decide := true) only [eq_self, true_and, and_true, ne_eq, not_false_eq_true, Nat.sub_self, pz_len, List.length_cons, List.length_nil]
 refine ⟨⟨rfl, Nat.zero_le _⟩, fun x hx => ?_⟩
 have hz := zc_lt n
 have ez : zc n = (119 - n % 64) % 64 := rfl
 have e0 : ((n : Nat) : Int).tmod 64 = ((n % 64 : Nat) : Int) := tmodN _ 64
 have e1 : IntKind.u64.wrap (IntKind.u64.wrap (((n % 64 : Nat) : Int) + IntKind.u64.wrap ((x + 1 : Nat) : Int)) + 8) = ((n % 64 + x + 9 : Nat) : Int) := by
  rw [w64, w64, w64]; omega
 have e2 : ((n % 64 + x + 9 : Nat) : Int).tmod 64 = (((n % 64 + x + 9) % 64 : Nat) : Int) := tmodN _ 64
 rw [e0, e1, e2]
 split
 ·rename_i h
  have h : (n % 64 + x + 9) % 64 ≠ 0 := by
   intro h3
   rw [h3] at h
   cases h
  rw [pz_succ, pz_len, Nat.add_sub_cancel]
  and_intros <;> first | rfl | omega
 ·rename_i h
  have h : (n % 64 + x + 9) % 64 = 0 := by
   have h3 := bne_eq_false_iff_eq.1 h
   omega
  obtain rfl : x = zc n := by omega
  have en : IntKind.u64.wrap ((n : Int) * 8) = ((8 * n % 18446744073709551616 : Nat) : Int) := by rw [w64]; omega
  rw [en]
  refine ⟨⟨rfl, by rw [Nat.div_one], rfl⟩, fun i hi => ?_⟩
  have hb2 : 8 * n % 18446744073709551616 < 18446744073709551616 := Nat.mod_lt _ (by decide)
  generalize hb : 8 * n % 18446744073709551616 = b at *
  split
  ·rename_i h4
   have h4 : i < 8 := by have := of_decide_eq_true h4; omega
   have ew : IntKind.i64.wrap ((i : Int) + 1) = ((i + 1 : Nat) : Int) := by rw [wi (by omega) (by omega)]; omega
   have q1 : ((b / 256 ^ i : Nat) : Int).tmod 256 = ((b / 256 ^ i % 256 : Nat) : Int) := tmodN _ 256
   have q2 : ((b / 256 ^ i : Nat) : Int).tdiv 256 = ((b / 256 ^ i / 256 : Nat) : Int) := tdivN _ 256
   have q3 : b / 256 ^ (i + 1) = b / 256 ^ i / 256 := by rw [Nat.pow_succ, Nat.div_div_eq_div_mul]
   have q4 : b / 256 ^ i ≤ b := Nat.div_le_self _ _
   have ht : tl b (i + 1) = ((b / 256 ^ i % 256 : Nat) : Int) :: tl b i := rfl
   have q5 : IntKind.u8.wrap ((b / 256 ^ i % 256 : Nat) : Int) = ((b / 256 ^ i % 256 : Nat) : Int) := by rw [w8]; omega
   have q6 : IntKind.u64.wrap ((b / 256 ^ i / 256 : Nat) : Int) = ((b / 256 ^ i / 256 : Nat) : Int) := wrapN .u64 (show _ < 18446744073709551616 from Nat.lt_of_le_of_lt (Nat.le_trans (Nat.div_le_self _ _) q4) hb2)
   rw [ew, q1, q2, q5, q6, Int.toNat_natCast, q3, ht, tl_len]
   refine ⟨?_, by omega, ⟨rfl, rfl, rfl⟩, by omega, by omega⟩
   intro y hy
   rw [List.mem_singleton] at hy
   omega
  ·rename_i h4
   obtain rfl : i = 8 := by have := of_decide_eq_false h4; omega
   rw [tl_len]
   refine ⟨by omega, ?_⟩
   unfold padL pz
   rw [hb]
   rfl
end Go.Proofs.YtkicjckhkefnpaaDoor
namespace Go.Proofs.YtkicjckhkefnpaaDoor
open Go Go.Vg
def fhK (h : R8) (m : List Int) : Nat → R8
 | 0 => h
 | k + 1 => pr (fhK h m k) ((m.drop (64 * k)).take 64)
def bt (l : List Int) (j k : Nat) : Int := ((l.getD j 0).toNat / 256 ^ k % 256 : Nat)
def outL (x : R8) : List Int := (List.range 32).map fun i => bt x.l (i / 4) (3 - i % 4)
def sumL (s : HS) : List Int := outL (wrS s (padL s.n)).h
def iv : R8 := ⟨0x6a09e667, 0xbb67ae85, 0x3c6ef372, 0xa54ff53a, 0x510e527f, 0x9b05688c, 0x1f83d9ab, 0x5be0cd19⟩
def st0 : HS := ⟨iv, 0, List.replicate 64 0⟩
def fromL (x : R8) (n : Nat) (p : List Int) : List Int :=
 outL (fhK x (p ++ padL ((n + p.length) % 18446744073709551616)) ((p ++ padL ((n + p.length) % 18446744073709551616)).length / 64))
def digL (p : List Int) : List Int := fromL iv 0 p
theorem set_take (L : List Int) (r : Nat) (b : Int) (h : r < L.length) : (L.set r b).take (r + 1) = L.take r ++ [b] := by
 rw [take_snoc (p := L.set r b) (by rw [List.length_set]; exact h), List.take_set, List.set_eq_of_length_le (by rw [List.length_take]; omega)]
 rw [List.getD_eq_getElem?_getD, List.getElem?_set_self h]
 rfl
theorem wr_fh (h : R8) (n : Nat) (l : List Int) (hl : l.length = 64) (hn : n % 64 = 0) (hn2 : n < 18446744073709551616) (m : List Int) :
  ∀ k, k ≤ m.length → ∃ L : List Int, L.length = 64 ∧ wrS ⟨h, n, l⟩ (m.take k) = ⟨fhK h m (k / 64), (n + k) % 18446744073709551616, L⟩ ∧ L.take (k % 64) = (m.take k).drop (64 * (k / 64))
 | 0, _ => ⟨l, hl, by
   show HS.mk h n l = ⟨h, (n + 0) % 18446744073709551616, l⟩
   rw [show (n + 0) % 18446744073709551616 = n by omega], rfl⟩
 | k + 1, hk => by
  obtain ⟨L, h1, h2, h3⟩ := wr_fh h n l hl hn hn2 m k (by omega)
  have hlt : k % 64 < L.length := by omega
  have e1 : (n + k) % 18446744073709551616 % 64 = k % 64 := by omega
  have e2 : ((n + k) % 18446744073709551616 + 1) % 18446744073709551616 = (n + (k + 1)) % 18446744073709551616 := by omega
  have e3 : (L.set (k % 64) (m.getD k 0)).take (k % 64 + 1) = (m.take (k + 1)).drop (64 * (k / 64)) := by
   rw [set_take _ _ _ hlt, h3, take_snoc (show k < m.length by omega), List.drop_append_of_le_length (by rw [List.length_take]; omega)]
  rw [wr_snoc _ (show k < m.length by omega), h2]
  refine ⟨L.set (k % 64) (m.getD k 0), by rw [List.length_set]; exact h1, ?_⟩
  unfold stp
  simp only [e1, e2]
  by_cases hc : (n + (k + 1)) % 18446744073709551616 % 64 = 0
  ·have hc2 : (k + 1) % 64 = 0 := by omega
   have q : (k + 1) / 64 = k / 64 + 1 := by omega
   have r : k % 64 + 1 = 64 := by omega
   rw [if_pos hc, q, hc2]
   rw [r, List.take_of_length_le (by rw [List.length_set]; omega), List.drop_take, show k + 1 - 64 * (k / 64) = 64 by omega] at e3
   refine ⟨?_, ?_⟩
   ·rw [e3]
    rfl
   ·rw [List.drop_eq_nil_of_le (by rw [List.length_take]; omega)]
    rfl
  ·have q : (k + 1) / 64 = k / 64 := by omega
   have r : (k + 1) % 64 = k % 64 + 1 := by omega
   rw [if_neg hc, q, r]
   exact ⟨rfl, e3⟩
theorem padL_len (n : Nat) : (padL n).length = 9 + zc n := by
 unfold padL
 rw [List.length_cons, List.length_append, List.length_replicate, tl_len]
 omega
theorem wr_full (h : R8) (n : Nat) (l : List Int) (hl : l.length = 64) (hn : n % 64 = 0) (hn2 : n < 18446744073709551616) (m : List Int) :
  (wrS ⟨h, n, l⟩ m).h = fhK h m (m.length / 64) ∧ (wrS ⟨h, n, l⟩ m).n = (n + m.length) % 18446744073709551616 := by
 obtain ⟨L, _, h2, _⟩ := wr_fh h n l hl hn hn2 m m.length (Nat.le_refl _)
 rw [List.take_length] at h2
 rw [h2]
 exact ⟨rfl, rfl⟩
theorem sum_from (h : R8) (n : Nat) (l : List Int) (hl : l.length = 64) (hn : n % 64 = 0) (hn2 : n < 18446744073709551616) (p : List Int) :
  sumL (wrS ⟨h, n, l⟩ p) = fromL h n p := by
 unfold sumL fromL
 rw [(wr_full h n l hl hn hn2 p).2, ← wr_app, (wr_full h n l hl hn hn2 _).1]
theorem sum_st0 (p : List Int) : sumL (wrS st0 p) = digL p := sum_from iv 0 _ (by simp) rfl (by decide) p
theorem mul64 (n : Nat) (p : List Int) (hn : n % 64 = 0) : (p ++ padL ((n + p.length) % 18446744073709551616)).length % 64 = 0 := by
 rw [List.length_append, padL_len]
 unfold zc
 omega
theorem outL_len (x : R8) : (outL x).length = 32 := by unfold outL; simp
theorem outL_bytes (x : R8) : isBytes (outL x) := by
 intro y hy
 unfold outL at hy
 obtain ⟨i, _, rfl⟩ := List.mem_map.1 hy
 unfold bt
 omega
theorem outL_get (x : R8) {i : Nat} (h : i < 32) : (outL x).getD i 0 = bt x.l (i / 4) (3 - i % 4) := by
 unfold outL
 rw [List.getD_eq_getElem?_getD, List.getElem?_map, List.getElem?_range h]
 rfl
theorem fill (L : List Int) {k n : Nat} (hn : L.length = n) (h : k < n) : (L.take k ++ List.replicate (n - k) 0).set k (L.getD k 0) = L.take (k + 1) ++ List.replicate (n - (k + 1)) 0 := by
 have e : n - k = (n - (k + 1)) + 1 := by omega
 have el : (L.take k).length = k := by rw [List.length_take]; omega
 rw [e, List.replicate_succ, List.set_append_right _ _ (by omega), el, Nat.sub_self, List.set_cons_zero, take_snoc (by omega), List.append_assoc]
 rfl
theorem st0_ok : okS st0 := ⟨rfl, by intro x hx; rw [show st0.l = List.replicate 64 0 from rfl] at hx; have := List.eq_of_mem_replicate hx; omega, by decide⟩
theorem xl_get (x : R8) {j : Nat} (h : j < 8) : ∃ w : W, x.l.getD j 0 = ((w.toNat : Nat) : Int) := by
 rcases (by omega : j = 0 ∨ j = 1 ∨ j = 2 ∨ j = 3 ∨ j = 4 ∨ j = 5 ∨ j = 6 ∨ j = 7) with rfl | rfl | rfl | rfl | rfl | rfl | rfl | rfl <;> exact ⟨_, rfl⟩
end Go.Proofs.YtkicjckhkefnpaaDoor
namespace Go.Proofs.YtkicjckhkefnpaaDoor
open Go Go.Vg
abbrev d32 (l : List Int) : D := .arr .u8 32 l
def isD (l : List Int) : Prop := isBytes l ∧ l.length = 32
def big : Nat := 1000000000000000
def sp75 : Go.Vg.Spec := ⟨fun ds => ds.length = 0, fun _ => stD st0, true, []⟩
def sp77 : Go.Vg.Spec := ⟨fun ds => ∃ s, ds = [stD s] ∧ okS s, fun ds => d32 (sumL (ofS (ds.headD default))), true, [117]⟩
def sp116 : Go.Vg.Spec := ⟨fun ds => ds.length = 0, fun _ => .ints .u32 iv.l, false, []⟩
def sp115 : Go.Vg.Spec := ⟨fun ds => ∃ (x : R8) (n : Nat) (p : List Int), ds = [.ints .u32 x.l, u64 (n : Int), .str p] ∧ isBytes p ∧ p.length ≤ 1000000000000000 ∧ n % 64 = 0 ∧ n < 18446744073709551616,
 fun ds => d32 (fromL (ofR (intsOf (ds.headD default))) (numOf (ds.getD 1 default)).toNat (strOf (ds.getD 2 default))), true, [170, 73, 9]⟩
def sp70 : Go.Vg.Spec := ⟨fun ds => ∃ p, ds = [.ints .u8 p] ∧ isBytes p ∧ p.length ≤ 1000000000000000, fun ds => d32 (digL (intsOf (ds.headD default))), true, [26]⟩
def sp71 : Go.Vg.Spec := ⟨fun ds => ∃ p, ds = [.str p] ∧ isBytes p ∧ p.length ≤ 1000000000000000, fun ds => d32 (digL (strOf (ds.headD default))), true, [9]⟩
def c77 : Ctx := ⟨tab, lkS [(76, sp76), (118, sp118)], [], []⟩
def c115 : Ctx := ⟨tab, lkS [(127, sp127), (128, sp128)], [], []⟩
def c70 : Ctx := ⟨tab, lkS [(75, sp75), (76, sp76), (77, sp77)], [], []⟩
def c71 : Ctx := ⟨tab, lkS [(116, sp116), (115, sp115)], [], []⟩
def inv77 (s : HS) : Nat → Option Inv
 | 4 => some ⟨Nat, fun i => [(13, .d (i64 i))], fun i => [(3, .fix (d32 ((sumL s).take (4 * i) ++ List.replicate (32 - 4 * i) 0)))], fun s => (slotN s 13).toNat, fun _ i => i ≤ 8, fun i => 8 - i⟩
 | _ => none
def fullL (n : Nat) (p : List Int) : List Int := p ++ padL ((n + p.length) % 18446744073709551616)
def inv115 (x : R8) (n : Nat) (p : List Int) : Nat → Option Inv
 | 3 => some ⟨Nat, fun k => [(7, .d (i64 ((64 * k : Nat) : Int))), (0, .d (.ints .u32 (fhK x (fullL n p) k).l))], fun _ => [], fun s => (slotN s 7).toNat / 64, fun _ k => k ≤ (fullL n p).length / 64, fun k => (fullL n p).length / 64 - k⟩
 | 8 => some ⟨Nat, fun i => [(31, .d (i64 i))], fun i => [(8, .fix (d32 ((fromL x n p).take i ++ List.replicate (32 - i) 0)))], fun s => (slotN s 31).toNat, fun _ i => i ≤ 32, fun i => 32 - i⟩
 | _ => none
set_option maxRecDepth 100000 in
theorem vc75  (F : D)  :
    (owed c0 (fun _ => none) Tryd.f75 [] F) = (
 (True ∧ (73 : Nat) ≠ (0 : Nat)) ∧
 ((1 : Nat) = (1 : Nat) ∧
 false = false ∧
 ((0 : Nat) < (8 : Nat) ∧ ([] : List Nat) = [] ∧ true = true) ∧
 false = false ∧
 ((1 : Nat) < (8 : Nat) ∧ ([] : List Nat) = [] ∧ true = true) ∧
 false = false ∧
 ((2 : Nat) < (8 : Nat) ∧ ([] : List Nat) = [] ∧ true = true) ∧
 false = false ∧ ((3 : Nat) < (8 : Nat) ∧ ([] : List Nat) = [] ∧ true = true) ∧ false = false ∧ ((4 : Nat) < (8 : Nat) ∧ ([] : List Nat) = [] ∧ true = true) ∧ false = false ∧ ((5 : Nat) < (8 : Nat) ∧ ([] : List Nat) = [] ∧ true = true) ∧ false = false ∧ ((6 : Nat) < (8 : Nat) ∧ ([] : List Nat) = [] ∧ true = true) ∧ false = false ∧ ((7 : Nat) < (8 : Nat) ∧ ([] : List Nat) = [] ∧ true = true) ∧ True) ∧
 (false = false ∧ ((0 : Nat) < (3 : Nat) ∧ Sk.arr (8 : Nat) = Sk.arr (8 : Nat)) ∧ True) ∧
 (Sk.st [Sk.arr (8 : Nat), Sk.one, Sk.arr (64 : Nat)] = Sk.st [Sk.arr (8 : Nat), Sk.one, Sk.arr (64 : Nat)] ∧ (73 : Nat) ≠ (0 : Nat) ∧ (73 : Nat) = (73 : Nat) ∧ false = false) ∧
 (((73 : Nat) ≠ (0 : Nat) ∧ (73 : Nat) = (73 : Nat) ∧ true = true) ∧ True) ∧
 D.st
 [D.arr IntKind.u32 (8 : Nat) [(1779033703 : Int), (3144134277 : Int), (1013904242 : Int), (2773480762 : Int), (1359893119 : Int), (2600822924 : Int), (528734635 : Int), (1541459225 : Int)], D.val (Value.int IntKind.u64 (0 : Int)),
 D.arr IntKind.u8 (64 : Nat)
 (List.replicate (64 : Nat) (0 : Int))] =
 F) := by kernel_rfl
set_option maxRecDepth 100000 in
theorem vc77  (s : HS) (F : D)  :
    (owed c77 (inv77 s) Tryd.f77 [stD s] F) = (
 (True ∧ false = false) ∧
 (True ∧ (32 : Nat) ≠ (0 : Nat)) ∧
 ((73 : Nat) ≠ (0 : Nat) ∧ (73 : Nat) = (73 : Nat) ∧ true = true) ∧
 (Sk.st [Sk.arr (8 : Nat), Sk.one, Sk.arr (64 : Nat)] = Sk.st [Sk.arr (8 : Nat), Sk.one, Sk.arr (64 : Nat)] ∧ (1 : Nat) < (3 : Nat)) ∧
 ((1 : Nat) ≠ (0 : Nat) ∧ (1 : Nat) = (1 : Nat) ∧ false = false) ∧
 (∃ (n : Nat), [D.val (Value.int IntKind.u64 (↑s.n : Int))] = [D.val (Value.int IntKind.u64 (↑n : Int))] ∧ n < (18446744073709551616 : Nat)) ∧
 (∃ (s_1 : HS),
 ∃ (p : List Int),
 [D.st [D.arr IntKind.u32 (8 : Nat) s.h.l, D.val (Value.int IntKind.u64 (↑s.n : Int)), D.arr IntKind.u8 (64 : Nat) s.l], D.ints IntKind.u8 (padL (↑s.n : Int).toNat)] = [D.st [D.arr IntKind.u32 (8 : Nat) s_1.h.l, D.val (Value.int IntKind.u64 (↑s_1.n : Int)), D.arr IntKind.u8 (64 : Nat) s_1.l], D.ints IntKind.u8 p] ∧ okS s_1 ∧ isBytes p ∧ p.length ≤ (1000000000000000 : Nat)) ∧
 (Sk.st [Sk.arr (8 : Nat), Sk.one, Sk.arr (64 : Nat)] = Sk.st [Sk.arr (8 : Nat), Sk.one, Sk.arr (64 : Nat)] ∧ (73 : Nat) ≠ (0 : Nat) ∧ (73 : Nat) = (73 : Nat) ∧ false = false) ∧
 (True ∧ (32 : Nat) ≠ (0 : Nat)) ∧
 (Sk.st [Sk.arr (8 : Nat), Sk.one, Sk.arr (64 : Nat)] = Sk.st [Sk.arr (8 : Nat), Sk.one, Sk.arr (64 : Nat)] ∧ (0 : Nat) < (3 : Nat)) ∧
 ((8 : Nat) ≠ (0 : Nat) ∧ (8 : Nat) = (8 : Nat) ∧ true = true) ∧
 True ∧
 (((AV.d (D.val (Value.int IntKind.i64 (0 : Int))) = AV.d (D.val (Value.int IntKind.i64 (↑(Int.toNat (0 : Int)) : Int))) ∧ True) ∧
 (sm
 (some
 (Blk.fix
 (D.st
 [D.arr IntKind.u32 (8 : Nat) (wrS (ofS (D.st [D.arr IntKind.u32 (8 : Nat) s.h.l, D.val (Value.int IntKind.u64 (↑s.n : Int)), D.arr IntKind.u8 (64 : Nat) s.l])) (padL (↑s.n : Int).toNat)).h.l,
 D.val (Value.int IntKind.u64 (↑(wrS (ofS (D.st [D.arr IntKind.u32 (8 : Nat) s.h.l, D.val (Value.int IntKind.u64 (↑s.n : Int)), D.arr IntKind.u8 (64 : Nat) s.l])) (padL (↑s.n : Int).toNat)).n : Int)),
 D.arr IntKind.u8 (64 : Nat) (wrS (ofS (D.st [D.arr IntKind.u32 (8 : Nat) s.h.l, D.val (Value.int IntKind.u64 (↑s.n : Int)), D.arr IntKind.u8 (64 : Nat) s.l])) (padL (↑s.n : Int).toNat)).l]))) ∧
 sm
 (some
 (Blk.fix
 (D.arr IntKind.u8 (32 : Nat)
 [(0 : Int), (0 : Int), (0 : Int), (0 : Int), (0 : Int), (0 : Int), (0 : Int), (0 : Int), (0 : Int), (0 : Int), (0 : Int), (0 : Int), (0 : Int), (0 : Int), (0 : Int), (0 : Int), (0 : Int), (0 : Int), (0 : Int), (0 : Int), (0 : Int), (0 : Int), (0 : Int), (0 : Int), (0 : Int), (0 : Int), (0 : Int), (0 : Int), (0 : Int), (0 : Int), (0 : Int),
 (0 : Int)]))) ∧
 some
 (Blk.fix
 (D.arr IntKind.u8 (32 : Nat)
 [(0 : Int), (0 : Int), (0 : Int), (0 : Int), (0 : Int), (0 : Int), (0 : Int), (0 : Int), (0 : Int), (0 : Int), (0 : Int), (0 : Int), (0 : Int), (0 : Int), (0 : Int), (0 : Int), (0 : Int), (0 : Int), (0 : Int), (0 : Int), (0 : Int), (0 : Int), (0 : Int), (0 : Int), (0 : Int), (0 : Int), (0 : Int), (0 : Int), (0 : Int), (0 : Int), (0 : Int),
 (0 : Int)])) =
 some
 (Blk.fix
 (D.arr IntKind.u8 (32 : Nat)
 (List.take (0 : Nat) (sumL s) ++
 [(0 : Int), (0 : Int), (0 : Int), (0 : Int), (0 : Int), (0 : Int), (0 : Int), (0 : Int), (0 : Int), (0 : Int), (0 : Int), (0 : Int), (0 : Int), (0 : Int), (0 : Int), (0 : Int), (0 : Int), (0 : Int), (0 : Int), (0 : Int), (0 : Int), (0 : Int), (0 : Int), (0 : Int), (0 : Int), (0 : Int), (0 : Int), (0 : Int), (0 : Int), (0 : Int), (0 : Int),
 (0 : Int)]))) ∧
 True) ∧
 true = true) ∧
 Int.toNat (0 : Int) ≤ (8 : Nat)) ∧
 ∀ (x : Nat),
 x ≤ (8 : Nat) →
 true = true ∧
 True ∧
 match decide ((↑x : Int) < (8 : Int)) with
 | true =>
  True ∧
  ((0 : Int) ≤ (↑x : Int) ∧ (↑x : Int) < (↑(8 : Nat) : Int) ∧ (8 : Nat) = (8 : Nat) ∧ Ty.int IntKind.u32 = Ty.int IntKind.u32 ∧ (1 : Nat) = (1 : Nat)) ∧
  True ∧
  True ∧
  True ∧
  True ∧
  True ∧
  True ∧
  True ∧
  True ∧
  True ∧
  True ∧
  True ∧
  True ∧
  True ∧
  True ∧
  (0 : Int) ≤ (24 : Int) ∧
  True ∧
  True ∧
  (0 : Int) ≤ (16 : Int) ∧
  True ∧
  True ∧
  (0 : Int) ≤ (8 : Int) ∧
  True ∧
  True ∧
  True ∧
  ((0 : Int) ≤ IntKind.i64.wrap ((4 : Int) * (↑x : Int)) ∧ IntKind.i64.wrap ((4 : Int) * (↑x : Int)) < (↑(32 : Nat) : Int) ∧ (32 : Nat) = (32 : Nat) ∧ (1 : Nat) = (1 : Nat)) ∧
  (((IntKind.i64.wrap ((4 : Int) * (↑x : Int))).toNat < (32 : Nat) ∧ ([] : List Nat) = [] ∧ true = true) ∧ (1 : Nat) ≠ (0 : Nat) ∧ (1 : Nat) = (1 : Nat) ∧ false = false) ∧
  ((0 : Int) ≤ IntKind.i64.wrap (IntKind.i64.wrap ((4 : Int) * (↑x : Int)) + (1 : Int)) ∧ IntKind.i64.wrap (IntKind.i64.wrap ((4 : Int) * (↑x : Int)) + (1 : Int)) < (↑(32 : Nat) : Int) ∧ (32 : Nat) = (32 : Nat) ∧ (1 : Nat) = (1 : Nat)) ∧
  (((IntKind.i64.wrap (IntKind.i64.wrap ((4 : Int) * (↑x : Int)) + (1 : Int))).toNat < (32 : Nat) ∧ ([] : List Nat) = [] ∧ true = true) ∧ (1 : Nat) ≠ (0 : Nat) ∧ (1 : Nat) = (1 : Nat) ∧ false = false) ∧
  ((0 : Int) ≤ IntKind.i64.wrap (IntKind.i64.wrap ((4 : Int) * (↑x : Int)) + (2 : Int)) ∧ IntKind.i64.wrap (IntKind.i64.wrap ((4 : Int) * (↑x : Int)) + (2 : Int)) < (↑(32 : Nat) : Int) ∧ (32 : Nat) = (32 : Nat) ∧ (1 : Nat) = (1 : Nat)) ∧
  (((IntKind.i64.wrap (IntKind.i64.wrap ((4 : Int) * (↑x : Int)) + (2 : Int))).toNat < (32 : Nat) ∧ ([] : List Nat) = [] ∧ true = true) ∧ (1 : Nat) ≠ (0 : Nat) ∧ (1 : Nat) = (1 : Nat) ∧ false = false) ∧
  ((0 : Int) ≤ IntKind.i64.wrap (IntKind.i64.wrap ((4 : Int) * (↑x : Int)) + (3 : Int)) ∧ IntKind.i64.wrap (IntKind.i64.wrap ((4 : Int) * (↑x : Int)) + (3 : Int)) < (↑(32 : Nat) : Int) ∧ (32 : Nat) = (32 : Nat) ∧ (1 : Nat) = (1 : Nat)) ∧
  (((IntKind.i64.wrap (IntKind.i64.wrap ((4 : Int) * (↑x : Int)) + (3 : Int))).toNat < (32 : Nat) ∧ ([] : List Nat) = [] ∧ true = true) ∧ (1 : Nat) ≠ (0 : Nat) ∧ (1 : Nat) = (1 : Nat) ∧ false = false) ∧
  True ∧
  True ∧
  ((AV.d (D.val (Value.int IntKind.i64 (IntKind.i64.wrap ((↑x : Int) + (1 : Int))))) = AV.d (D.val (Value.int IntKind.i64 (↑(IntKind.i64.wrap ((↑x : Int) + (1 : Int))).toNat : Int))) ∧ True) ∧
  (sm
  (some
  (Blk.fix
  (D.st
  [D.arr IntKind.u32 (8 : Nat) (wrS (ofS (D.st [D.arr IntKind.u32 (8 : Nat) s.h.l, D.val (Value.int IntKind.u64 (↑s.n : Int)), D.arr IntKind.u8 (64 : Nat) s.l])) (padL (↑s.n : Int).toNat)).h.l,
  D.val (Value.int IntKind.u64 (↑(wrS (ofS (D.st [D.arr IntKind.u32 (8 : Nat) s.h.l, D.val (Value.int IntKind.u64 (↑s.n : Int)), D.arr IntKind.u8 (64 : Nat) s.l])) (padL (↑s.n : Int).toNat)).n : Int)),
  D.arr IntKind.u8 (64 : Nat) (wrS (ofS (D.st [D.arr IntKind.u32 (8 : Nat) s.h.l, D.val (Value.int IntKind.u64 (↑s.n : Int)), D.arr IntKind.u8 (64 : Nat) s.l])) (padL (↑s.n : Int).toNat)).l]))) ∧
  sm
  (some
  (Blk.fix
  (D.arr IntKind.u8 (32 : Nat)
  [(0 : Int), (0 : Int), (0 : Int), (0 : Int), (0 : Int), (0 : Int), (0 : Int), (0 : Int), (0 : Int), (0 : Int), (0 : Int), (0 : Int), (0 : Int), (0 : Int), (0 : Int), (0 : Int), (0 : Int), (0 : Int), (0 : Int), (0 : Int), (0 : Int), (0 : Int), (0 : Int), (0 : Int),
  (0 : Int), (0 : Int), (0 : Int), (0 : Int), (0 : Int), (0 : Int), (0 : Int), (0 : Int)]))) ∧
  some
  (Blk.fix
  (D.arr IntKind.u8 (32 : Nat)
  (((((List.take ((4 : Nat) * x) (sumL s) ++ List.replicate ((32 : Nat) - (4 : Nat) * x) (0 : Int)).set (IntKind.i64.wrap ((4 : Int) * (↑x : Int))).toNat
  (IntKind.u8.wrap (ishr IntKind.u32 ((wrS (ofS (D.st [D.arr IntKind.u32 (8 : Nat) s.h.l, D.val (Value.int IntKind.u64 (↑s.n : Int)), D.arr IntKind.u8 (64 : Nat) s.l])) (padL (↑s.n : Int).toNat)).h.l.getD (↑x : Int).toNat (0 : Int)) (24 : Int)))).set
  (IntKind.i64.wrap (IntKind.i64.wrap ((4 : Int) * (↑x : Int)) + (1 : Int))).toNat
  (IntKind.u8.wrap (ishr IntKind.u32 ((wrS (ofS (D.st [D.arr IntKind.u32 (8 : Nat) s.h.l, D.val (Value.int IntKind.u64 (↑s.n : Int)), D.arr IntKind.u8 (64 : Nat) s.l])) (padL (↑s.n : Int).toNat)).h.l.getD (↑x : Int).toNat (0 : Int)) (16 : Int)))).set
  (IntKind.i64.wrap (IntKind.i64.wrap ((4 : Int) * (↑x : Int)) + (2 : Int))).toNat
  (IntKind.u8.wrap (ishr IntKind.u32 ((wrS (ofS (D.st [D.arr IntKind.u32 (8 : Nat) s.h.l, D.val (Value.int IntKind.u64 (↑s.n : Int)), D.arr IntKind.u8 (64 : Nat) s.l])) (padL (↑s.n : Int).toNat)).h.l.getD (↑x : Int).toNat (0 : Int)) (8 : Int)))).set
  (IntKind.i64.wrap (IntKind.i64.wrap ((4 : Int) * (↑x : Int)) + (3 : Int))).toNat
  (IntKind.u8.wrap ((wrS (ofS (D.st [D.arr IntKind.u32 (8 : Nat) s.h.l, D.val (Value.int IntKind.u64 (↑s.n : Int)), D.arr IntKind.u8 (64 : Nat) s.l])) (padL (↑s.n : Int).toNat)).h.l.getD (↑x : Int).toNat (0 : Int)))))) =
  some (Blk.fix (D.arr IntKind.u8 (32 : Nat) (List.take ((4 : Nat) * (IntKind.i64.wrap ((↑x : Int) + (1 : Int))).toNat) (sumL s) ++ List.replicate ((32 : Nat) - (4 : Nat) * (IntKind.i64.wrap ((↑x : Int) + (1 : Int))).toNat) (0 : Int)))) ∧
  True) ∧
  true = true) ∧
  (IntKind.i64.wrap ((↑x : Int) + (1 : Int))).toNat ≤ (8 : Nat) ∧ (8 : Nat) - (IntKind.i64.wrap ((↑x : Int) + (1 : Int))).toNat < (8 : Nat) - x
 | false =>
  ((32 : Nat) ≠ (0 : Nat) ∧ (32 : Nat) = (32 : Nat) ∧ true = true) ∧
  (Sk.arr (32 : Nat) = Sk.arr (32 : Nat) ∧ (32 : Nat) ≠ (0 : Nat) ∧ (32 : Nat) = (32 : Nat) ∧ false = false) ∧ (((32 : Nat) ≠ (0 : Nat) ∧ (32 : Nat) = (32 : Nat) ∧ true = true) ∧ True) ∧ D.arr IntKind.u8 (32 : Nat) (List.take ((4 : Nat) * x) (sumL s) ++ List.replicate ((32 : Nat) - (4 : Nat) * x) (0 : Int)) = F) := by kernel_rfl
set_option maxRecDepth 100000 in
theorem vc116  (F : D)  :
    (owed c0 (fun _ => none) Tryd.f116 [] F) = (
 True ∧ ((1 : Nat) = (1 : Nat) ∧ (8 : Nat) ≤ (4096 : Nat)) ∧ True ∧ (false = false ∧ True) ∧ D.ints IntKind.u32 [(1779033703 : Int), (3144134277 : Int), (1013904242 : Int), (2773480762 : Int), (1359893119 : Int), (2600822924 : Int), (528734635 : Int), (1541459225 : Int)] = F) := by kernel_rfl
set_option maxRecDepth 100000 in
theorem vc115  (x : R8) (n : Nat) (p : List Int) (F : D)  :
    (owed c115 (inv115 x n p) Tryd.f115 [.ints .u32 x.l, u64 (n : Int), .str p] F) = (
 (True ∧ (32 : Nat) ≠ (0 : Nat)) ∧
 True ∧
 True ∧
 True ∧
 True ∧
 True ∧
 True ∧
 (∃ (n_1 : Nat), [D.val (Value.int IntKind.u64 (IntKind.u64.wrap ((↑n : Int) + IntKind.u64.wrap (↑p.length : Int))))] = [D.val (Value.int IntKind.u64 (↑n_1 : Int))] ∧ n_1 < (18446744073709551616 : Nat)) ∧
 (↑(p.length + (padL (IntKind.u64.wrap ((↑n : Int) + IntKind.u64.wrap (↑p.length : Int))).toNat).length) : Int) ≤ (9223372036854775807 : Int) ∧
 True ∧
 True ∧
 (((AV.d (D.val (Value.int IntKind.i64 (0 : Int))) = AV.d (D.val (Value.int IntKind.i64 (↑(0 : Nat) : Int))) ∧ AV.d (D.ints IntKind.u32 x.l) = AV.d (D.ints IntKind.u32 (fhK x (fullL n p) (0 / 64 : Nat)).l) ∧ True) ∧
 (sm
 (some
 (Blk.fix
 (D.arr IntKind.u8 (32 : Nat)
 [(0 : Int), (0 : Int), (0 : Int), (0 : Int), (0 : Int), (0 : Int), (0 : Int), (0 : Int), (0 : Int), (0 : Int), (0 : Int), (0 : Int), (0 : Int), (0 : Int), (0 : Int), (0 : Int), (0 : Int), (0 : Int), (0 : Int), (0 : Int), (0 : Int), (0 : Int), (0 : Int), (0 : Int), (0 : Int), (0 : Int), (0 : Int), (0 : Int), (0 : Int), (0 : Int), (0 : Int), (0 : Int)]))) ∧
 True) ∧
 true = true) ∧
 (0 / 64 : Nat) ≤ (fullL n p).length / (64 : Nat)) ∧
 ∀ (x_1 : Nat),
 x_1 ≤ (fullL n p).length / (64 : Nat) →
 true = true ∧
 True ∧
 True ∧
 True ∧
 True ∧
 match decide ((↑((64 : Nat) * x_1) : Int) < (↑(p ++ padL (IntKind.u64.wrap ((↑n : Int) + IntKind.u64.wrap (↑p.length : Int))).toNat).length : Int)) with
 | true =>
  True ∧
  True ∧
  True ∧
  True ∧
  True ∧
  ((0 : Int) ≤ (↑((64 : Nat) * x_1) : Int) ∧ (↑((64 : Nat) * x_1) : Int) ≤ IntKind.i64.wrap ((↑((64 : Nat) * x_1) : Int) + (64 : Int)) ∧ IntKind.i64.wrap ((↑((64 : Nat) * x_1) : Int) + (64 : Int)) ≤ (↑(p ++ padL (IntKind.u64.wrap ((↑n : Int) + IntKind.u64.wrap (↑p.length : Int))).toNat).length : Int)) ∧
  (∃ (x_2 : R8),
  ∃ (l : List Int),
  [D.ints IntKind.u32 (fhK x (fullL n p) x_1).l, D.str (List.drop (↑((64 : Nat) * x_1) : Int).toNat (List.take (IntKind.i64.wrap ((↑((64 : Nat) * x_1) : Int) + (64 : Int))).toNat (p ++ padL (IntKind.u64.wrap ((↑n : Int) + IntKind.u64.wrap (↑p.length : Int))).toNat)))] = [D.ints IntKind.u32 x_2.l, D.str l] ∧
  isBytes l ∧ l.length = (64 : Nat)) ∧
  True ∧
  True ∧
  True ∧
  True ∧
  ((AV.d (D.val (Value.int IntKind.i64 (IntKind.i64.wrap ((↑((64 : Nat) * x_1) : Int) + (64 : Int))))) = AV.d (D.val (Value.int IntKind.i64 (↑((64 : Nat) * ((IntKind.i64.wrap ((↑((64 : Nat) * x_1) : Int) + (64 : Int))).toNat / (64 : Nat))) : Int))) ∧
  AV.d (D.ints IntKind.u32 (prL (fhK x (fullL n p) x_1).l (List.drop (↑((64 : Nat) * x_1) : Int).toNat (List.take (IntKind.i64.wrap ((↑((64 : Nat) * x_1) : Int) + (64 : Int))).toNat (p ++ padL (IntKind.u64.wrap ((↑n : Int) + IntKind.u64.wrap (↑p.length : Int))).toNat))))) =
  AV.d (D.ints IntKind.u32 (fhK x (fullL n p) ((IntKind.i64.wrap ((↑((64 : Nat) * x_1) : Int) + (64 : Int))).toNat / (64 : Nat))).l) ∧
  True) ∧
  (sm
  (some
  (Blk.fix
  (D.arr IntKind.u8 (32 : Nat)
  [(0 : Int), (0 : Int), (0 : Int), (0 : Int), (0 : Int), (0 : Int), (0 : Int), (0 : Int), (0 : Int), (0 : Int), (0 : Int), (0 : Int), (0 : Int), (0 : Int), (0 : Int), (0 : Int), (0 : Int), (0 : Int), (0 : Int), (0 : Int), (0 : Int), (0 : Int), (0 : Int), (0 : Int), (0 : Int), (0 : Int), (0 : Int), (0 : Int), (0 : Int),
  (0 : Int), (0 : Int), (0 : Int)]))) ∧
  True) ∧
  true = true) ∧
  (IntKind.i64.wrap ((↑((64 : Nat) * x_1) : Int) + (64 : Int))).toNat / (64 : Nat) ≤ (fullL n p).length / (64 : Nat) ∧ (fullL n p).length / (64 : Nat) - (IntKind.i64.wrap ((↑((64 : Nat) * x_1) : Int) + (64 : Int))).toNat / (64 : Nat) < (fullL n p).length / (64 : Nat) - x_1
 | false =>
  (True ∧ (32 : Nat) ≠ (0 : Nat)) ∧
  True ∧
  (((AV.d (D.val (Value.int IntKind.i64 (0 : Int))) = AV.d (D.val (Value.int IntKind.i64 (↑(Int.toNat (0 : Int)) : Int))) ∧ True) ∧
  (sm
  (some
  (Blk.fix
  (D.arr IntKind.u8 (32 : Nat)
  [(0 : Int), (0 : Int), (0 : Int), (0 : Int), (0 : Int), (0 : Int), (0 : Int), (0 : Int), (0 : Int), (0 : Int), (0 : Int), (0 : Int), (0 : Int), (0 : Int), (0 : Int), (0 : Int), (0 : Int), (0 : Int), (0 : Int), (0 : Int), (0 : Int), (0 : Int), (0 : Int), (0 : Int), (0 : Int), (0 : Int), (0 : Int), (0 : Int), (0 : Int), (0 : Int),
  (0 : Int), (0 : Int)]))) ∧
  some
  (Blk.fix
  (D.arr IntKind.u8 (32 : Nat)
  [(0 : Int), (0 : Int), (0 : Int), (0 : Int), (0 : Int), (0 : Int), (0 : Int), (0 : Int), (0 : Int), (0 : Int), (0 : Int), (0 : Int), (0 : Int), (0 : Int), (0 : Int), (0 : Int), (0 : Int), (0 : Int), (0 : Int), (0 : Int), (0 : Int), (0 : Int), (0 : Int), (0 : Int), (0 : Int), (0 : Int), (0 : Int), (0 : Int), (0 : Int), (0 : Int),
  (0 : Int), (0 : Int)])) =
  some
  (Blk.fix
  (D.arr IntKind.u8 (32 : Nat)
  (List.take (Int.toNat (0 : Int)) (fromL x n p) ++
  [(0 : Int), (0 : Int), (0 : Int), (0 : Int), (0 : Int), (0 : Int), (0 : Int), (0 : Int), (0 : Int), (0 : Int), (0 : Int), (0 : Int), (0 : Int), (0 : Int), (0 : Int), (0 : Int), (0 : Int), (0 : Int), (0 : Int), (0 : Int), (0 : Int), (0 : Int), (0 : Int), (0 : Int), (0 : Int), (0 : Int), (0 : Int), (0 : Int), (0 : Int), (0 : Int),
  (0 : Int), (0 : Int)]))) ∧
  True) ∧
  true = true) ∧
  Int.toNat (0 : Int) ≤ (32 : Nat)) ∧
  ∀ (x_2 : Nat),
  x_2 ≤ (32 : Nat) →
  true = true ∧
  True ∧
  match decide ((↑x_2 : Int) < (32 : Int)) with
  | true =>
   True ∧
   True ∧
   True ∧
   True ∧
   True ∧
   (4 : Int) ≠ (0 : Int) ∧
   ((0 : Int) ≤ IntKind.i64.wrap ((↑x_2 : Int).tdiv (4 : Int)) ∧ IntKind.i64.wrap ((↑x_2 : Int).tdiv (4 : Int)) < (↑(fhK x (fullL n p) x_1).l.length : Int) ∧ (1 : Nat) = (1 : Nat)) ∧
   ((1 : Nat) ≠ (0 : Nat) ∧ (1 : Nat) = (1 : Nat) ∧ false = false) ∧
   True ∧
   (4 : Int) ≠ (0 : Int) ∧
   True ∧
   True ∧
   (0 : Int) ≤ IntKind.i64.wrap ((24 : Int) - IntKind.i64.wrap ((8 : Int) * (↑x_2 : Int).tmod (4 : Int))) ∧
   True ∧
   ((0 : Int) ≤ (↑x_2 : Int) ∧ (↑x_2 : Int) < (↑(32 : Nat) : Int) ∧ (32 : Nat) = (32 : Nat) ∧ (1 : Nat) = (1 : Nat)) ∧
   (((↑x_2 : Int).toNat < (32 : Nat) ∧ ([] : List Nat) = [] ∧ true = true) ∧ (1 : Nat) ≠ (0 : Nat) ∧ (1 : Nat) = (1 : Nat) ∧ false = false) ∧
   True ∧
   True ∧
   ((AV.d (D.val (Value.int IntKind.i64 (IntKind.i64.wrap ((↑x_2 : Int) + (1 : Int))))) = AV.d (D.val (Value.int IntKind.i64 (↑(IntKind.i64.wrap ((↑x_2 : Int) + (1 : Int))).toNat : Int))) ∧ True) ∧
   (sm
   (some
   (Blk.fix
   (D.arr IntKind.u8 (32 : Nat)
   [(0 : Int), (0 : Int), (0 : Int), (0 : Int), (0 : Int), (0 : Int), (0 : Int), (0 : Int), (0 : Int), (0 : Int), (0 : Int), (0 : Int), (0 : Int), (0 : Int), (0 : Int), (0 : Int), (0 : Int), (0 : Int), (0 : Int), (0 : Int), (0 : Int), (0 : Int), (0 : Int), (0 : Int), (0 : Int), (0 : Int),
   (0 : Int), (0 : Int), (0 : Int), (0 : Int), (0 : Int), (0 : Int)]))) ∧
   some
   (Blk.fix
   (D.arr IntKind.u8 (32 : Nat)
   ((List.take x_2 (fromL x n p) ++ List.replicate ((32 : Nat) - x_2) (0 : Int)).set (↑x_2 : Int).toNat
   (IntKind.u8.wrap (ishr IntKind.u32 ((fhK x (fullL n p) x_1).l.getD (IntKind.i64.wrap ((↑x_2 : Int).tdiv (4 : Int))).toNat (0 : Int)) (IntKind.i64.wrap ((24 : Int) - IntKind.i64.wrap ((8 : Int) * (↑x_2 : Int).tmod (4 : Int))))))))) =
   some (Blk.fix (D.arr IntKind.u8 (32 : Nat) (List.take (IntKind.i64.wrap ((↑x_2 : Int) + (1 : Int))).toNat (fromL x n p) ++ List.replicate ((32 : Nat) - (IntKind.i64.wrap ((↑x_2 : Int) + (1 : Int))).toNat) (0 : Int)))) ∧
   True) ∧
   true = true) ∧
   (IntKind.i64.wrap ((↑x_2 : Int) + (1 : Int))).toNat ≤ (32 : Nat) ∧ (32 : Nat) - (IntKind.i64.wrap ((↑x_2 : Int) + (1 : Int))).toNat < (32 : Nat) - x_2
  | false =>
   ((32 : Nat) ≠ (0 : Nat) ∧ (32 : Nat) = (32 : Nat) ∧ true = true) ∧
   (Sk.arr (32 : Nat) = Sk.arr (32 : Nat) ∧ (32 : Nat) ≠ (0 : Nat) ∧ (32 : Nat) = (32 : Nat) ∧ false = false) ∧ (((32 : Nat) ≠ (0 : Nat) ∧ (32 : Nat) = (32 : Nat) ∧ true = true) ∧ True) ∧ D.arr IntKind.u8 (32 : Nat) (List.take x_2 (fromL x n p) ++ List.replicate ((32 : Nat) - x_2) (0 : Int)) = F) := by kernel_rfl
set_option maxRecDepth 100000 in
theorem vc70  (p : List Int) (F : D)  :
    (owed c70 (fun _ => none) Tryd.f70 [.ints .u8 p] F) = (
 (True ∧ (32 : Nat) ≠ (0 : Nat)) ∧
 (0 : Nat) = (0 : Nat) ∧
 True ∧
 (∃ (s : HS), ∃ (p_1 : List Int), [D.st [D.arr IntKind.u32 (8 : Nat) st0.h.l, D.val (Value.int IntKind.u64 (↑st0.n : Int)), D.arr IntKind.u8 (64 : Nat) st0.l], D.ints IntKind.u8 p] = [D.st [D.arr IntKind.u32 (8 : Nat) s.h.l, D.val (Value.int IntKind.u64 (↑s.n : Int)), D.arr IntKind.u8 (64 : Nat) s.l], D.ints IntKind.u8 p_1] ∧ okS s ∧ isBytes p_1 ∧ p_1.length ≤ (1000000000000000 : Nat)) ∧
 (∃ (s : HS),
 [D.st
 [D.arr IntKind.u32 (8 : Nat) (wrS (ofS (D.st [D.arr IntKind.u32 (8 : Nat) st0.h.l, D.val (Value.int IntKind.u64 (↑st0.n : Int)), D.arr IntKind.u8 (64 : Nat) st0.l])) p).h.l, D.val (Value.int IntKind.u64 (↑(wrS (ofS (D.st [D.arr IntKind.u32 (8 : Nat) st0.h.l, D.val (Value.int IntKind.u64 (↑st0.n : Int)), D.arr IntKind.u8 (64 : Nat) st0.l])) p).n : Int)),
 D.arr IntKind.u8 (64 : Nat) (wrS (ofS (D.st [D.arr IntKind.u32 (8 : Nat) st0.h.l, D.val (Value.int IntKind.u64 (↑st0.n : Int)), D.arr IntKind.u8 (64 : Nat) st0.l])) p).l]] =
 [D.st [D.arr IntKind.u32 (8 : Nat) s.h.l, D.val (Value.int IntKind.u64 (↑s.n : Int)), D.arr IntKind.u8 (64 : Nat) s.l]] ∧
 okS s) ∧
 (Sk.arr (32 : Nat) = Sk.arr (32 : Nat) ∧ (32 : Nat) ≠ (0 : Nat) ∧ (32 : Nat) = (32 : Nat) ∧ false = false) ∧
 (((32 : Nat) ≠ (0 : Nat) ∧ (32 : Nat) = (32 : Nat) ∧ true = true) ∧ True) ∧
 D.arr IntKind.u8 (32 : Nat)
 (sumL
 (ofS
 (D.st
 [D.arr IntKind.u32 (8 : Nat) (wrS (ofS (D.st [D.arr IntKind.u32 (8 : Nat) st0.h.l, D.val (Value.int IntKind.u64 (↑st0.n : Int)), D.arr IntKind.u8 (64 : Nat) st0.l])) p).h.l, D.val (Value.int IntKind.u64 (↑(wrS (ofS (D.st [D.arr IntKind.u32 (8 : Nat) st0.h.l, D.val (Value.int IntKind.u64 (↑st0.n : Int)), D.arr IntKind.u8 (64 : Nat) st0.l])) p).n : Int)),
 D.arr IntKind.u8 (64 : Nat) (wrS (ofS (D.st [D.arr IntKind.u32 (8 : Nat) st0.h.l, D.val (Value.int IntKind.u64 (↑st0.n : Int)), D.arr IntKind.u8 (64 : Nat) st0.l])) p).l]))) =
 F) := by kernel_rfl
set_option maxRecDepth 100000 in
theorem vc71  (p : List Int) (F : D)  :
    (owed c71 (fun _ => none) Tryd.f71 [.str p] F) = (
 (True ∧ (32 : Nat) ≠ (0 : Nat)) ∧
 (0 : Nat) = (0 : Nat) ∧
 True ∧
 (∃ (x : R8), ∃ (n : Nat), ∃ (p_1 : List Int), [D.ints IntKind.u32 iv.l, D.val (Value.int IntKind.u64 (0 : Int)), D.str p] = [D.ints IntKind.u32 x.l, D.val (Value.int IntKind.u64 (↑n : Int)), D.str p_1] ∧ isBytes p_1 ∧ p_1.length ≤ (1000000000000000 : Nat) ∧ n % (64 : Nat) = (0 : Nat) ∧ n < (18446744073709551616 : Nat)) ∧
 (Sk.arr (32 : Nat) = Sk.arr (32 : Nat) ∧ (32 : Nat) ≠ (0 : Nat) ∧ (32 : Nat) = (32 : Nat) ∧ false = false) ∧ (((32 : Nat) ≠ (0 : Nat) ∧ (32 : Nat) = (32 : Nat) ∧ true = true) ∧ True) ∧ D.arr IntKind.u8 (32 : Nat) (fromL (ofR iv.l) (0 : Nat) p) = F) := by kernel_rfl
end Go.Proofs.YtkicjckhkefnpaaDoor
namespace Go.Proofs.YtkicjckhkefnpaaDoor
open Go Go.Vg
theorem btw (x : R8) {j : Nat} (h : j < 8) {k : Nat} (hk : k ≤ 3) : IntKind.u8.wrap (ishr .u32 (x.l.getD j 0) ((8 * k : Nat) : Int)) = bt x.l j k := by
 obtain ⟨w, e⟩ := xl_get x h
 unfold bt
 rw [e, ishrN .u32 (show 8 * k ≤ 32 by omega), wN8, Int.toNat_natCast, Nat.pow_mul]
theorem btw0 (x : R8) {j : Nat} (h : j < 8) : IntKind.u8.wrap (x.l.getD j 0) = bt x.l j 0 := by
 obtain ⟨w, e⟩ := xl_get x h
 unfold bt
 rw [e, wN8, Int.toNat_natCast, Nat.pow_zero, Nat.div_one]
theorem tl_bytes (b : Nat) : ∀ k, isBytes (tl b k)
 | 0 => fun x hx => by cases hx
 | k + 1 => fun x hx => by
  rcases List.mem_cons.1 hx with rfl | h
  ·omega
  ·exact tl_bytes b k x h
theorem padL_bytes (n : Nat) : isBytes (padL n) := by
 intro x hx
 unfold padL at hx
 rcases List.mem_cons.1 hx with rfl | h
 ·omega
 ·rcases List.mem_append.1 h with h | h
  ·have := List.eq_of_mem_replicate h
   omega
  ·exact tl_bytes _ _ x h
theorem bytes_app {a b : List Int} (ha : isBytes a) (hb : isBytes b) : isBytes (a ++ b) := by
 intro x hx
 rcases List.mem_append.1 hx with h | h
 ·exact ha x h
 ·exact hb x h
theorem bytes_drop {l : List Int} (h : isBytes l) (n : Nat) : isBytes (l.drop n) := fun x hx => h x (List.mem_of_mem_drop hx)
set_option maxRecDepth 100000 in
theorem m75 : Meets Tryd.prog 75 sp75 := by
 refine meets_of_owed (C := c0) ⟨tab_ok, fun f s h => by cases h⟩ (by kernel_rfl) (by kernel_rfl : Tryd.prog.funcs[75]? = some Tryd.f75) (by kernel_rfl) (by kernel_rfl) (by kernel_rfl) _ ?_
 rintro ds hds
 have hds : ds.length = 0 := hds
 obtain rfl := List.eq_nil_of_length_eq_zero hds
 refine ⟨fun _ => rfl, fun _ => none, ?_⟩
 show owed c0 (fun _ => none) Tryd.f75 [] (stD st0)
 rw [vc75]
 and_intros <;> first | rfl | decide | trivial
set_option maxRecDepth 100000 in
theorem m116 : Meets Tryd.prog 116 sp116 := by
 refine meets_of_owed (C := c0) ⟨tab_ok, fun f s h => by cases h⟩ (by kernel_rfl) (by kernel_rfl : Tryd.prog.funcs[116]? = some Tryd.f116) (by kernel_rfl) (by kernel_rfl) (by kernel_rfl) _ ?_
 rintro ds hds
 have hds : ds.length = 0 := hds
 obtain rfl := List.eq_nil_of_length_eq_zero hds
 refine ⟨(fun h => by cases h), fun _ => none, ?_⟩
 show owed c0 (fun _ => none) Tryd.f116 [] (.ints .u32 iv.l)
 rw [vc116]
 and_intros <;> first | rfl | decide | trivial
set_option maxRecDepth 100000 in
theorem m77 : Meets Tryd.prog 77 sp77 := by
 refine meets_of_owed (C := c77) ⟨tab_ok, lkS_ok ⟨m76, m118, trivial⟩⟩ (by kernel_rfl) (by kernel_rfl : Tryd.prog.funcs[77]? = some Tryd.f77) (by kernel_rfl) (by kernel_rfl) (by kernel_rfl) _ ?_
 rintro _ ⟨s, rfl, hs⟩
 refine ⟨fun _ => rfl, inv77 s, ?_⟩
 show owed c77 (inv77 s) Tryd.f77 [stD s] (d32 (sumL (ofS (stD s))))
 have e : ofS (D.st [D.arr .u32 8 s.h.l, D.val (.int .u64 (s.n : Int)), D.arr .u8 64 s.l]) = s := ofS_eq s
 rw [vc77]
 simp (decide := true) only [e, eq_self, true_and, and_true, ne_eq, not_false_eq_true, Int.toNat_natCast]
 have hz := zc_lt s.n
 have hl := padL_len s.n
 have hy : sumL s = outL (wrS s (padL s.n)).h := rfl
 refine ⟨⟨s.n, rfl, hs.2.2⟩, ⟨s, padL s.n, rfl, hs, padL_bytes _, by omega⟩, (by and_intros <;> first | rfl | trivial | omega), fun x hx => ?_⟩
 generalize wrS s (padL s.n) = y at *
 have hL : (sumL s).length = 32 := by rw [hy]; exact outL_len _
 have g : ∀ j, j ≤ 3 → 4 * x + j < 32 → (sumL s).getD (4 * x + j) 0 = bt y.h.l x (3 - j) := by
  intro j hj hlt
  rw [hy, outL_get _ hlt, show (4 * x + j) / 4 = x by omega, show (4 * x + j) % 4 = j by omega]
 generalize sumL s = L at *
 split
 ·rename_i h
  have h : x < 8 := by have := of_decide_eq_true h; omega
  have ew : IntKind.i64.wrap ((x : Int) + 1) = ((x + 1 : Nat) : Int) := by rw [wi (by omega) (by omega)]; omega
  have e4 : IntKind.i64.wrap (4 * (x : Int)) = ((4 * x : Nat) : Int) := by rw [wi (by omega) (by omega)]; omega
  have e1 : ∀ j : Nat, j ≤ 3 → IntKind.i64.wrap (((4 * x : Nat) : Int) + (j : Int)) = ((4 * x + j : Nat) : Int) := fun j hj => by rw [wi (by omega) (by omega)]; omega
  have e41 := e1 1 (by decide)
  have e42 := e1 2 (by decide)
  have e43 := e1 3 (by decide)
  have b3 := btw y.h h (k := 3) (by decide)
  have b2 := btw y.h h (k := 2) (by decide)
  have b1 := btw y.h h (k := 1) (by decide)
  have b0 := btw0 y.h h
  have g0 := g 0 (by decide) (by omega)
  have g1 := g 1 (by decide) (by omega)
  have g2 := g 2 (by decide) (by omega)
  have g3 := g 3 (by decide) (by omega)
  have f0 := fill L (n := 32) (k := 4 * x + 0) hL (by omega)
  have f1 := fill L (n := 32) (k := 4 * x + 1) hL (by omega)
  have f2 := fill L (n := 32) (k := 4 * x + 2) hL (by omega)
  have f3 := fill L (n := 32) (k := 4 * x + 3) hL (by omega)
  rw [g0] at f0
  rw [g1] at f1
  rw [g2] at f2
  rw [g3] at f3
  change IntKind.u8.wrap (ishr .u32 (y.h.l.getD x 0) 24) = _ at b3
  change IntKind.u8.wrap (ishr .u32 (y.h.l.getD x 0) 16) = _ at b2
  change IntKind.u8.wrap (ishr .u32 (y.h.l.getD x 0) 8) = _ at b1
  change IntKind.i64.wrap (((4 * x : Nat) : Int) + 1) = _ at e41
  change IntKind.i64.wrap (((4 * x : Nat) : Int) + 2) = _ at e42
  change IntKind.i64.wrap (((4 * x : Nat) : Int) + 3) = _ at e43
  simp only [Nat.add_zero, Nat.sub_zero, Nat.sub_self, show 3 - 1 = 2 from rfl, show 3 - 2 = 1 from rfl] at f0 f1 f2 f3
  simp only [ew, e4, e41, e42, e43, Int.toNat_natCast, b3, b2, b1, b0, f0, f1, f2, f3]
  and_intros <;> first | rfl | omega | trivial
 ·rename_i h
  obtain rfl : x = 8 := by have := of_decide_eq_false h; omega
  rw [List.take_of_length_le (by omega)]
  show d32 (L ++ []) = d32 L
  rw [List.append_nil]
set_option maxRecDepth 100000 in
theorem m115 : Meets Tryd.prog 115 sp115 := by
 refine meets_of_owed (C := c115) ⟨tab_ok, lkS_ok ⟨m127, m128, trivial⟩⟩ (by kernel_rfl) (by kernel_rfl : Tryd.prog.funcs[115]? = some Tryd.f115) (by kernel_rfl) (by kernel_rfl) (by kernel_rfl) _ ?_
 rintro _ ⟨x, n, p, rfl, hb, hl, hn, hn2⟩
 refine ⟨fun _ => rfl, inv115 x n p, ?_⟩
 show owed c115 (inv115 x n p) Tryd.f115 [.ints .u32 x.l, u64 (n : Int), .str p] (d32 (fromL (ofR x.l) ((n : Int)).toNat p))
 rw [vc115, ofR_l, Int.toNat_natCast]
 have ew : IntKind.u64.wrap ((n : Int) + IntKind.u64.wrap (p.length : Int)) = (((n + p.length) % 18446744073709551616 : Nat) : Int) := by
  rw [w64, w64]; omega
 have ef : p ++ padL ((n + p.length) % 18446744073709551616) = fullL n p := rfl
 have hm : (fullL n p).length % 64 = 0 := mul64 n p hn
 have hmb : isBytes (fullL n p) := bytes_app hb (padL_bytes _)
 have hz := zc_lt ((n + p.length) % 18446744073709551616)
 have hpl := padL_len ((n + p.length) % 18446744073709551616)
 have hml : (fullL n p).length = p.length + (padL ((n + p.length) % 18446744073709551616)).length := List.length_append
 have hfr : fromL x n p = outL (fhK x (fullL n p) ((fullL n p).length / 64)) := rfl
 simp (decide := true) only [ew, ef, eq_self, true_and, and_true, ne_eq, not_false_eq_true, Int.toNat_natCast]
 have hk0 : fhK x (fullL n p) (0 / 64) = x := rfl
 rw [hk0]
 generalize hM : fullL n p = M at *
 refine ⟨⟨_, rfl, Nat.mod_lt _ (by decide)⟩, by omega, (by and_intros <;> first | rfl | trivial | omega), fun k hk => ?_⟩
 split
 ·rename_i h
  have h : 64 * k < M.length := by have := of_decide_eq_true h; omega
  have e1 : IntKind.i64.wrap (((64 * k : Nat) : Int) + 64) = ((64 * k + 64 : Nat) : Int) := by rw [wi (by omega) (by omega)]; omega
  have e2 : (64 * k + 64) / 64 = k + 1 := by omega
  have e3 : prL (fhK x M k).l (List.take 64 (List.drop (64 * k) M)) = (fhK x M (k + 1)).l := by
   unfold prL
   rw [ofR_l]
   rfl
  have e4 : List.drop (64 * k) (List.take (64 * k + 64) M) = List.take 64 (List.drop (64 * k) M) := by
   rw [List.drop_take, show 64 * k + 64 - 64 * k = 64 by omega]
  simp only [e1, Int.toNat_natCast, e2, e4, e3]
  refine ⟨by omega, ⟨_, _, rfl, bytes_take (bytes_drop hmb _) _, by rw [List.length_take, List.length_drop]; omega⟩, ?_, by omega, by omega⟩
  rw [show 64 * (k + 1) = 64 * k + 64 by omega]
  and_intros <;> first | rfl | trivial
 ·rename_i h
  obtain rfl : k = M.length / 64 := by have := of_decide_eq_false h; omega
  have hL : (fromL x n p).length = 32 := by rw [hfr]; exact outL_len _
  refine ⟨(by and_intros <;> first | rfl | trivial | omega), fun i hi => ?_⟩
  split
  ·rename_i h
   have h : i < 32 := by have := of_decide_eq_true h; omega
   have g := outL_get (fhK x M (M.length / 64)) h
   have f := fill (fromL x n p) hL h
   have d1 : ((i : Nat) : Int).tdiv 4 = ((i / 4 : Nat) : Int) := tdivN _ 4
   have d2 : ((i : Nat) : Int).tmod 4 = ((i % 4 : Nat) : Int) := tmodN _ 4
   have d3 : IntKind.i64.wrap ((i / 4 : Nat) : Int) = ((i / 4 : Nat) : Int) := by rw [wi (by omega) (by omega)]
   have d4 : IntKind.i64.wrap (24 - IntKind.i64.wrap (8 * ((i % 4 : Nat) : Int))) = ((8 * (3 - i % 4) : Nat) : Int) := by
    rw [wi (n := 8 * ((i % 4 : Nat) : Int)) (by omega) (by omega), wi (by omega) (by omega)]; omega
   have d5 : IntKind.i64.wrap ((i : Int) + 1) = ((i + 1 : Nat) : Int) := by rw [wi (by omega) (by omega)]; omega
   have d6 : (fhK x M (M.length / 64)).l.length = 8 := rfl
   have b := btw (fhK x M (M.length / 64)) (j := i / 4) (by omega) (k := 3 - i % 4) (by omega)
   rw [hfr, g] at f
   rw [hfr]
   simp only [d1, d2, d3, d4, d5, d6, Int.toNat_natCast, b, f]
   and_intros <;> first | rfl | omega | trivial
  ·rename_i h
   obtain rfl : i = 32 := by have := of_decide_eq_false h; omega
   rw [List.take_of_length_le (by omega)]
   show d32 (fromL x n p ++ []) = d32 (fromL x n p)
   rw [List.append_nil]
end Go.Proofs.YtkicjckhkefnpaaDoor
namespace Go.Proofs.YtkicjckhkefnpaaDoor
open Go Go.Vg
set_option maxRecDepth 100000 in
theorem m70 : Meets Tryd.prog 70 sp70 := by
 refine meets_of_owed (C := c70) ⟨tab_ok, lkS_ok ⟨m75, m76, m77, trivial⟩⟩ (by kernel_rfl) (by kernel_rfl : Tryd.prog.funcs[70]? = some Tryd.f70) (by kernel_rfl) (by kernel_rfl) (by kernel_rfl) _ ?_
 rintro _ ⟨p, rfl, hb, hl⟩
 refine ⟨fun _ => rfl, fun _ => none, ?_⟩
 show owed c70 (fun _ => none) Tryd.f70 [.ints .u8 p] (d32 (digL p))
 have e : ∀ s : HS, ofS (D.st [D.arr .u32 8 s.h.l, D.val (.int .u64 (s.n : Int)), D.arr .u8 64 s.l]) = s := ofS_eq
 rw [vc70]
 simp (decide := true) only [e, eq_self, true_and, and_true, ne_eq, not_false_eq_true, Int.toNat_natCast, sum_st0]
 exact ⟨⟨st0, p, rfl, st0_ok, hb, hl⟩, ⟨_, rfl, wr_ok p st0_ok hb⟩⟩
set_option maxRecDepth 100000 in
theorem m71 : Meets Tryd.prog 71 sp71 := by
 refine meets_of_owed (C := c71) ⟨tab_ok, lkS_ok ⟨m116, m115, trivial⟩⟩ (by kernel_rfl) (by kernel_rfl : Tryd.prog.funcs[71]? = some Tryd.f71) (by kernel_rfl) (by kernel_rfl) (by kernel_rfl) _ ?_
 rintro _ ⟨p, rfl, hb, hl⟩
 refine ⟨fun _ => rfl, fun _ => none, ?_⟩
 show owed c71 (fun _ => none) Tryd.f71 [.str p] (d32 (digL p))
 rw [vc71, ofR_l]
 simp (decide := true) only [eq_self, true_and, and_true, ne_eq, not_false_eq_true, Int.toNat_natCast]
 exact ⟨⟨iv, 0, p, rfl, hb, hl, rfl, by decide⟩, rfl⟩
end Go.Proofs.YtkicjckhkefnpaaDoor
namespace Go.Proofs.YtkicjckhkefnpaaDoor
open Go Go.Vg
theorem okAll2 {t : Tab} {n : Nat} {a b : TypeId} : ∀ {ds : List D}, OkAll t n [a, b] ds → ∃ d e, ds = [d, e] ∧ OkT t n a d ∧ OkT t n b e
 | [], h => by cases h
 | [_], h => by cases h.2
 | [d, e], h => ⟨d, e, rfl, h.1, h.2.1⟩
 | _ :: _ :: _ :: _, h => by cases h.2.2
set_option maxRecDepth 100000 in
theorem ok26  (d : D)  :
    (OkT tab 8 26 d) = (
 ∃ (l : List Int), d = D.ints IntKind.u8 l ∧ (∀ (z : Int), z ∈ l → (0 : Int) ≤ z ∧ z ≤ IntKind.u8.max) ∧ l.length ≤ (9223372036854775807 : Nat) ∧ l.length * (1 : Nat) ≤ (140737488351232 : Nat)) := by kernel_rfl
theorem eqB_refl (l : List Int) : eqB l l = true := eqB_iff.2 rfl
theorem ofS' (s : HS) : ofS (D.st [D.arr .u32 8 s.h.l, D.val (.int .u64 (s.n : Int)), D.arr .u8 64 s.l]) = s := ofS_eq s
theorem digL_len (p : List Int) : (digL p).length = 32 := outL_len _
theorem digL_bytes (p : List Int) : isBytes (digL p) := outL_bytes _
end Go.Proofs.YtkicjckhkefnpaaDoor
namespace Go.Proofs.YtkicjckhkefnpaaDoor
open Go Go.Vg
noncomputable def dgF (l : List Int) : List Int := opq (dg (vB 256 l))
end Go.Proofs.YtkicjckhkefnpaaDoor
namespace Go.Proofs.YtkicjckhkefnpaaDoor
open Go Go.Vg
theorem wordG {l : List Int} (h : isBytes l) (n : Nat) (hl : l.length ≤ 8 * n) (x : Nat) (hx : x < l.length) :
  (nB 18446744073709551616 n (vB 256 (l.take x))).set (x / 8) (ior IntKind.u64 ((nB 18446744073709551616 n (vB 256 (l.take x))).getD (x / 8) 0) (ishl IntKind.u64 (l.getD x 0) ((x % 8 * 8 : Nat) : Int))) = nB 18446744073709551616 n (vB 256 (l.take (x + 1))) := by
 have hs := h _ (getD_mem (l := l) (n := x) hx)
 obtain ⟨s, e⟩ := Int.eq_ofNat_of_zero_le hs.1
 have hlt : vB 256 (l.take x) < 256 ^ x := by
  have := vB_lt (b := 256) (l := l.take x) fun y hy => h y (List.mem_of_mem_take hy)
  rwa [List.length_take, show min x l.length = x by omega] at this
 obtain ⟨g1, g2, g3⟩ := nB_grow 256 8 n (vB 256 (l.take x)) x s (by decide) (by decide) hlt (by omega) (by omega)
 rw [show (256 ^ 8 : Nat) = 18446744073709551616 by decide] at g1 g2 g3
 rw [vB_take1 x (by omega), e, Int.toNat_natCast, g1, nB_get _ _ _ _ (by omega)]
 generalize vB 256 (l.take x) / 18446744073709551616 ^ (x / 8) % 18446744073709551616 = o at g2 g3 ⊢
 have g4 : 256 ^ (x % 8 + 1) ≤ 256 ^ 8 := Nat.pow_le_pow_right (by decide) (by omega)
 rw [show (256 ^ 8 : Nat) = 18446744073709551616 by decide] at g4
 have g5 : o ≤ o + 256 ^ (x % 8) * s := Nat.le_add_right _ _
 have e2 : ishl IntKind.u64 (s : Int) ((x % 8 * 8 : Nat) : Int) = ((256 ^ (x % 8) * s : Nat) : Int) := by
  unfold ishl
  rw [Int.toNat_natCast, show min (x % 8 * 8) IntKind.u64.bits = x % 8 * 8 by simp only [IntKind.bits]; omega]
  have e3 : (s : Int) * 2 ^ (x % 8 * 8) = ((256 ^ (x % 8) * s : Nat) : Int) := by
   rw [show (256 : Nat) = 2 ^ 8 from rfl, ← Nat.pow_mul, Nat.mul_comm 8, Nat.mul_comm _ s]
   simp
  rw [e3]
  generalize 256 ^ (x % 8) * s = q at g3 ⊢
  exact wu (by omega) (by omega)
 rw [e2, ior_nat (by omega) (by omega)]
 congr 2
 have e4 : (256 : Nat) ^ (x % 8) = 2 ^ (8 * (x % 8)) := by rw [show (256 : Nat) = 2 ^ 8 from rfl, ← Nat.pow_mul]
 rw [e4] at g2 ⊢
 rw [Nat.or_comm, ← Nat.two_pow_add_eq_or_of_lt g2, Nat.add_comm]
theorem b64 {l : List Int} (h : isBytes l) (hl : l.length ≤ 64) : vB 256 l < 256 ^ 64 := Nat.lt_of_lt_of_le (vB_lt (b := 256) h) (Nat.pow_le_pow_right (by decide) hl)
end Go.Proofs.YtkicjckhkefnpaaDoor
namespace Go.Proofs.YtkicjckhkefnpaaDoor
open Go Go.Vg
end Go.Proofs.YtkicjckhkefnpaaDoor
namespace Go.Proofs.YtkicjckhkefnpaaDoor
open Go Go.Vg
end Go.Proofs.YtkicjckhkefnpaaDoor
namespace Go.Proofs.YtkicjckhkefnpaaDoor
open Go Go.Vg
end Go.Proofs.YtkicjckhkefnpaaDoor
namespace Go.Proofs.YtkicjckhkefnpaaDoor
open Go Go.Vg
structure MS where
 i : HS
 o : HS
abbrev stM (s : MS) : D := .st [stD s.i, stD s.o]
def ofM (d : D) : MS := ⟨ofS (fldOf d 0), ofS (fldOf d 1)⟩
def keyL (k : List Int) : List Int := if 64 < k.length then digL k else k
def padK (k : List Int) : List Int := keyL k ++ List.replicate (64 - (keyL k).length) 0
def xK (k : List Int) (c : Nat) : List Int := (padK k).map fun z => ((z.toNat ^^^ c : Nat) : Int)
def mNew (k : List Int) : MS := ⟨wrS st0 (xK k 54), wrS st0 (xK k 92)⟩
def mWr (s : MS) (p : List Int) : MS := ⟨wrS s.i p, s.o⟩
def mSum (s : MS) : List Int := sumL (wrS s.o (sumL s.i))
def mkL (k p : List Int) : List Int := digL (xK k 92 ++ digL (xK k 54 ++ p))
def okM (s : MS) : Prop := okS s.i ∧ okS s.o
def isB (p : List Int) : Prop := isBytes p ∧ p.length ≤ 1000000000000000
def sp82 : Go.Vg.Spec := ⟨fun ds => ∃ k, ds = [.ints .u8 k] ∧ isB k, fun ds => stM (mNew (intsOf (ds.headD default))), true, [26]⟩
def sp83 : Go.Vg.Spec := ⟨fun ds => ∃ s p, ds = [stM s, .ints .u8 p] ∧ okM s ∧ isB p, fun ds => stM (mWr (ofM (ds.headD default)) (intsOf (ds.getD 1 default))), true, [125, 26]⟩
def sp84 : Go.Vg.Spec := ⟨fun ds => ∃ s, ds = [stM s] ∧ okM s, fun ds => d32 (mSum (ofM (ds.headD default))), true, [125]⟩
def sp79 : Go.Vg.Spec := ⟨fun ds => ∃ k p, ds = [.str k, .str p] ∧ isB k ∧ isBytes p ∧ p.length ≤ 500000000000000, fun ds => d32 (mkL (strOf (ds.headD default)) (strOf (ds.getD 1 default))), true, [9, 9]⟩
def c82 : Ctx := ⟨tab, lkS [(75, sp75), (76, sp76), (70, sp70)], [], []⟩
def c83 : Ctx := ⟨tab, lkS [(76, sp76)], [], []⟩
def c84 : Ctx := ⟨tab, lkS [(76, sp76), (77, sp77)], [], []⟩
def c79 : Ctx := ⟨tab, lkS [(71, sp71)], [], []⟩
def mixK (k : List Int) (c i : Nat) : List Int := (xK k c).take i ++ (padK k).drop i
def inv82 (k : List Int) : Nat → Option Inv
 | 8 => some ⟨Nat, fun i => [(17, .d (i64 i))], fun i => [(4, .fix (.arr .u8 64 (mixK k 54 i))), (5, .fix (.arr .u8 64 (mixK k 92 i)))], fun s => (slotN s 17).toNat, fun _ i => i ≤ 64, fun i => 64 - i⟩
 | _ => none
def inv79 (k : List Int) : Nat → Option Inv
 | 6 => some ⟨Nat, fun i => [(18, .d (i64 i)), (6, .d (.str ((xK k 54).take i))), (7, .d (.str ((xK k 92).take i)))], fun _ => [], fun s => (slotN s 18).toNat, fun _ i => i ≤ 64, fun i => 64 - i⟩
 | _ => none
set_option maxRecDepth 100000 in
theorem vc82  (k : List Int) (F : D)  :
    (owed c82 (inv82 k) Tryd.f82 [.ints .u8 k] F) = (
 (True ∧ (146 : Nat) ≠ (0 : Nat)) ∧
 True ∧
 True ∧
 True ∧
 match decide ((↑k.length : Int) > (64 : Int)) with
 | true =>
  True ∧
  (∃ (p : List Int), [D.ints IntKind.u8 k] = [D.ints IntKind.u8 p] ∧ isBytes p ∧ p.length ≤ (1000000000000000 : Nat)) ∧
  (True ∧ (32 : Nat) ≠ (0 : Nat)) ∧
  (Sk.arr (32 : Nat) = Sk.arr (32 : Nat) ∧ (32 : Nat) ≠ (0 : Nat) ∧ (32 : Nat) = (32 : Nat) ∧ false = false) ∧
  ((0 : Int) ≤ (0 : Int) ∧ (0 : Int) ≤ (↑(32 : Nat) : Int) ∧ (↑(32 : Nat) : Int) ≤ (↑(32 : Nat) : Int) ∧ (32 : Nat) = (32 : Nat) ∧ (1 : Nat) = (1 : Nat)) ∧
  True ∧
  (True ∧ (64 : Nat) ≠ (0 : Nat)) ∧
  (True ∧ (64 : Nat) ≠ (0 : Nat)) ∧
  ((0 : Int) ≤ (0 : Int) ∧ (0 : Int) ≤ (↑(64 : Nat) : Int) ∧ (↑(64 : Nat) : Int) ≤ (↑(64 : Nat) : Int) ∧ (64 : Nat) = (64 : Nat) ∧ (1 : Nat) = (1 : Nat)) ∧
  True ∧
  (IntKind.u8 = IntKind.u8 ∧ (1 : Nat) = (1 : Nat)) ∧
  ((64 : Nat) ≠ (0 : Nat) ∧ (64 : Nat) = (64 : Nat) ∧ true = true) ∧
  (Sk.arr (64 : Nat) = Sk.arr (64 : Nat) ∧ (64 : Nat) ≠ (0 : Nat) ∧ (64 : Nat) = (64 : Nat) ∧ false = false) ∧
  True ∧
  (((AV.d (D.val (Value.int IntKind.i64 (0 : Int))) = AV.d (D.val (Value.int IntKind.i64 (↑(Int.toNat (0 : Int)) : Int))) ∧ True) ∧
  (sm
  (some
  (Blk.fix
  (D.st
  [D.st
  [D.arr IntKind.u32 (8 : Nat) [(0 : Int), (0 : Int), (0 : Int), (0 : Int), (0 : Int), (0 : Int), (0 : Int), (0 : Int)], D.val (Value.int IntKind.u64 (0 : Int)),
  D.arr IntKind.u8 (64 : Nat)
  (List.replicate (64 : Nat) (0 : Int))],
  D.st
  [D.arr IntKind.u32 (8 : Nat) [(0 : Int), (0 : Int), (0 : Int), (0 : Int), (0 : Int), (0 : Int), (0 : Int), (0 : Int)], D.val (Value.int IntKind.u64 (0 : Int)),
  D.arr IntKind.u8 (64 : Nat)
  (List.replicate (64 : Nat) (0 : Int))]]))) ∧
  sm (some (Blk.fix (D.arr IntKind.u8 (32 : Nat) (digL k)))) ∧
  some
  (Blk.fix
  (D.arr IntKind.u8 (64 : Nat)
  (List.take ((List.take ((↑(32 : Nat) : Int).toNat - (0 : Nat)) (List.drop (0 : Nat) (digL k))).length.min ((↑(64 : Nat) : Int).toNat - (0 : Nat))) (List.take ((↑(32 : Nat) : Int).toNat - (0 : Nat)) (List.drop (0 : Nat) (digL k))) ++
  List.drop ((0 : Nat) + (List.take ((↑(32 : Nat) : Int).toNat - (0 : Nat)) (List.drop (0 : Nat) (digL k))).length.min ((↑(64 : Nat) : Int).toNat - (0 : Nat)))
  (List.replicate (64 : Nat) (0 : Int))))) =
  some (Blk.fix (D.arr IntKind.u8 (64 : Nat) (mixK k (54 : Nat) (Int.toNat (0 : Int))))) ∧
  some
  (Blk.fix
  (D.arr IntKind.u8 (64 : Nat)
  (List.take ((List.take ((↑(32 : Nat) : Int).toNat - (0 : Nat)) (List.drop (0 : Nat) (digL k))).length.min ((↑(64 : Nat) : Int).toNat - (0 : Nat))) (List.take ((↑(32 : Nat) : Int).toNat - (0 : Nat)) (List.drop (0 : Nat) (digL k))) ++
  List.drop ((0 : Nat) + (List.take ((↑(32 : Nat) : Int).toNat - (0 : Nat)) (List.drop (0 : Nat) (digL k))).length.min ((↑(64 : Nat) : Int).toNat - (0 : Nat)))
  (List.replicate (64 : Nat) (0 : Int))))) =
  some (Blk.fix (D.arr IntKind.u8 (64 : Nat) (mixK k (92 : Nat) (Int.toNat (0 : Int))))) ∧
  True) ∧
  true = true) ∧
  Int.toNat (0 : Int) ≤ (64 : Nat)) ∧
  ∀ (x : Nat),
  x ≤ (64 : Nat) →
  true = true ∧
  True ∧
  match decide ((↑x : Int) < (64 : Int)) with
  | true =>
   True ∧
   True ∧
   True ∧
   ((0 : Int) ≤ (↑x : Int) ∧ (↑x : Int) < (↑(64 : Nat) : Int) ∧ (64 : Nat) = (64 : Nat) ∧ (1 : Nat) = (1 : Nat)) ∧
   ((1 : Nat) ≠ (0 : Nat) ∧ (1 : Nat) = (1 : Nat) ∧ false = false) ∧
   True ∧
   ((0 : Int) ≤ (↑x : Int) ∧ (↑x : Int) < (↑(64 : Nat) : Int) ∧ (64 : Nat) = (64 : Nat) ∧ (1 : Nat) = (1 : Nat)) ∧
   (((↑x : Int).toNat < (64 : Nat) ∧ ([] : List Nat) = [] ∧ true = true) ∧ (1 : Nat) ≠ (0 : Nat) ∧ (1 : Nat) = (1 : Nat) ∧ false = false) ∧
   True ∧
   ((0 : Int) ≤ (↑x : Int) ∧ (↑x : Int) < (↑(64 : Nat) : Int) ∧ (64 : Nat) = (64 : Nat) ∧ (1 : Nat) = (1 : Nat)) ∧
   ((1 : Nat) ≠ (0 : Nat) ∧ (1 : Nat) = (1 : Nat) ∧ false = false) ∧
   True ∧
   ((0 : Int) ≤ (↑x : Int) ∧ (↑x : Int) < (↑(64 : Nat) : Int) ∧ (64 : Nat) = (64 : Nat) ∧ (1 : Nat) = (1 : Nat)) ∧
   (((↑x : Int).toNat < (64 : Nat) ∧ ([] : List Nat) = [] ∧ true = true) ∧ (1 : Nat) ≠ (0 : Nat) ∧ (1 : Nat) = (1 : Nat) ∧ false = false) ∧
   True ∧
   True ∧
   ((AV.d (D.val (Value.int IntKind.i64 (IntKind.i64.wrap ((↑x : Int) + (1 : Int))))) = AV.d (D.val (Value.int IntKind.i64 (↑(IntKind.i64.wrap ((↑x : Int) + (1 : Int))).toNat : Int))) ∧ True) ∧
   (sm
   (some
   (Blk.fix
   (D.st
   [D.st
   [D.arr IntKind.u32 (8 : Nat) [(0 : Int), (0 : Int), (0 : Int), (0 : Int), (0 : Int), (0 : Int), (0 : Int), (0 : Int)], D.val (Value.int IntKind.u64 (0 : Int)),
   D.arr IntKind.u8 (64 : Nat)
   (List.replicate (64 : Nat) (0 : Int))],
   D.st
   [D.arr IntKind.u32 (8 : Nat) [(0 : Int), (0 : Int), (0 : Int), (0 : Int), (0 : Int), (0 : Int), (0 : Int), (0 : Int)], D.val (Value.int IntKind.u64 (0 : Int)),
   D.arr IntKind.u8 (64 : Nat)
   (List.replicate (64 : Nat) (0 : Int))]]))) ∧
   sm (some (Blk.fix (D.arr IntKind.u8 (32 : Nat) (digL k)))) ∧
   some (Blk.fix (D.arr IntKind.u8 (64 : Nat) ((mixK k (54 : Nat) x).set (↑x : Int).toNat (ixor IntKind.u8 ((mixK k (54 : Nat) x).getD (↑x : Int).toNat (0 : Int)) (54 : Int))))) = some (Blk.fix (D.arr IntKind.u8 (64 : Nat) (mixK k (54 : Nat) (IntKind.i64.wrap ((↑x : Int) + (1 : Int))).toNat))) ∧
   some (Blk.fix (D.arr IntKind.u8 (64 : Nat) ((mixK k (92 : Nat) x).set (↑x : Int).toNat (ixor IntKind.u8 ((mixK k (92 : Nat) x).getD (↑x : Int).toNat (0 : Int)) (92 : Int))))) = some (Blk.fix (D.arr IntKind.u8 (64 : Nat) (mixK k (92 : Nat) (IntKind.i64.wrap ((↑x : Int) + (1 : Int))).toNat))) ∧ True) ∧
   true = true) ∧
   (IntKind.i64.wrap ((↑x : Int) + (1 : Int))).toNat ≤ (64 : Nat) ∧ (64 : Nat) - (IntKind.i64.wrap ((↑x : Int) + (1 : Int))).toNat < (64 : Nat) - x
  | false =>
   (0 : Nat) = (0 : Nat) ∧
   ((0 : Int) ≤ (0 : Int) ∧ (0 : Int) ≤ (↑(64 : Nat) : Int) ∧ (↑(64 : Nat) : Int) ≤ (↑(64 : Nat) : Int) ∧ (64 : Nat) = (64 : Nat) ∧ (1 : Nat) = (1 : Nat)) ∧
   (∃ (s : HS),
   ∃ (p : List Int),
   [D.st [D.arr IntKind.u32 (8 : Nat) st0.h.l, D.val (Value.int IntKind.u64 (↑st0.n : Int)), D.arr IntKind.u8 (64 : Nat) st0.l], D.ints IntKind.u8 (List.take ((↑(64 : Nat) : Int).toNat - (0 : Nat)) (List.drop (0 : Nat) (mixK k (54 : Nat) x)))] =
   [D.st [D.arr IntKind.u32 (8 : Nat) s.h.l, D.val (Value.int IntKind.u64 (↑s.n : Int)), D.arr IntKind.u8 (64 : Nat) s.l], D.ints IntKind.u8 p] ∧
   okS s ∧ isBytes p ∧ p.length ≤ (1000000000000000 : Nat)) ∧
   (0 : Nat) = (0 : Nat) ∧
   ((0 : Int) ≤ (0 : Int) ∧ (0 : Int) ≤ (↑(64 : Nat) : Int) ∧ (↑(64 : Nat) : Int) ≤ (↑(64 : Nat) : Int) ∧ (64 : Nat) = (64 : Nat) ∧ (1 : Nat) = (1 : Nat)) ∧
   (∃ (s : HS),
   ∃ (p : List Int),
   [D.st [D.arr IntKind.u32 (8 : Nat) st0.h.l, D.val (Value.int IntKind.u64 (↑st0.n : Int)), D.arr IntKind.u8 (64 : Nat) st0.l], D.ints IntKind.u8 (List.take ((↑(64 : Nat) : Int).toNat - (0 : Nat)) (List.drop (0 : Nat) (mixK k (92 : Nat) x)))] =
   [D.st [D.arr IntKind.u32 (8 : Nat) s.h.l, D.val (Value.int IntKind.u64 (↑s.n : Int)), D.arr IntKind.u8 (64 : Nat) s.l], D.ints IntKind.u8 p] ∧
   okS s ∧ isBytes p ∧ p.length ≤ (1000000000000000 : Nat)) ∧
   (false = false ∧ ((0 : Nat) < (2 : Nat) ∧ Sk.st [Sk.arr (8 : Nat), Sk.one, Sk.arr (64 : Nat)] = Sk.st [Sk.arr (8 : Nat), Sk.one, Sk.arr (64 : Nat)]) ∧ false = false ∧ ((1 : Nat) < (2 : Nat) ∧ Sk.st [Sk.arr (8 : Nat), Sk.one, Sk.arr (64 : Nat)] = Sk.st [Sk.arr (8 : Nat), Sk.one, Sk.arr (64 : Nat)]) ∧ True) ∧
   (Sk.st [Sk.st [Sk.arr (8 : Nat), Sk.one, Sk.arr (64 : Nat)], Sk.st [Sk.arr (8 : Nat), Sk.one, Sk.arr (64 : Nat)]] = Sk.st [Sk.st [Sk.arr (8 : Nat), Sk.one, Sk.arr (64 : Nat)], Sk.st [Sk.arr (8 : Nat), Sk.one, Sk.arr (64 : Nat)]] ∧ (146 : Nat) ≠ (0 : Nat) ∧ (146 : Nat) = (146 : Nat) ∧ false = false) ∧
   (((146 : Nat) ≠ (0 : Nat) ∧ (146 : Nat) = (146 : Nat) ∧ true = true) ∧ True) ∧
   D.st
   [D.st
   [D.arr IntKind.u32 (8 : Nat) (wrS (ofS (D.st [D.arr IntKind.u32 (8 : Nat) st0.h.l, D.val (Value.int IntKind.u64 (↑st0.n : Int)), D.arr IntKind.u8 (64 : Nat) st0.l])) (List.take ((↑(64 : Nat) : Int).toNat - (0 : Nat)) (List.drop (0 : Nat) (mixK k (54 : Nat) x)))).h.l,
   D.val (Value.int IntKind.u64 (↑(wrS (ofS (D.st [D.arr IntKind.u32 (8 : Nat) st0.h.l, D.val (Value.int IntKind.u64 (↑st0.n : Int)), D.arr IntKind.u8 (64 : Nat) st0.l])) (List.take ((↑(64 : Nat) : Int).toNat - (0 : Nat)) (List.drop (0 : Nat) (mixK k (54 : Nat) x)))).n : Int)),
   D.arr IntKind.u8 (64 : Nat) (wrS (ofS (D.st [D.arr IntKind.u32 (8 : Nat) st0.h.l, D.val (Value.int IntKind.u64 (↑st0.n : Int)), D.arr IntKind.u8 (64 : Nat) st0.l])) (List.take ((↑(64 : Nat) : Int).toNat - (0 : Nat)) (List.drop (0 : Nat) (mixK k (54 : Nat) x)))).l],
   D.st
   [D.arr IntKind.u32 (8 : Nat) (wrS (ofS (D.st [D.arr IntKind.u32 (8 : Nat) st0.h.l, D.val (Value.int IntKind.u64 (↑st0.n : Int)), D.arr IntKind.u8 (64 : Nat) st0.l])) (List.take ((↑(64 : Nat) : Int).toNat - (0 : Nat)) (List.drop (0 : Nat) (mixK k (92 : Nat) x)))).h.l,
   D.val (Value.int IntKind.u64 (↑(wrS (ofS (D.st [D.arr IntKind.u32 (8 : Nat) st0.h.l, D.val (Value.int IntKind.u64 (↑st0.n : Int)), D.arr IntKind.u8 (64 : Nat) st0.l])) (List.take ((↑(64 : Nat) : Int).toNat - (0 : Nat)) (List.drop (0 : Nat) (mixK k (92 : Nat) x)))).n : Int)),
   D.arr IntKind.u8 (64 : Nat) (wrS (ofS (D.st [D.arr IntKind.u32 (8 : Nat) st0.h.l, D.val (Value.int IntKind.u64 (↑st0.n : Int)), D.arr IntKind.u8 (64 : Nat) st0.l])) (List.take ((↑(64 : Nat) : Int).toNat - (0 : Nat)) (List.drop (0 : Nat) (mixK k (92 : Nat) x)))).l]] =
   F
 | false =>
  (True ∧ (64 : Nat) ≠ (0 : Nat)) ∧
  (True ∧ (64 : Nat) ≠ (0 : Nat)) ∧
  ((0 : Int) ≤ (0 : Int) ∧ (0 : Int) ≤ (↑(64 : Nat) : Int) ∧ (↑(64 : Nat) : Int) ≤ (↑(64 : Nat) : Int) ∧ (64 : Nat) = (64 : Nat) ∧ (1 : Nat) = (1 : Nat)) ∧
  True ∧
  (IntKind.u8 = IntKind.u8 ∧ (1 : Nat) = (1 : Nat)) ∧
  ((64 : Nat) ≠ (0 : Nat) ∧ (64 : Nat) = (64 : Nat) ∧ true = true) ∧
  (Sk.arr (64 : Nat) = Sk.arr (64 : Nat) ∧ (64 : Nat) ≠ (0 : Nat) ∧ (64 : Nat) = (64 : Nat) ∧ false = false) ∧
  True ∧
  (((AV.d (D.val (Value.int IntKind.i64 (0 : Int))) = AV.d (D.val (Value.int IntKind.i64 (↑(Int.toNat (0 : Int)) : Int))) ∧ True) ∧
  (sm
  (some
  (Blk.fix
  (D.st
  [D.st
  [D.arr IntKind.u32 (8 : Nat) [(0 : Int), (0 : Int), (0 : Int), (0 : Int), (0 : Int), (0 : Int), (0 : Int), (0 : Int)], D.val (Value.int IntKind.u64 (0 : Int)),
  D.arr IntKind.u8 (64 : Nat)
  (List.replicate (64 : Nat) (0 : Int))],
  D.st
  [D.arr IntKind.u32 (8 : Nat) [(0 : Int), (0 : Int), (0 : Int), (0 : Int), (0 : Int), (0 : Int), (0 : Int), (0 : Int)], D.val (Value.int IntKind.u64 (0 : Int)),
  D.arr IntKind.u8 (64 : Nat)
  (List.replicate (64 : Nat) (0 : Int))]]))) ∧
  some
  (Blk.fix
  (D.arr IntKind.u8 (64 : Nat)
  (List.take (k.length.min ((↑(64 : Nat) : Int).toNat - (0 : Nat))) k ++
  List.drop ((0 : Nat) + k.length.min ((↑(64 : Nat) : Int).toNat - (0 : Nat)))
  (List.replicate (64 : Nat) (0 : Int))))) =
  some (Blk.fix (D.arr IntKind.u8 (64 : Nat) (mixK k (54 : Nat) (Int.toNat (0 : Int))))) ∧
  some
  (Blk.fix
  (D.arr IntKind.u8 (64 : Nat)
  (List.take (k.length.min ((↑(64 : Nat) : Int).toNat - (0 : Nat))) k ++
  List.drop ((0 : Nat) + k.length.min ((↑(64 : Nat) : Int).toNat - (0 : Nat)))
  (List.replicate (64 : Nat) (0 : Int))))) =
  some (Blk.fix (D.arr IntKind.u8 (64 : Nat) (mixK k (92 : Nat) (Int.toNat (0 : Int))))) ∧
  True) ∧
  true = true) ∧
  Int.toNat (0 : Int) ≤ (64 : Nat)) ∧
  ∀ (x : Nat),
  x ≤ (64 : Nat) →
  true = true ∧
  True ∧
  match decide ((↑x : Int) < (64 : Int)) with
  | true =>
   True ∧
   True ∧
   True ∧
   ((0 : Int) ≤ (↑x : Int) ∧ (↑x : Int) < (↑(64 : Nat) : Int) ∧ (64 : Nat) = (64 : Nat) ∧ (1 : Nat) = (1 : Nat)) ∧
   ((1 : Nat) ≠ (0 : Nat) ∧ (1 : Nat) = (1 : Nat) ∧ false = false) ∧
   True ∧
   ((0 : Int) ≤ (↑x : Int) ∧ (↑x : Int) < (↑(64 : Nat) : Int) ∧ (64 : Nat) = (64 : Nat) ∧ (1 : Nat) = (1 : Nat)) ∧
   (((↑x : Int).toNat < (64 : Nat) ∧ ([] : List Nat) = [] ∧ true = true) ∧ (1 : Nat) ≠ (0 : Nat) ∧ (1 : Nat) = (1 : Nat) ∧ false = false) ∧
   True ∧
   ((0 : Int) ≤ (↑x : Int) ∧ (↑x : Int) < (↑(64 : Nat) : Int) ∧ (64 : Nat) = (64 : Nat) ∧ (1 : Nat) = (1 : Nat)) ∧
   ((1 : Nat) ≠ (0 : Nat) ∧ (1 : Nat) = (1 : Nat) ∧ false = false) ∧
   True ∧
   ((0 : Int) ≤ (↑x : Int) ∧ (↑x : Int) < (↑(64 : Nat) : Int) ∧ (64 : Nat) = (64 : Nat) ∧ (1 : Nat) = (1 : Nat)) ∧
   (((↑x : Int).toNat < (64 : Nat) ∧ ([] : List Nat) = [] ∧ true = true) ∧ (1 : Nat) ≠ (0 : Nat) ∧ (1 : Nat) = (1 : Nat) ∧ false = false) ∧
   True ∧
   True ∧
   ((AV.d (D.val (Value.int IntKind.i64 (IntKind.i64.wrap ((↑x : Int) + (1 : Int))))) = AV.d (D.val (Value.int IntKind.i64 (↑(IntKind.i64.wrap ((↑x : Int) + (1 : Int))).toNat : Int))) ∧ True) ∧
   (sm
   (some
   (Blk.fix
   (D.st
   [D.st
   [D.arr IntKind.u32 (8 : Nat) [(0 : Int), (0 : Int), (0 : Int), (0 : Int), (0 : Int), (0 : Int), (0 : Int), (0 : Int)], D.val (Value.int IntKind.u64 (0 : Int)),
   D.arr IntKind.u8 (64 : Nat)
   (List.replicate (64 : Nat) (0 : Int))],
   D.st
   [D.arr IntKind.u32 (8 : Nat) [(0 : Int), (0 : Int), (0 : Int), (0 : Int), (0 : Int), (0 : Int), (0 : Int), (0 : Int)], D.val (Value.int IntKind.u64 (0 : Int)),
   D.arr IntKind.u8 (64 : Nat)
   (List.replicate (64 : Nat) (0 : Int))]]))) ∧
   some (Blk.fix (D.arr IntKind.u8 (64 : Nat) ((mixK k (54 : Nat) x).set (↑x : Int).toNat (ixor IntKind.u8 ((mixK k (54 : Nat) x).getD (↑x : Int).toNat (0 : Int)) (54 : Int))))) = some (Blk.fix (D.arr IntKind.u8 (64 : Nat) (mixK k (54 : Nat) (IntKind.i64.wrap ((↑x : Int) + (1 : Int))).toNat))) ∧
   some (Blk.fix (D.arr IntKind.u8 (64 : Nat) ((mixK k (92 : Nat) x).set (↑x : Int).toNat (ixor IntKind.u8 ((mixK k (92 : Nat) x).getD (↑x : Int).toNat (0 : Int)) (92 : Int))))) = some (Blk.fix (D.arr IntKind.u8 (64 : Nat) (mixK k (92 : Nat) (IntKind.i64.wrap ((↑x : Int) + (1 : Int))).toNat))) ∧ True) ∧
   true = true) ∧
   (IntKind.i64.wrap ((↑x : Int) + (1 : Int))).toNat ≤ (64 : Nat) ∧ (64 : Nat) - (IntKind.i64.wrap ((↑x : Int) + (1 : Int))).toNat < (64 : Nat) - x
  | false =>
   (0 : Nat) = (0 : Nat) ∧
   ((0 : Int) ≤ (0 : Int) ∧ (0 : Int) ≤ (↑(64 : Nat) : Int) ∧ (↑(64 : Nat) : Int) ≤ (↑(64 : Nat) : Int) ∧ (64 : Nat) = (64 : Nat) ∧ (1 : Nat) = (1 : Nat)) ∧
   (∃ (s : HS),
   ∃ (p : List Int),
   [D.st [D.arr IntKind.u32 (8 : Nat) st0.h.l, D.val (Value.int IntKind.u64 (↑st0.n : Int)), D.arr IntKind.u8 (64 : Nat) st0.l], D.ints IntKind.u8 (List.take ((↑(64 : Nat) : Int).toNat - (0 : Nat)) (List.drop (0 : Nat) (mixK k (54 : Nat) x)))] =
   [D.st [D.arr IntKind.u32 (8 : Nat) s.h.l, D.val (Value.int IntKind.u64 (↑s.n : Int)), D.arr IntKind.u8 (64 : Nat) s.l], D.ints IntKind.u8 p] ∧
   okS s ∧ isBytes p ∧ p.length ≤ (1000000000000000 : Nat)) ∧
   (0 : Nat) = (0 : Nat) ∧
   ((0 : Int) ≤ (0 : Int) ∧ (0 : Int) ≤ (↑(64 : Nat) : Int) ∧ (↑(64 : Nat) : Int) ≤ (↑(64 : Nat) : Int) ∧ (64 : Nat) = (64 : Nat) ∧ (1 : Nat) = (1 : Nat)) ∧
   (∃ (s : HS),
   ∃ (p : List Int),
   [D.st [D.arr IntKind.u32 (8 : Nat) st0.h.l, D.val (Value.int IntKind.u64 (↑st0.n : Int)), D.arr IntKind.u8 (64 : Nat) st0.l], D.ints IntKind.u8 (List.take ((↑(64 : Nat) : Int).toNat - (0 : Nat)) (List.drop (0 : Nat) (mixK k (92 : Nat) x)))] =
   [D.st [D.arr IntKind.u32 (8 : Nat) s.h.l, D.val (Value.int IntKind.u64 (↑s.n : Int)), D.arr IntKind.u8 (64 : Nat) s.l], D.ints IntKind.u8 p] ∧
   okS s ∧ isBytes p ∧ p.length ≤ (1000000000000000 : Nat)) ∧
   (false = false ∧ ((0 : Nat) < (2 : Nat) ∧ Sk.st [Sk.arr (8 : Nat), Sk.one, Sk.arr (64 : Nat)] = Sk.st [Sk.arr (8 : Nat), Sk.one, Sk.arr (64 : Nat)]) ∧ false = false ∧ ((1 : Nat) < (2 : Nat) ∧ Sk.st [Sk.arr (8 : Nat), Sk.one, Sk.arr (64 : Nat)] = Sk.st [Sk.arr (8 : Nat), Sk.one, Sk.arr (64 : Nat)]) ∧ True) ∧
   (Sk.st [Sk.st [Sk.arr (8 : Nat), Sk.one, Sk.arr (64 : Nat)], Sk.st [Sk.arr (8 : Nat), Sk.one, Sk.arr (64 : Nat)]] = Sk.st [Sk.st [Sk.arr (8 : Nat), Sk.one, Sk.arr (64 : Nat)], Sk.st [Sk.arr (8 : Nat), Sk.one, Sk.arr (64 : Nat)]] ∧ (146 : Nat) ≠ (0 : Nat) ∧ (146 : Nat) = (146 : Nat) ∧ false = false) ∧
   (((146 : Nat) ≠ (0 : Nat) ∧ (146 : Nat) = (146 : Nat) ∧ true = true) ∧ True) ∧
   D.st
   [D.st
   [D.arr IntKind.u32 (8 : Nat) (wrS (ofS (D.st [D.arr IntKind.u32 (8 : Nat) st0.h.l, D.val (Value.int IntKind.u64 (↑st0.n : Int)), D.arr IntKind.u8 (64 : Nat) st0.l])) (List.take ((↑(64 : Nat) : Int).toNat - (0 : Nat)) (List.drop (0 : Nat) (mixK k (54 : Nat) x)))).h.l,
   D.val (Value.int IntKind.u64 (↑(wrS (ofS (D.st [D.arr IntKind.u32 (8 : Nat) st0.h.l, D.val (Value.int IntKind.u64 (↑st0.n : Int)), D.arr IntKind.u8 (64 : Nat) st0.l])) (List.take ((↑(64 : Nat) : Int).toNat - (0 : Nat)) (List.drop (0 : Nat) (mixK k (54 : Nat) x)))).n : Int)),
   D.arr IntKind.u8 (64 : Nat) (wrS (ofS (D.st [D.arr IntKind.u32 (8 : Nat) st0.h.l, D.val (Value.int IntKind.u64 (↑st0.n : Int)), D.arr IntKind.u8 (64 : Nat) st0.l])) (List.take ((↑(64 : Nat) : Int).toNat - (0 : Nat)) (List.drop (0 : Nat) (mixK k (54 : Nat) x)))).l],
   D.st
   [D.arr IntKind.u32 (8 : Nat) (wrS (ofS (D.st [D.arr IntKind.u32 (8 : Nat) st0.h.l, D.val (Value.int IntKind.u64 (↑st0.n : Int)), D.arr IntKind.u8 (64 : Nat) st0.l])) (List.take ((↑(64 : Nat) : Int).toNat - (0 : Nat)) (List.drop (0 : Nat) (mixK k (92 : Nat) x)))).h.l,
   D.val (Value.int IntKind.u64 (↑(wrS (ofS (D.st [D.arr IntKind.u32 (8 : Nat) st0.h.l, D.val (Value.int IntKind.u64 (↑st0.n : Int)), D.arr IntKind.u8 (64 : Nat) st0.l])) (List.take ((↑(64 : Nat) : Int).toNat - (0 : Nat)) (List.drop (0 : Nat) (mixK k (92 : Nat) x)))).n : Int)),
   D.arr IntKind.u8 (64 : Nat) (wrS (ofS (D.st [D.arr IntKind.u32 (8 : Nat) st0.h.l, D.val (Value.int IntKind.u64 (↑st0.n : Int)), D.arr IntKind.u8 (64 : Nat) st0.l])) (List.take ((↑(64 : Nat) : Int).toNat - (0 : Nat)) (List.drop (0 : Nat) (mixK k (92 : Nat) x)))).l]] =
   F) := by kernel_rfl
set_option maxRecDepth 100000 in
theorem vc83  (s : MS) (p : List Int) (F : D)  :
    (owed c83 (fun _ => none) Tryd.f83 [stM s, .ints .u8 p] F) = (
 (True ∧ false = false) ∧
 (True ∧ (146 : Nat) ≠ (0 : Nat)) ∧
 (Sk.st [Sk.st [Sk.arr (8 : Nat), Sk.one, Sk.arr (64 : Nat)], Sk.st [Sk.arr (8 : Nat), Sk.one, Sk.arr (64 : Nat)]] = Sk.st [Sk.st [Sk.arr (8 : Nat), Sk.one, Sk.arr (64 : Nat)], Sk.st [Sk.arr (8 : Nat), Sk.one, Sk.arr (64 : Nat)]] ∧ (0 : Nat) < (2 : Nat)) ∧
 ((73 : Nat) ≠ (0 : Nat) ∧ (73 : Nat) = (73 : Nat) ∧ true = true) ∧
 True ∧
 (∃ (s_1 : HS),
 ∃ (p_1 : List Int), [D.st [D.arr IntKind.u32 (8 : Nat) s.i.h.l, D.val (Value.int IntKind.u64 (↑s.i.n : Int)), D.arr IntKind.u8 (64 : Nat) s.i.l], D.ints IntKind.u8 p] = [D.st [D.arr IntKind.u32 (8 : Nat) s_1.h.l, D.val (Value.int IntKind.u64 (↑s_1.n : Int)), D.arr IntKind.u8 (64 : Nat) s_1.l], D.ints IntKind.u8 p_1] ∧ okS s_1 ∧ isBytes p_1 ∧ p_1.length ≤ (1000000000000000 : Nat)) ∧
 (Sk.st [Sk.st [Sk.arr (8 : Nat), Sk.one, Sk.arr (64 : Nat)], Sk.st [Sk.arr (8 : Nat), Sk.one, Sk.arr (64 : Nat)]] = Sk.st [Sk.st [Sk.arr (8 : Nat), Sk.one, Sk.arr (64 : Nat)], Sk.st [Sk.arr (8 : Nat), Sk.one, Sk.arr (64 : Nat)]] ∧ (0 : Nat) < (2 : Nat)) ∧
 (((0 : Nat) < (2 : Nat) ∧ Sk.st [Sk.arr (8 : Nat), Sk.one, Sk.arr (64 : Nat)] = Sk.st [Sk.arr (8 : Nat), Sk.one, Sk.arr (64 : Nat)]) ∧ (73 : Nat) ≠ (0 : Nat) ∧ (73 : Nat) = (73 : Nat) ∧ false = false) ∧
 ((146 : Nat) ≠ (0 : Nat) ∧ (146 : Nat) = (146 : Nat) ∧ true = true) ∧
 (Sk.st [Sk.st [Sk.arr (8 : Nat), Sk.one, Sk.arr (64 : Nat)], Sk.st [Sk.arr (8 : Nat), Sk.one, Sk.arr (64 : Nat)]] = Sk.st [Sk.st [Sk.arr (8 : Nat), Sk.one, Sk.arr (64 : Nat)], Sk.st [Sk.arr (8 : Nat), Sk.one, Sk.arr (64 : Nat)]] ∧ (146 : Nat) ≠ (0 : Nat) ∧ (146 : Nat) = (146 : Nat) ∧ false = false) ∧
 (((146 : Nat) ≠ (0 : Nat) ∧ (146 : Nat) = (146 : Nat) ∧ true = true) ∧ True) ∧
 D.st
 [D.st
 [D.arr IntKind.u32 (8 : Nat) (wrS (ofS (D.st [D.arr IntKind.u32 (8 : Nat) s.i.h.l, D.val (Value.int IntKind.u64 (↑s.i.n : Int)), D.arr IntKind.u8 (64 : Nat) s.i.l])) p).h.l, D.val (Value.int IntKind.u64 (↑(wrS (ofS (D.st [D.arr IntKind.u32 (8 : Nat) s.i.h.l, D.val (Value.int IntKind.u64 (↑s.i.n : Int)), D.arr IntKind.u8 (64 : Nat) s.i.l])) p).n : Int)),
 D.arr IntKind.u8 (64 : Nat) (wrS (ofS (D.st [D.arr IntKind.u32 (8 : Nat) s.i.h.l, D.val (Value.int IntKind.u64 (↑s.i.n : Int)), D.arr IntKind.u8 (64 : Nat) s.i.l])) p).l],
 D.st [D.arr IntKind.u32 (8 : Nat) s.o.h.l, D.val (Value.int IntKind.u64 (↑s.o.n : Int)), D.arr IntKind.u8 (64 : Nat) s.o.l]] =
 F) := by kernel_rfl
set_option maxRecDepth 100000 in
theorem vc84  (s : MS) (F : D)  :
    (owed c84 (fun _ => none) Tryd.f84 [stM s] F) = (
 (True ∧ false = false) ∧
 (True ∧ (32 : Nat) ≠ (0 : Nat)) ∧
 (Sk.st [Sk.st [Sk.arr (8 : Nat), Sk.one, Sk.arr (64 : Nat)], Sk.st [Sk.arr (8 : Nat), Sk.one, Sk.arr (64 : Nat)]] = Sk.st [Sk.st [Sk.arr (8 : Nat), Sk.one, Sk.arr (64 : Nat)], Sk.st [Sk.arr (8 : Nat), Sk.one, Sk.arr (64 : Nat)]] ∧ (0 : Nat) < (2 : Nat)) ∧
 ((73 : Nat) ≠ (0 : Nat) ∧ (73 : Nat) = (73 : Nat) ∧ true = true) ∧
 (∃ (s_1 : HS), [D.st [D.arr IntKind.u32 (8 : Nat) s.i.h.l, D.val (Value.int IntKind.u64 (↑s.i.n : Int)), D.arr IntKind.u8 (64 : Nat) s.i.l]] = [D.st [D.arr IntKind.u32 (8 : Nat) s_1.h.l, D.val (Value.int IntKind.u64 (↑s_1.n : Int)), D.arr IntKind.u8 (64 : Nat) s_1.l]] ∧ okS s_1) ∧
 (True ∧ (32 : Nat) ≠ (0 : Nat)) ∧
 (Sk.arr (32 : Nat) = Sk.arr (32 : Nat) ∧ (32 : Nat) ≠ (0 : Nat) ∧ (32 : Nat) = (32 : Nat) ∧ false = false) ∧
 (Sk.st [Sk.st [Sk.arr (8 : Nat), Sk.one, Sk.arr (64 : Nat)], Sk.st [Sk.arr (8 : Nat), Sk.one, Sk.arr (64 : Nat)]] = Sk.st [Sk.st [Sk.arr (8 : Nat), Sk.one, Sk.arr (64 : Nat)], Sk.st [Sk.arr (8 : Nat), Sk.one, Sk.arr (64 : Nat)]] ∧ (1 : Nat) < (2 : Nat)) ∧
 ((73 : Nat) ≠ (0 : Nat) ∧ (73 : Nat) = (73 : Nat) ∧ true = true) ∧
 ((0 : Int) ≤ (0 : Int) ∧ (0 : Int) ≤ (↑(32 : Nat) : Int) ∧ (↑(32 : Nat) : Int) ≤ (↑(32 : Nat) : Int) ∧ (32 : Nat) = (32 : Nat) ∧ (1 : Nat) = (1 : Nat)) ∧
 (∃ (s_1 : HS),
 ∃ (p : List Int),
 [D.st [D.arr IntKind.u32 (8 : Nat) s.o.h.l, D.val (Value.int IntKind.u64 (↑s.o.n : Int)), D.arr IntKind.u8 (64 : Nat) s.o.l], D.ints IntKind.u8 (List.take ((↑(32 : Nat) : Int).toNat - (0 : Nat)) (List.drop (0 : Nat) (sumL (ofS (D.st [D.arr IntKind.u32 (8 : Nat) s.i.h.l, D.val (Value.int IntKind.u64 (↑s.i.n : Int)), D.arr IntKind.u8 (64 : Nat) s.i.l])))))] =
 [D.st [D.arr IntKind.u32 (8 : Nat) s_1.h.l, D.val (Value.int IntKind.u64 (↑s_1.n : Int)), D.arr IntKind.u8 (64 : Nat) s_1.l], D.ints IntKind.u8 p] ∧
 okS s_1 ∧ isBytes p ∧ p.length ≤ (1000000000000000 : Nat)) ∧
 (∃ (s_1 : HS),
 [D.st
 [D.arr IntKind.u32 (8 : Nat)
 (wrS (ofS (D.st [D.arr IntKind.u32 (8 : Nat) s.o.h.l, D.val (Value.int IntKind.u64 (↑s.o.n : Int)), D.arr IntKind.u8 (64 : Nat) s.o.l])) (List.take ((↑(32 : Nat) : Int).toNat - (0 : Nat)) (List.drop (0 : Nat) (sumL (ofS (D.st [D.arr IntKind.u32 (8 : Nat) s.i.h.l, D.val (Value.int IntKind.u64 (↑s.i.n : Int)), D.arr IntKind.u8 (64 : Nat) s.i.l])))))).h.l,
 D.val
 (Value.int IntKind.u64
 (↑(wrS (ofS (D.st [D.arr IntKind.u32 (8 : Nat) s.o.h.l, D.val (Value.int IntKind.u64 (↑s.o.n : Int)), D.arr IntKind.u8 (64 : Nat) s.o.l])) (List.take ((↑(32 : Nat) : Int).toNat - (0 : Nat)) (List.drop (0 : Nat) (sumL (ofS (D.st [D.arr IntKind.u32 (8 : Nat) s.i.h.l, D.val (Value.int IntKind.u64 (↑s.i.n : Int)), D.arr IntKind.u8 (64 : Nat) s.i.l])))))).n :
 Int)),
 D.arr IntKind.u8 (64 : Nat)
 (wrS (ofS (D.st [D.arr IntKind.u32 (8 : Nat) s.o.h.l, D.val (Value.int IntKind.u64 (↑s.o.n : Int)), D.arr IntKind.u8 (64 : Nat) s.o.l])) (List.take ((↑(32 : Nat) : Int).toNat - (0 : Nat)) (List.drop (0 : Nat) (sumL (ofS (D.st [D.arr IntKind.u32 (8 : Nat) s.i.h.l, D.val (Value.int IntKind.u64 (↑s.i.n : Int)), D.arr IntKind.u8 (64 : Nat) s.i.l])))))).l]] =
 [D.st [D.arr IntKind.u32 (8 : Nat) s_1.h.l, D.val (Value.int IntKind.u64 (↑s_1.n : Int)), D.arr IntKind.u8 (64 : Nat) s_1.l]] ∧
 okS s_1) ∧
 (Sk.arr (32 : Nat) = Sk.arr (32 : Nat) ∧ (32 : Nat) ≠ (0 : Nat) ∧ (32 : Nat) = (32 : Nat) ∧ false = false) ∧
 (((32 : Nat) ≠ (0 : Nat) ∧ (32 : Nat) = (32 : Nat) ∧ true = true) ∧ True) ∧
 D.arr IntKind.u8 (32 : Nat)
 (sumL
 (ofS
 (D.st
 [D.arr IntKind.u32 (8 : Nat)
 (wrS (ofS (D.st [D.arr IntKind.u32 (8 : Nat) s.o.h.l, D.val (Value.int IntKind.u64 (↑s.o.n : Int)), D.arr IntKind.u8 (64 : Nat) s.o.l])) (List.take ((↑(32 : Nat) : Int).toNat - (0 : Nat)) (List.drop (0 : Nat) (sumL (ofS (D.st [D.arr IntKind.u32 (8 : Nat) s.i.h.l, D.val (Value.int IntKind.u64 (↑s.i.n : Int)), D.arr IntKind.u8 (64 : Nat) s.i.l])))))).h.l,
 D.val
 (Value.int IntKind.u64
 (↑(wrS (ofS (D.st [D.arr IntKind.u32 (8 : Nat) s.o.h.l, D.val (Value.int IntKind.u64 (↑s.o.n : Int)), D.arr IntKind.u8 (64 : Nat) s.o.l]))
 (List.take ((↑(32 : Nat) : Int).toNat - (0 : Nat)) (List.drop (0 : Nat) (sumL (ofS (D.st [D.arr IntKind.u32 (8 : Nat) s.i.h.l, D.val (Value.int IntKind.u64 (↑s.i.n : Int)), D.arr IntKind.u8 (64 : Nat) s.i.l])))))).n :
 Int)),
 D.arr IntKind.u8 (64 : Nat)
 (wrS (ofS (D.st [D.arr IntKind.u32 (8 : Nat) s.o.h.l, D.val (Value.int IntKind.u64 (↑s.o.n : Int)), D.arr IntKind.u8 (64 : Nat) s.o.l]))
 (List.take ((↑(32 : Nat) : Int).toNat - (0 : Nat)) (List.drop (0 : Nat) (sumL (ofS (D.st [D.arr IntKind.u32 (8 : Nat) s.i.h.l, D.val (Value.int IntKind.u64 (↑s.i.n : Int)), D.arr IntKind.u8 (64 : Nat) s.i.l])))))).l]))) =
 F) := by kernel_rfl
set_option maxRecDepth 100000 in
theorem vc79  (k p : List Int) (F : D)  :
    (owed c79 (inv79 k) Tryd.f79 [.str k, .str p] F) = (
 (True ∧ (32 : Nat) ≠ (0 : Nat)) ∧
 True ∧
 True ∧
 True ∧
 match decide ((↑k.length : Int) > (64 : Int)) with
 | true =>
  True ∧
  (∃ (p : List Int), [D.str k] = [D.str p] ∧ isBytes p ∧ p.length ≤ (1000000000000000 : Nat)) ∧
  (True ∧ (32 : Nat) ≠ (0 : Nat)) ∧
  (Sk.arr (32 : Nat) = Sk.arr (32 : Nat) ∧ (32 : Nat) ≠ (0 : Nat) ∧ (32 : Nat) = (32 : Nat) ∧ false = false) ∧
  ((0 : Int) ≤ (0 : Int) ∧ (0 : Int) ≤ (↑(32 : Nat) : Int) ∧ (↑(32 : Nat) : Int) ≤ (↑(32 : Nat) : Int) ∧ (32 : Nat) = (32 : Nat) ∧ (1 : Nat) = (1 : Nat)) ∧
  isBytes (List.take ((↑(32 : Nat) : Int).toNat - (0 : Nat)) (List.drop (0 : Nat) (digL k))) ∧
  True ∧
  True ∧
  True ∧
  True ∧
  (((AV.d (D.val (Value.int IntKind.i64 (0 : Int))) = AV.d (D.val (Value.int IntKind.i64 (↑(Int.toNat (0 : Int)) : Int))) ∧ AV.d (D.str (ints { data := { toList := [] } })) = AV.d (D.str (List.take (Int.toNat (0 : Int)) (xK k (54 : Nat)))) ∧ AV.d (D.str (ints { data := { toList := [] } })) = AV.d (D.str (List.take (Int.toNat (0 : Int)) (xK k (92 : Nat)))) ∧ True) ∧
  (sm
  (some
  (Blk.fix
  (D.arr IntKind.u8 (32 : Nat)
  [(0 : Int), (0 : Int), (0 : Int), (0 : Int), (0 : Int), (0 : Int), (0 : Int), (0 : Int), (0 : Int), (0 : Int), (0 : Int), (0 : Int), (0 : Int), (0 : Int), (0 : Int), (0 : Int), (0 : Int), (0 : Int), (0 : Int), (0 : Int), (0 : Int), (0 : Int), (0 : Int), (0 : Int), (0 : Int), (0 : Int), (0 : Int), (0 : Int), (0 : Int), (0 : Int), (0 : Int),
  (0 : Int)]))) ∧
  sm (some (Blk.fix (D.arr IntKind.u8 (32 : Nat) (digL k)))) ∧ True) ∧
  true = true) ∧
  Int.toNat (0 : Int) ≤ (64 : Nat)) ∧
  ∀ (x : Nat),
  x ≤ (64 : Nat) →
  true = true ∧
  True ∧
  match decide ((↑x : Int) < (64 : Int)) with
  | true =>
   True ∧
   True ∧
   True ∧
   True ∧
   True ∧
   True ∧
   True ∧
   match decide ((↑x : Int) < (↑(List.take ((↑(32 : Nat) : Int).toNat - (0 : Nat)) (List.drop (0 : Nat) (digL k))).length : Int)) with
   | true =>
    True ∧
    True ∧
    ((0 : Int) ≤ (↑x : Int) ∧ (↑x : Int) < (↑(List.take ((↑(32 : Nat) : Int).toNat - (0 : Nat)) (List.drop (0 : Nat) (digL k))).length : Int)) ∧
    True ∧
    True ∧
    True ∧
    True ∧
    ((1 : Nat) = (1 : Nat) ∧ (1 : Nat) ≤ (4096 : Nat)) ∧
    isBytes [ixor IntKind.u8 ((List.take ((↑(32 : Nat) : Int).toNat - (0 : Nat)) (List.drop (0 : Nat) (digL k))).getD (↑x : Int).toNat (0 : Int)) (54 : Int)] ∧
    (↑((List.take x (xK k (54 : Nat))).length + (1 : Nat)) : Int) ≤ (9223372036854775807 : Int) ∧
    True ∧
    True ∧
    True ∧
    True ∧
    ((1 : Nat) = (1 : Nat) ∧ (1 : Nat) ≤ (4096 : Nat)) ∧
    isBytes [ixor IntKind.u8 ((List.take ((↑(32 : Nat) : Int).toNat - (0 : Nat)) (List.drop (0 : Nat) (digL k))).getD (↑x : Int).toNat (0 : Int)) (92 : Int)] ∧
    (↑((List.take x (xK k (92 : Nat))).length + (1 : Nat)) : Int) ≤ (9223372036854775807 : Int) ∧
    True ∧
    True ∧
    True ∧
    ((AV.d (D.val (Value.int IntKind.i64 (IntKind.i64.wrap ((↑x : Int) + (1 : Int))))) = AV.d (D.val (Value.int IntKind.i64 (↑(IntKind.i64.wrap ((↑x : Int) + (1 : Int))).toNat : Int))) ∧
    AV.d (D.str (List.take x (xK k (54 : Nat)) ++ [ixor IntKind.u8 ((List.take ((↑(32 : Nat) : Int).toNat - (0 : Nat)) (List.drop (0 : Nat) (digL k))).getD (↑x : Int).toNat (0 : Int)) (54 : Int)])) = AV.d (D.str (List.take (IntKind.i64.wrap ((↑x : Int) + (1 : Int))).toNat (xK k (54 : Nat)))) ∧
    AV.d (D.str (List.take x (xK k (92 : Nat)) ++ [ixor IntKind.u8 ((List.take ((↑(32 : Nat) : Int).toNat - (0 : Nat)) (List.drop (0 : Nat) (digL k))).getD (↑x : Int).toNat (0 : Int)) (92 : Int)])) = AV.d (D.str (List.take (IntKind.i64.wrap ((↑x : Int) + (1 : Int))).toNat (xK k (92 : Nat)))) ∧
    True) ∧
    (sm
    (some
    (Blk.fix
    (D.arr IntKind.u8 (32 : Nat)
    [(0 : Int), (0 : Int), (0 : Int), (0 : Int), (0 : Int), (0 : Int), (0 : Int), (0 : Int), (0 : Int), (0 : Int), (0 : Int), (0 : Int), (0 : Int), (0 : Int), (0 : Int), (0 : Int), (0 : Int), (0 : Int), (0 : Int), (0 : Int), (0 : Int), (0 : Int), (0 : Int), (0 : Int), (0 : Int),
    (0 : Int), (0 : Int), (0 : Int), (0 : Int), (0 : Int), (0 : Int), (0 : Int)]))) ∧
    sm (some (Blk.fix (D.arr IntKind.u8 (32 : Nat) (digL k)))) ∧ True) ∧
    true = true) ∧
    (IntKind.i64.wrap ((↑x : Int) + (1 : Int))).toNat ≤ (64 : Nat) ∧ (64 : Nat) - (IntKind.i64.wrap ((↑x : Int) + (1 : Int))).toNat < (64 : Nat) - x
   | false =>
    True ∧
    True ∧
    True ∧
    ((1 : Nat) = (1 : Nat) ∧ (1 : Nat) ≤ (4096 : Nat)) ∧
    isBytes [ixor IntKind.u8 (0 : Int) (54 : Int)] ∧
    (↑((List.take x (xK k (54 : Nat))).length + (1 : Nat)) : Int) ≤ (9223372036854775807 : Int) ∧
    True ∧
    True ∧
    True ∧
    True ∧
    ((1 : Nat) = (1 : Nat) ∧ (1 : Nat) ≤ (4096 : Nat)) ∧
    isBytes [ixor IntKind.u8 (0 : Int) (92 : Int)] ∧
    (↑((List.take x (xK k (92 : Nat))).length + (1 : Nat)) : Int) ≤ (9223372036854775807 : Int) ∧
    True ∧
    True ∧
    True ∧
    ((AV.d (D.val (Value.int IntKind.i64 (IntKind.i64.wrap ((↑x : Int) + (1 : Int))))) = AV.d (D.val (Value.int IntKind.i64 (↑(IntKind.i64.wrap ((↑x : Int) + (1 : Int))).toNat : Int))) ∧
    AV.d (D.str (List.take x (xK k (54 : Nat)) ++ [ixor IntKind.u8 (0 : Int) (54 : Int)])) = AV.d (D.str (List.take (IntKind.i64.wrap ((↑x : Int) + (1 : Int))).toNat (xK k (54 : Nat)))) ∧
    AV.d (D.str (List.take x (xK k (92 : Nat)) ++ [ixor IntKind.u8 (0 : Int) (92 : Int)])) = AV.d (D.str (List.take (IntKind.i64.wrap ((↑x : Int) + (1 : Int))).toNat (xK k (92 : Nat)))) ∧ True) ∧
    (sm
    (some
    (Blk.fix
    (D.arr IntKind.u8 (32 : Nat)
    [(0 : Int), (0 : Int), (0 : Int), (0 : Int), (0 : Int), (0 : Int), (0 : Int), (0 : Int), (0 : Int), (0 : Int), (0 : Int), (0 : Int), (0 : Int), (0 : Int), (0 : Int), (0 : Int), (0 : Int), (0 : Int), (0 : Int), (0 : Int), (0 : Int), (0 : Int), (0 : Int), (0 : Int), (0 : Int), (0 : Int),
    (0 : Int), (0 : Int), (0 : Int), (0 : Int), (0 : Int), (0 : Int)]))) ∧
    sm (some (Blk.fix (D.arr IntKind.u8 (32 : Nat) (digL k)))) ∧ True) ∧
    true = true) ∧
    (IntKind.i64.wrap ((↑x : Int) + (1 : Int))).toNat ≤ (64 : Nat) ∧ (64 : Nat) - (IntKind.i64.wrap ((↑x : Int) + (1 : Int))).toNat < (64 : Nat) - x
  | false =>
   True ∧
   True ∧
   (↑((List.take x (xK k (54 : Nat))).length + p.length) : Int) ≤ (9223372036854775807 : Int) ∧
   (∃ (p_1 : List Int), [D.str (List.take x (xK k (54 : Nat)) ++ p)] = [D.str p_1] ∧ isBytes p_1 ∧ p_1.length ≤ (1000000000000000 : Nat)) ∧
   (True ∧ (32 : Nat) ≠ (0 : Nat)) ∧
   (Sk.arr (32 : Nat) = Sk.arr (32 : Nat) ∧ (32 : Nat) ≠ (0 : Nat) ∧ (32 : Nat) = (32 : Nat) ∧ false = false) ∧
   True ∧
   ((0 : Int) ≤ (0 : Int) ∧ (0 : Int) ≤ (↑(32 : Nat) : Int) ∧ (↑(32 : Nat) : Int) ≤ (↑(32 : Nat) : Int) ∧ (32 : Nat) = (32 : Nat) ∧ (1 : Nat) = (1 : Nat)) ∧
   isBytes (List.take ((↑(32 : Nat) : Int).toNat - (0 : Nat)) (List.drop (0 : Nat) (digL (List.take x (xK k (54 : Nat)) ++ p)))) ∧
   (↑((List.take x (xK k (92 : Nat))).length + (List.take ((↑(32 : Nat) : Int).toNat - (0 : Nat)) (List.drop (0 : Nat) (digL (List.take x (xK k (54 : Nat)) ++ p)))).length) : Int) ≤ (9223372036854775807 : Int) ∧
   (∃ (p_1 : List Int), [D.str (List.take x (xK k (92 : Nat)) ++ List.take ((↑(32 : Nat) : Int).toNat - (0 : Nat)) (List.drop (0 : Nat) (digL (List.take x (xK k (54 : Nat)) ++ p))))] = [D.str p_1] ∧ isBytes p_1 ∧ p_1.length ≤ (1000000000000000 : Nat)) ∧
   (Sk.arr (32 : Nat) = Sk.arr (32 : Nat) ∧ (32 : Nat) ≠ (0 : Nat) ∧ (32 : Nat) = (32 : Nat) ∧ false = false) ∧
   (((32 : Nat) ≠ (0 : Nat) ∧ (32 : Nat) = (32 : Nat) ∧ true = true) ∧ True) ∧ D.arr IntKind.u8 (32 : Nat) (digL (List.take x (xK k (92 : Nat)) ++ List.take ((↑(32 : Nat) : Int).toNat - (0 : Nat)) (List.drop (0 : Nat) (digL (List.take x (xK k (54 : Nat)) ++ p))))) = F
 | false =>
  True ∧
  True ∧
  True ∧
  (((AV.d (D.val (Value.int IntKind.i64 (0 : Int))) = AV.d (D.val (Value.int IntKind.i64 (↑(Int.toNat (0 : Int)) : Int))) ∧ AV.d (D.str (ints { data := { toList := [] } })) = AV.d (D.str (List.take (Int.toNat (0 : Int)) (xK k (54 : Nat)))) ∧ AV.d (D.str (ints { data := { toList := [] } })) = AV.d (D.str (List.take (Int.toNat (0 : Int)) (xK k (92 : Nat)))) ∧ True) ∧
  (sm
  (some
  (Blk.fix
  (D.arr IntKind.u8 (32 : Nat)
  [(0 : Int), (0 : Int), (0 : Int), (0 : Int), (0 : Int), (0 : Int), (0 : Int), (0 : Int), (0 : Int), (0 : Int), (0 : Int), (0 : Int), (0 : Int), (0 : Int), (0 : Int), (0 : Int), (0 : Int), (0 : Int), (0 : Int), (0 : Int), (0 : Int), (0 : Int), (0 : Int), (0 : Int), (0 : Int), (0 : Int), (0 : Int), (0 : Int), (0 : Int), (0 : Int), (0 : Int), (0 : Int)]))) ∧
  True) ∧
  true = true) ∧
  Int.toNat (0 : Int) ≤ (64 : Nat)) ∧
  ∀ (x : Nat),
  x ≤ (64 : Nat) →
  true = true ∧
  True ∧
  match decide ((↑x : Int) < (64 : Int)) with
  | true =>
   True ∧
   True ∧
   True ∧
   True ∧
   True ∧
   True ∧
   True ∧
   match decide ((↑x : Int) < (↑k.length : Int)) with
   | true =>
    True ∧
    True ∧
    ((0 : Int) ≤ (↑x : Int) ∧ (↑x : Int) < (↑k.length : Int)) ∧
    True ∧
    True ∧
    True ∧
    True ∧
    ((1 : Nat) = (1 : Nat) ∧ (1 : Nat) ≤ (4096 : Nat)) ∧
    isBytes [ixor IntKind.u8 (k.getD (↑x : Int).toNat (0 : Int)) (54 : Int)] ∧
    (↑((List.take x (xK k (54 : Nat))).length + (1 : Nat)) : Int) ≤ (9223372036854775807 : Int) ∧
    True ∧
    True ∧
    True ∧
    True ∧
    ((1 : Nat) = (1 : Nat) ∧ (1 : Nat) ≤ (4096 : Nat)) ∧
    isBytes [ixor IntKind.u8 (k.getD (↑x : Int).toNat (0 : Int)) (92 : Int)] ∧
    (↑((List.take x (xK k (92 : Nat))).length + (1 : Nat)) : Int) ≤ (9223372036854775807 : Int) ∧
    True ∧
    True ∧
    True ∧
    ((AV.d (D.val (Value.int IntKind.i64 (IntKind.i64.wrap ((↑x : Int) + (1 : Int))))) = AV.d (D.val (Value.int IntKind.i64 (↑(IntKind.i64.wrap ((↑x : Int) + (1 : Int))).toNat : Int))) ∧
    AV.d (D.str (List.take x (xK k (54 : Nat)) ++ [ixor IntKind.u8 (k.getD (↑x : Int).toNat (0 : Int)) (54 : Int)])) = AV.d (D.str (List.take (IntKind.i64.wrap ((↑x : Int) + (1 : Int))).toNat (xK k (54 : Nat)))) ∧
    AV.d (D.str (List.take x (xK k (92 : Nat)) ++ [ixor IntKind.u8 (k.getD (↑x : Int).toNat (0 : Int)) (92 : Int)])) = AV.d (D.str (List.take (IntKind.i64.wrap ((↑x : Int) + (1 : Int))).toNat (xK k (92 : Nat)))) ∧ True) ∧
    (sm
    (some
    (Blk.fix
    (D.arr IntKind.u8 (32 : Nat)
    [(0 : Int), (0 : Int), (0 : Int), (0 : Int), (0 : Int), (0 : Int), (0 : Int), (0 : Int), (0 : Int), (0 : Int), (0 : Int), (0 : Int), (0 : Int), (0 : Int), (0 : Int), (0 : Int), (0 : Int), (0 : Int), (0 : Int), (0 : Int), (0 : Int), (0 : Int), (0 : Int), (0 : Int), (0 : Int), (0 : Int), (0 : Int),
    (0 : Int), (0 : Int), (0 : Int), (0 : Int), (0 : Int)]))) ∧
    True) ∧
    true = true) ∧
    (IntKind.i64.wrap ((↑x : Int) + (1 : Int))).toNat ≤ (64 : Nat) ∧ (64 : Nat) - (IntKind.i64.wrap ((↑x : Int) + (1 : Int))).toNat < (64 : Nat) - x
   | false =>
    True ∧
    True ∧
    True ∧
    ((1 : Nat) = (1 : Nat) ∧ (1 : Nat) ≤ (4096 : Nat)) ∧
    isBytes [ixor IntKind.u8 (0 : Int) (54 : Int)] ∧
    (↑((List.take x (xK k (54 : Nat))).length + (1 : Nat)) : Int) ≤ (9223372036854775807 : Int) ∧
    True ∧
    True ∧
    True ∧
    True ∧
    ((1 : Nat) = (1 : Nat) ∧ (1 : Nat) ≤ (4096 : Nat)) ∧
    isBytes [ixor IntKind.u8 (0 : Int) (92 : Int)] ∧
    (↑((List.take x (xK k (92 : Nat))).length + (1 : Nat)) : Int) ≤ (9223372036854775807 : Int) ∧
    True ∧
    True ∧
    True ∧
    ((AV.d (D.val (Value.int IntKind.i64 (IntKind.i64.wrap ((↑x : Int) + (1 : Int))))) = AV.d (D.val (Value.int IntKind.i64 (↑(IntKind.i64.wrap ((↑x : Int) + (1 : Int))).toNat : Int))) ∧
    AV.d (D.str (List.take x (xK k (54 : Nat)) ++ [ixor IntKind.u8 (0 : Int) (54 : Int)])) = AV.d (D.str (List.take (IntKind.i64.wrap ((↑x : Int) + (1 : Int))).toNat (xK k (54 : Nat)))) ∧
    AV.d (D.str (List.take x (xK k (92 : Nat)) ++ [ixor IntKind.u8 (0 : Int) (92 : Int)])) = AV.d (D.str (List.take (IntKind.i64.wrap ((↑x : Int) + (1 : Int))).toNat (xK k (92 : Nat)))) ∧ True) ∧
    (sm
    (some
    (Blk.fix
    (D.arr IntKind.u8 (32 : Nat)
    [(0 : Int), (0 : Int), (0 : Int), (0 : Int), (0 : Int), (0 : Int), (0 : Int), (0 : Int), (0 : Int), (0 : Int), (0 : Int), (0 : Int), (0 : Int), (0 : Int), (0 : Int), (0 : Int), (0 : Int), (0 : Int), (0 : Int), (0 : Int), (0 : Int), (0 : Int), (0 : Int), (0 : Int), (0 : Int), (0 : Int), (0 : Int),
    (0 : Int), (0 : Int), (0 : Int), (0 : Int), (0 : Int)]))) ∧
    True) ∧
    true = true) ∧
    (IntKind.i64.wrap ((↑x : Int) + (1 : Int))).toNat ≤ (64 : Nat) ∧ (64 : Nat) - (IntKind.i64.wrap ((↑x : Int) + (1 : Int))).toNat < (64 : Nat) - x
  | false =>
   True ∧
   True ∧
   (↑((List.take x (xK k (54 : Nat))).length + p.length) : Int) ≤ (9223372036854775807 : Int) ∧
   (∃ (p_1 : List Int), [D.str (List.take x (xK k (54 : Nat)) ++ p)] = [D.str p_1] ∧ isBytes p_1 ∧ p_1.length ≤ (1000000000000000 : Nat)) ∧
   (True ∧ (32 : Nat) ≠ (0 : Nat)) ∧
   (Sk.arr (32 : Nat) = Sk.arr (32 : Nat) ∧ (32 : Nat) ≠ (0 : Nat) ∧ (32 : Nat) = (32 : Nat) ∧ false = false) ∧
   True ∧
   ((0 : Int) ≤ (0 : Int) ∧ (0 : Int) ≤ (↑(32 : Nat) : Int) ∧ (↑(32 : Nat) : Int) ≤ (↑(32 : Nat) : Int) ∧ (32 : Nat) = (32 : Nat) ∧ (1 : Nat) = (1 : Nat)) ∧
   isBytes (List.take ((↑(32 : Nat) : Int).toNat - (0 : Nat)) (List.drop (0 : Nat) (digL (List.take x (xK k (54 : Nat)) ++ p)))) ∧
   (↑((List.take x (xK k (92 : Nat))).length + (List.take ((↑(32 : Nat) : Int).toNat - (0 : Nat)) (List.drop (0 : Nat) (digL (List.take x (xK k (54 : Nat)) ++ p)))).length) : Int) ≤ (9223372036854775807 : Int) ∧
   (∃ (p_1 : List Int), [D.str (List.take x (xK k (92 : Nat)) ++ List.take ((↑(32 : Nat) : Int).toNat - (0 : Nat)) (List.drop (0 : Nat) (digL (List.take x (xK k (54 : Nat)) ++ p))))] = [D.str p_1] ∧ isBytes p_1 ∧ p_1.length ≤ (1000000000000000 : Nat)) ∧
   (Sk.arr (32 : Nat) = Sk.arr (32 : Nat) ∧ (32 : Nat) ≠ (0 : Nat) ∧ (32 : Nat) = (32 : Nat) ∧ false = false) ∧
   (((32 : Nat) ≠ (0 : Nat) ∧ (32 : Nat) = (32 : Nat) ∧ true = true) ∧ True) ∧ D.arr IntKind.u8 (32 : Nat) (digL (List.take x (xK k (92 : Nat)) ++ List.take ((↑(32 : Nat) : Int).toNat - (0 : Nat)) (List.drop (0 : Nat) (digL (List.take x (xK k (54 : Nat)) ++ p))))) = F) := by kernel_rfl
end Go.Proofs.YtkicjckhkefnpaaDoor
namespace Go.Proofs.YtkicjckhkefnpaaDoor
open Go Go.Vg
theorem ofM_eq (s : MS) : ofM (stM s) = s := by
 show MS.mk (ofS (stD s.i)) (ofS (stD s.o)) = s
 rw [ofS_eq, ofS_eq]
theorem ofM' (s : MS) : ofM (D.st [D.st [D.arr .u32 8 s.i.h.l, D.val (.int .u64 (s.i.n : Int)), D.arr .u8 64 s.i.l], D.st [D.arr .u32 8 s.o.h.l, D.val (.int .u64 (s.o.n : Int)), D.arr .u8 64 s.o.l]]) = s := ofM_eq s
theorem keyL_ok {k : List Int} (h : isB k) : isBytes (keyL k) ∧ (keyL k).length ≤ 64 := by
 unfold keyL
 split
 ·exact ⟨digL_bytes k, by rw [digL_len]; omega⟩
 ·exact ⟨h.1, by omega⟩
theorem padK_len {k : List Int} (h : isB k) : (padK k).length = 64 := by
 have := (keyL_ok h).2
 unfold padK
 rw [List.length_append, List.length_replicate]
 omega
theorem padK_bytes {k : List Int} (h : isB k) : isBytes (padK k) := by
 refine bytes_app (keyL_ok h).1 fun x hx => ?_
 have := List.eq_of_mem_replicate hx
 omega
theorem xK_len {k : List Int} (h : isB k) (c : Nat) : (xK k c).length = 64 := by unfold xK; rw [List.length_map, padK_len h]
theorem xK_bytes {k : List Int} (h : isB k) {c : Nat} (hc : c < 256) : isBytes (xK k c) := by
 intro x hx
 unfold xK at hx
 obtain ⟨z, hz, rfl⟩ := List.mem_map.1 hx
 have := padK_bytes h z hz
 have h2 : z.toNat ^^^ c < 2 ^ 8 := Nat.xor_lt_two_pow (by omega) hc
 omega
theorem xK_get {k : List Int} (h : isB k) {c i : Nat} (hc : c < 256) (hi : i < 64) : ixor .u8 ((padK k).getD i 0) (c : Int) = (xK k c).getD i 0 := by
 obtain ⟨n, e, hn⟩ := byte_at (padK_bytes h) (i := i) (by rw [padK_len h]; exact hi)
 unfold xK
 rw [List.getD_eq_getElem?_getD, List.getD_eq_getElem?_getD, List.getElem?_map] at *
 have hi2 : i < (padK k).length := by rw [padK_len h]; exact hi
 have hs : (padK k)[i]? = some (padK k)[i] := List.getElem?_eq_getElem hi2
 rw [hs] at e ⊢
 simp only [Option.getD_some, Option.map_some] at e ⊢
 rw [e, Int.toNat_natCast, ixorN .u8 (show n < 256 from hn) (show c < 256 from hc)]
theorem mix_get {L P : List Int} {x : Nat} (hL : L.length = P.length) (h : x < P.length) : (L.take x ++ P.drop x).getD x 0 = P.getD x 0 := by
 rw [List.getD_eq_getElem?_getD, List.getElem?_append_right (by rw [List.length_take]; omega), List.length_take, List.getElem?_drop, List.getD_eq_getElem?_getD]
 congr 2
 omega
theorem mix_set {L P : List Int} {x : Nat} (hL : L.length = P.length) (h : x < P.length) : (L.take x ++ P.drop x).set x (L.getD x 0) = L.take (x + 1) ++ P.drop (x + 1) := by
 have e : (L.take x).length = x := by rw [List.length_take]; omega
 rw [List.set_append_right _ _ (by omega), e, Nat.sub_self, List.drop_eq_getElem_cons h, List.set_cons_zero, take_snoc (by omega), List.append_assoc]
 rfl
theorem mixK_set {k : List Int} (h : isB k) {c x : Nat} (hc : c < 256) (hx : x < 64) : (mixK k c x).set x (ixor .u8 ((mixK k c x).getD x 0) (c : Int)) = mixK k c (x + 1) := by
 have hl : (xK k c).length = (padK k).length := by rw [xK_len h, padK_len h]
 unfold mixK
 rw [mix_get hl (by rw [padK_len h]; exact hx), xK_get h hc hx, mix_set hl (by rw [padK_len h]; exact hx)]
theorem mixK_end {k : List Int} (h : isB k) (c : Nat) : mixK k c 64 = xK k c := by
 unfold mixK
 rw [List.take_of_length_le (by rw [xK_len h]; omega), List.drop_eq_nil_of_le (by rw [padK_len h]; omega), List.append_nil]
theorem mixK_zero (k : List Int) (c : Nat) : mixK k c 0 = padK k := rfl
theorem mNew_ok {k : List Int} (h : isB k) : okM (mNew k) := ⟨wr_ok _ st0_ok (xK_bytes h (by decide)), wr_ok _ st0_ok (xK_bytes h (by decide))⟩
theorem mWr_ok {s : MS} (h : okM s) {p : List Int} (hp : isBytes p) : okM (mWr s p) := ⟨wr_ok p h.1 hp, h.2⟩
theorem sumL_len (s : HS) : (sumL s).length = 32 := outL_len _
theorem sumL_bytes (s : HS) : isBytes (sumL s) := outL_bytes _
theorem mac_eq (k p : List Int) : mSum (mWr (mNew k) p) = mkL k p := by
 unfold mSum mWr mNew mkL
 simp only [← wr_app, sum_st0]
set_option maxRecDepth 100000 in
theorem m82 : Meets Tryd.prog 82 sp82 := by
 refine meets_of_owed (C := c82) ⟨tab_ok, lkS_ok ⟨m75, m76, m70, trivial⟩⟩ (by kernel_rfl) (by kernel_rfl : Tryd.prog.funcs[82]? = some Tryd.f82) (by kernel_rfl) (by kernel_rfl) (by kernel_rfl) _ ?_
 rintro _ ⟨k, rfl, hk⟩
 refine ⟨fun _ => rfl, inv82 k, ?_⟩
 show owed c82 (inv82 k) Tryd.f82 [.ints .u8 k] (stM (mNew k))
 rw [vc82]
 have kl := keyL_ok hk
 have t32 : List.take 32 (digL k) = digL k := List.take_of_length_le (by rw [digL_len]; omega)
 simp (decide := true) only [Int.toNat_natCast, show Int.toNat 32 = 32 from rfl, show Int.toNat 64 = 64 from rfl, show Int.toNat 0 = 0 from rfl, List.drop_zero, Nat.sub_zero, Nat.zero_add, t32, digL_len, mixK_zero, ofS', eq_self, true_and, and_true, ne_eq, not_false_eq_true]
 split
 ·rename_i h
  have h : 64 < k.length := by have := of_decide_eq_true h; omega
  have kk : keyL k = digL k := by unfold keyL; rw [if_pos h]
  have e0 : List.take (Nat.min 32 64) (digL k) ++ List.drop (Nat.min 32 64) (List.replicate 64 0) = padK k := by
   unfold padK
   rw [kk, digL_len, show Nat.min 32 64 = 32 from rfl, t32]
   rfl
  rw [e0]
  refine ⟨⟨k, rfl, hk⟩, by and_intros <;> first | rfl | trivial | omega, fun x hx => ?_⟩
  split
  ·rename_i h2
   have h2 : x < 64 := by have := of_decide_eq_true h2; omega
   have ew : IntKind.i64.wrap ((x : Int) + 1) = ((x + 1 : Nat) : Int) := by rw [wi (by omega) (by omega)]; omega
   have s1 := mixK_set hk (c := 54) (by decide) h2
   have s2 := mixK_set hk (c := 92) (by decide) h2
   change (mixK k 54 x).set x (ixor .u8 ((mixK k 54 x).getD x 0) 54) = _ at s1
   change (mixK k 92 x).set x (ixor .u8 ((mixK k 92 x).getD x 0) 92) = _ at s2
   simp only [ew, Int.toNat_natCast, s1, s2]
   and_intros <;> first | rfl | omega | trivial
  ·rename_i h2
   obtain rfl : x = 64 := by have := of_decide_eq_false h2; omega
   have t1 : List.take 64 (xK k 54) = xK k 54 := List.take_of_length_le (by rw [xK_len hk]; omega)
   have t2 : List.take 64 (xK k 92) = xK k 92 := List.take_of_length_le (by rw [xK_len hk]; omega)
   simp only [mixK_end hk, t1, t2]
   exact ⟨⟨st0, _, rfl, st0_ok, xK_bytes hk (by decide), by rw [xK_len hk]; omega⟩, ⟨st0, _, rfl, st0_ok, xK_bytes hk (by decide), by rw [xK_len hk]; omega⟩, rfl⟩
 ·rename_i h
  have h : k.length ≤ 64 := by have := of_decide_eq_false h; omega
  have kk : keyL k = k := by unfold keyL; rw [if_neg (by omega)]
  have em : Nat.min k.length 64 = k.length := Nat.min_eq_left h
  have e0 : List.take (Nat.min k.length 64) k ++ List.drop (Nat.min k.length 64) (List.replicate 64 0) = padK k := by
   unfold padK
   rw [kk, em, List.take_length, List.drop_replicate]
  rw [e0]
  refine ⟨by and_intros <;> first | rfl | trivial | omega, fun x hx => ?_⟩
  split
  ·rename_i h2
   have h2 : x < 64 := by have := of_decide_eq_true h2; omega
   have ew : IntKind.i64.wrap ((x : Int) + 1) = ((x + 1 : Nat) : Int) := by rw [wi (by omega) (by omega)]; omega
   have s1 := mixK_set hk (c := 54) (by decide) h2
   have s2 := mixK_set hk (c := 92) (by decide) h2
   change (mixK k 54 x).set x (ixor .u8 ((mixK k 54 x).getD x 0) 54) = _ at s1
   change (mixK k 92 x).set x (ixor .u8 ((mixK k 92 x).getD x 0) 92) = _ at s2
   simp only [ew, Int.toNat_natCast, s1, s2]
   and_intros <;> first | rfl | omega | trivial
  ·rename_i h2
   obtain rfl : x = 64 := by have := of_decide_eq_false h2; omega
   have t1 : List.take 64 (xK k 54) = xK k 54 := List.take_of_length_le (by rw [xK_len hk]; omega)
   have t2 : List.take 64 (xK k 92) = xK k 92 := List.take_of_length_le (by rw [xK_len hk]; omega)
   simp only [mixK_end hk, t1, t2]
   exact ⟨⟨st0, _, rfl, st0_ok, xK_bytes hk (by decide), by rw [xK_len hk]; omega⟩, ⟨st0, _, rfl, st0_ok, xK_bytes hk (by decide), by rw [xK_len hk]; omega⟩, rfl⟩
set_option maxRecDepth 100000 in
theorem m83 : Meets Tryd.prog 83 sp83 := by
 refine meets_of_owed (C := c83) ⟨tab_ok, lkS_ok ⟨m76, trivial⟩⟩ (by kernel_rfl) (by kernel_rfl : Tryd.prog.funcs[83]? = some Tryd.f83) (by kernel_rfl) (by kernel_rfl) (by kernel_rfl) _ ?_
 rintro _ ⟨s, p, rfl, ⟨h1, h2⟩, hp, hl⟩
 refine ⟨fun _ => rfl, fun _ => none, ?_⟩
 show owed c83 (fun _ => none) Tryd.f83 [stM s, .ints .u8 p] (stM (mWr (ofM (stM s)) p))
 rw [vc83, ofM_eq]
 simp (decide := true) only [ofS', eq_self, true_and, and_true, ne_eq, not_false_eq_true]
 exact ⟨⟨_, p, rfl, h1, hp, hl⟩, rfl⟩
set_option maxRecDepth 100000 in
theorem m84 : Meets Tryd.prog 84 sp84 := by
 refine meets_of_owed (C := c84) ⟨tab_ok, lkS_ok ⟨m76, m77, trivial⟩⟩ (by kernel_rfl) (by kernel_rfl : Tryd.prog.funcs[84]? = some Tryd.f84) (by kernel_rfl) (by kernel_rfl) (by kernel_rfl) _ ?_
 rintro _ ⟨s, rfl, h1, h2⟩
 refine ⟨fun _ => rfl, fun _ => none, ?_⟩
 show owed c84 (fun _ => none) Tryd.f84 [stM s] (d32 (mSum (ofM (stM s))))
 rw [vc84, ofM_eq]
 have t32 : ∀ z : HS, List.take 32 (sumL z) = sumL z := fun z => List.take_of_length_le (by rw [sumL_len]; omega)
 simp (decide := true) only [Int.toNat_natCast, show Int.toNat 32 = 32 from rfl, show Int.toNat 0 = 0 from rfl, List.drop_zero, Nat.sub_zero, t32, ofS', eq_self, true_and, and_true, ne_eq, not_false_eq_true]
 exact ⟨⟨_, rfl, h1⟩, ⟨_, _, rfl, h2, sumL_bytes _, by rw [sumL_len]; omega⟩, ⟨_, rfl, wr_ok _ h2 (sumL_bytes _)⟩, rfl⟩
set_option maxRecDepth 100000 in
theorem m79 : Meets Tryd.prog 79 sp79 := by
 refine meets_of_owed (C := c79) ⟨tab_ok, lkS_ok ⟨m71, trivial⟩⟩ (by kernel_rfl) (by kernel_rfl : Tryd.prog.funcs[79]? = some Tryd.f79) (by kernel_rfl) (by kernel_rfl) (by kernel_rfl) _ ?_
 rintro _ ⟨k, p, rfl, hk, hp, hpl⟩
 refine ⟨fun _ => rfl, inv79 k, ?_⟩
 show owed c79 (inv79 k) Tryd.f79 [.str k, .str p] (d32 (mkL k p))
 rw [vc79]
 have kl := keyL_ok hk
 have t32 : ∀ q : List Int, List.take 32 (digL q) = digL q := fun q => List.take_of_length_le (by rw [digL_len]; omega)
 have ie : ints { data := { toList := [] } } = [] := rfl
 have l1 : ∀ x, (List.take x (xK k 54)).length ≤ 64 := fun x => by rw [List.length_take, xK_len hk]; omega
 have l2 : ∀ x, (List.take x (xK k 92)).length ≤ 64 := fun x => by rw [List.length_take, xK_len hk]; omega
 simp (decide := true) only [Int.toNat_natCast, show Int.toNat 32 = 32 from rfl, show Int.toNat 0 = 0 from rfl, List.drop_zero, Nat.sub_zero, Nat.zero_add, t32, digL_len, ie, eq_self, true_and, and_true, ne_eq, not_false_eq_true]
 split
 ·rename_i h
  have h : 64 < k.length := by have := of_decide_eq_true h; omega
  have kk : keyL k = digL k := by unfold keyL; rw [if_pos h]
  have ql := digL_len k
  rw [kk] at kl
  generalize hq : digL k = q at *
  refine ⟨⟨k, rfl, hk⟩, kl.1, by and_intros <;> first | rfl | trivial | omega, fun x hx => ?_⟩
  split
  ·rename_i h2
   have h2 : x < 64 := by have := of_decide_eq_true h2; omega
   have ew : IntKind.i64.wrap ((x : Int) + 1) = ((x + 1 : Nat) : Int) := by rw [wi (by omega) (by omega)]; omega
   have s1 := xK_get hk (c := 54) (by decide) h2
   have s2 := xK_get hk (c := 92) (by decide) h2
   change ixor .u8 _ 54 = _ at s1
   change ixor .u8 _ 92 = _ at s2
   have q1 := take_snoc (p := xK k 54) (i := x) (by rw [xK_len hk]; exact h2)
   have q2 := take_snoc (p := xK k 92) (i := x) (by rw [xK_len hk]; exact h2)
   have b1 : isBytes [(xK k 54).getD x 0] := fun z hz => by
    rw [List.mem_singleton.1 hz]
    obtain ⟨n, e, hn⟩ := byte_at (xK_bytes hk (c := 54) (by decide)) (i := x) (by rw [xK_len hk]; exact h2)
    omega
   have b2 : isBytes [(xK k 92).getD x 0] := fun z hz => by
    rw [List.mem_singleton.1 hz]
    obtain ⟨n, e, hn⟩ := byte_at (xK_bytes hk (c := 92) (by decide)) (i := x) (by rw [xK_len hk]; exact h2)
    omega
   have l1x := l1 x
   have l2x := l2 x
   unfold padK at s1 s2
   rw [kk] at s1 s2
   split
   ·rename_i h3
    have h3 : x < q.length := by have := of_decide_eq_true h3; omega
    rw [List.getD_eq_getElem?_getD, List.getElem?_append_left h3, ← List.getD_eq_getElem?_getD] at s1 s2
    simp only [ew, Int.toNat_natCast, s1, s2, ← q1, ← q2]
    refine ⟨by omega, b1, by omega, b2, by omega, ?_, by omega, by omega⟩
    and_intros <;> first | rfl | trivial
   ·rename_i h3
    have h3 : q.length ≤ x := by have := of_decide_eq_false h3; omega
    rw [List.getD_eq_getElem?_getD, List.getElem?_append_right h3, List.getElem?_replicate, if_pos (by omega)] at s1 s2
    change ixor .u8 0 54 = _ at s1
    change ixor .u8 0 92 = _ at s2
    simp only [ew, Int.toNat_natCast, s1, s2, ← q1, ← q2]
    refine ⟨b1, by omega, b2, by omega, ?_, by omega, by omega⟩
    and_intros <;> first | rfl | trivial
  ·rename_i h2
   obtain rfl : x = 64 := by have := of_decide_eq_false h2; omega
   have t1 : List.take 64 (xK k 54) = xK k 54 := List.take_of_length_le (by rw [xK_len hk]; omega)
   have t2 : List.take 64 (xK k 92) = xK k 92 := List.take_of_length_le (by rw [xK_len hk]; omega)
   have n1 := xK_len hk 54
   have n2 := xK_len hk 92
   have bb := xK_bytes hk (c := 54) (by decide)
   have bc := xK_bytes hk (c := 92) (by decide)
   simp only [t1, t2]
   refine ⟨by omega, ⟨_, rfl, bytes_app bb hp, by rw [List.length_append]; omega⟩, digL_bytes _, by omega, ⟨_, rfl, bytes_app bc (digL_bytes _), by rw [List.length_append, digL_len]; omega⟩, rfl⟩
 ·rename_i h
  have h : k.length ≤ 64 := by have := of_decide_eq_false h; omega
  have kk : keyL k = k := by unfold keyL; rw [if_neg (by omega)]
  generalize hq : k = q at kk ⊢
  subst hq
  refine ⟨by and_intros <;> first | rfl | trivial | omega, fun x hx => ?_⟩
  split
  ·rename_i h2
   have h2 : x < 64 := by have := of_decide_eq_true h2; omega
   have ew : IntKind.i64.wrap ((x : Int) + 1) = ((x + 1 : Nat) : Int) := by rw [wi (by omega) (by omega)]; omega
   have s1 := xK_get hk (c := 54) (by decide) h2
   have s2 := xK_get hk (c := 92) (by decide) h2
   change ixor .u8 _ 54 = _ at s1
   change ixor .u8 _ 92 = _ at s2
   have q1 := take_snoc (p := xK k 54) (i := x) (by rw [xK_len hk]; exact h2)
   have q2 := take_snoc (p := xK k 92) (i := x) (by rw [xK_len hk]; exact h2)
   have b1 : isBytes [(xK k 54).getD x 0] := fun z hz => by
    rw [List.mem_singleton.1 hz]
    obtain ⟨n, e, hn⟩ := byte_at (xK_bytes hk (c := 54) (by decide)) (i := x) (by rw [xK_len hk]; exact h2)
    omega
   have b2 : isBytes [(xK k 92).getD x 0] := fun z hz => by
    rw [List.mem_singleton.1 hz]
    obtain ⟨n, e, hn⟩ := byte_at (xK_bytes hk (c := 92) (by decide)) (i := x) (by rw [xK_len hk]; exact h2)
    omega
   have l1x := l1 x
   have l2x := l2 x
   unfold padK at s1 s2
   rw [kk] at s1 s2
   split
   ·rename_i h3
    have h3 : x < k.length := by have := of_decide_eq_true h3; omega
    rw [List.getD_eq_getElem?_getD, List.getElem?_append_left h3, ← List.getD_eq_getElem?_getD] at s1 s2
    simp only [ew, Int.toNat_natCast, s1, s2, ← q1, ← q2]
    refine ⟨by omega, b1, by omega, b2, by omega, ?_, by omega, by omega⟩
    and_intros <;> first | rfl | trivial
   ·rename_i h3
    have h3 : k.length ≤ x := by have := of_decide_eq_false h3; omega
    rw [List.getD_eq_getElem?_getD, List.getElem?_append_right h3, List.getElem?_replicate, if_pos (by omega)] at s1 s2
    change ixor .u8 0 54 = _ at s1
    change ixor .u8 0 92 = _ at s2
    simp only [ew, Int.toNat_natCast, s1, s2, ← q1, ← q2]
    refine ⟨b1, by omega, b2, by omega, ?_, by omega, by omega⟩
    and_intros <;> first | rfl | trivial
  ·rename_i h2
   obtain rfl : x = 64 := by have := of_decide_eq_false h2; omega
   have t1 : List.take 64 (xK k 54) = xK k 54 := List.take_of_length_le (by rw [xK_len hk]; omega)
   have t2 : List.take 64 (xK k 92) = xK k 92 := List.take_of_length_le (by rw [xK_len hk]; omega)
   have n1 := xK_len hk 54
   have n2 := xK_len hk 92
   have bb := xK_bytes hk (c := 54) (by decide)
   have bc := xK_bytes hk (c := 92) (by decide)
   simp only [t1, t2]
   refine ⟨by omega, ⟨_, rfl, bytes_app bb hp, by rw [List.length_append]; omega⟩, digL_bytes _, by omega, ⟨_, rfl, bytes_app bc (digL_bytes _), by rw [List.length_append, digL_len]; omega⟩, rfl⟩
end Go.Proofs.YtkicjckhkefnpaaDoor
