import Derived.Test.YtcdjhhepgkcabaaDoorHb2
/- the reference's block. -/
namespace Go.Proofs.YtcdjhhepgkcabaaDoor
open Go Go.Vg

def pw (l : List Int) (i : Nat) : Nat → W
  | 0 => 0
  | k + 1 => pw l i k * 256 + BitVec.ofNat 32 (l.getD (i + k) 0).toNat
def inv29 (x : R8) (l : List Int) : Nat → Option Inv
  | 3 => some ⟨Nat, fun i => [(6, .d (i64 ((4 * i : Nat) : Int))), (5, .row 24), (24, .any)], fun i => [(24, .row 24 (.ints .u32 (wl l i)))], fun s => (slotN s 6).toNat / 4, fun _ i => i ≤ 16, fun i => 16 - i⟩
  | 7 => some ⟨Nat × Nat, fun i => [(29, .d (i64 (i.1 : Int))), (7, .d (wd (pw l i.2 i.1)))], fun _ => [], fun s => ((slotN s 29).toNat, (slotN s 6).toNat), fun s i => i.1 ≤ 4 ∧ (i.2 : Int) = slotN s 6, fun i => 4 - i.1⟩
  | 12 => some ⟨Nat, fun _ => [(5, .row 24)], fun i => [(24, .row 24 (.ints .u32 (wl l i)))], fun s => (rowD s 24).length, fun _ i => 16 ≤ i ∧ i ≤ 64, fun i => 64 - i⟩
  | 18 => some ⟨Nat, fun i => [(119, .d (i64 i)), (12, .d (wd (rd x l i).a)), (13, .d (wd (rd x l i).b)), (14, .d (wd (rd x l i).c)), (15, .d (wd (rd x l i).d)), (16, .d (wd (rd x l i).e)), (17, .d (wd (rd x l i).f)), (18, .d (wd (rd x l i).g)), (19, .d (wd (rd x l i).h))],
      fun _ => [], fun s => (slotN s 119).toNat, fun _ i => i ≤ 64, fun i => 64 - i⟩
  | _ => none
--KEEP rr Go.Vg.toW chW mjW w4 wat BitVec.toNat wl wn rd mixL prL pr kW Go.Vg.gl0 Go.Vg.gl1 pw
set_option maxRecDepth 100000 in
theorem vc29  (x : R8) (l : List Int) (F : D)  :
    (owed c29 (inv29 x l) Tryd.f29 [.ints .u32 x.l, .str l] F) = (
 True ∧
   ((0 : Int) = (0 : Int) ∧ (0 : Int) ≤ (64 : Int) ∧ (64 : Int) ≤ (281474976710656 : Int) ∧ (↑(4 : Nat) : Int) * (64 : Int) ≤ (281474976710656 : Int) ∧ (1 : Nat) = (1 : Nat)) ∧
    True ∧
     True ∧
      (((AV.d (D.ints IntKind.u32 [(↑(BitVec.toNat x.a) : Int), (↑(BitVec.toNat x.b) : Int), (↑(BitVec.toNat x.c) : Int), (↑(BitVec.toNat x.d) : Int), (↑(BitVec.toNat x.e) : Int), (↑(BitVec.toNat x.f) : Int), (↑(BitVec.toNat x.g) : Int), (↑(BitVec.toNat x.h) : Int)]) =
           AV.d (D.ints IntKind.u32 [(↑(BitVec.toNat x.a) : Int), (↑(BitVec.toNat x.b) : Int), (↑(BitVec.toNat x.c) : Int), (↑(BitVec.toNat x.d) : Int), (↑(BitVec.toNat x.e) : Int), (↑(BitVec.toNat x.f) : Int), (↑(BitVec.toNat x.g) : Int), (↑(BitVec.toNat x.h) : Int)]) ∧
          AV.d (D.str l) = AV.d (D.str l) ∧ AV.d (D.val (Value.slice none (0 : Nat) (0 : Nat))) = AV.d (D.val (Value.slice none (0 : Nat) (0 : Nat))) ∧ AV.row (24 : Nat) = AV.row (24 : Nat) ∧ AV.d (D.val (Value.int IntKind.i64 (0 : Int))) = AV.d (D.val (Value.int IntKind.i64 (↑(0 : Nat) : Int))) ∧ True) ∧
         (some (Blk.row (24 : TypeId) (D.ints IntKind.u32 [])) = some (Blk.row (24 : TypeId) (D.ints IntKind.u32 (wl l (0 / 4 : Nat)))) ∧ True) ∧ true = true) ∧
        (0 / 4 : Nat) ≤ (16 : Nat)) ∧
       ∀ (x_1 : Nat),
        x_1 ≤ (16 : Nat) →
         true = true ∧
          True ∧
           True ∧
            match decide ((↑((4 : Nat) * x_1) : Int) < (64 : Int)) with
            | true =>
             True ∧
              True ∧
               (((AV.d (D.ints IntKind.u32 [(↑(BitVec.toNat x.a) : Int), (↑(BitVec.toNat x.b) : Int), (↑(BitVec.toNat x.c) : Int), (↑(BitVec.toNat x.d) : Int), (↑(BitVec.toNat x.e) : Int), (↑(BitVec.toNat x.f) : Int), (↑(BitVec.toNat x.g) : Int), (↑(BitVec.toNat x.h) : Int)]) =
                    AV.d (D.ints IntKind.u32 [(↑(BitVec.toNat x.a) : Int), (↑(BitVec.toNat x.b) : Int), (↑(BitVec.toNat x.c) : Int), (↑(BitVec.toNat x.d) : Int), (↑(BitVec.toNat x.e) : Int), (↑(BitVec.toNat x.f) : Int), (↑(BitVec.toNat x.g) : Int), (↑(BitVec.toNat x.h) : Int)]) ∧
                   AV.d (D.str l) = AV.d (D.str l) ∧
                    AV.d (D.val (Value.slice none (0 : Nat) (0 : Nat))) = AV.d (D.val (Value.slice none (0 : Nat) (0 : Nat))) ∧
                     AV.row (24 : Nat) = AV.row (24 : Nat) ∧
                      AV.d (D.val (Value.int IntKind.i64 (↑((4 : Nat) * x_1) : Int))) = AV.d (D.val (Value.int IntKind.i64 (↑((4 : Nat) * x_1) : Int))) ∧
                       AV.d (D.val (Value.int IntKind.u32 (0 : Int))) = AV.d (D.val (Value.int IntKind.u32 (↑(BitVec.toNat (pw l (↑((4 : Nat) * x_1) : Int).toNat (0 : Nat))) : Int))) ∧
                        AV.d (D.val (Value.int IntKind.i64 (↑((4 : Nat) * x_1) : Int))) = AV.d (D.val (Value.int IntKind.i64 (↑((4 : Nat) * x_1) : Int))) ∧
                         AV.d (D.val (Value.bool (decide ((↑((4 : Nat) * x_1) : Int) < (64 : Int))))) = AV.d (D.val (Value.bool (decide ((↑((4 : Nat) * x_1) : Int) < (64 : Int))))) ∧ AV.d (D.val (Value.int IntKind.i64 (0 : Int))) = AV.d (D.val (Value.int IntKind.i64 (↑(0 : Nat) : Int))) ∧ True) ∧
                  (some (Blk.row (24 : TypeId) (D.ints IntKind.u32 (wl l x_1))) = some (Blk.row (24 : TypeId) (D.ints IntKind.u32 (wl l x_1))) ∧ True) ∧ true = true) ∧
                 (0 : Nat) ≤ (4 : Nat) ∧ (↑(↑((4 : Nat) * x_1) : Int).toNat : Int) = (↑((4 : Nat) * x_1) : Int)) ∧
                ∀ (x_2 : Nat × Nat),
                 x_2.fst ≤ (4 : Nat) ∧ (↑x_2.snd : Int) = (↑((4 : Nat) * x_1) : Int) →
                  true = true ∧
                   True ∧
                    match decide ((↑x_2.fst : Int) < (4 : Int)) with
                    | true =>
                     True ∧
                      True ∧
                       True ∧
                        True ∧
                         True ∧
                          True ∧
                           True ∧
                            True ∧
                             ((0 : Int) ≤ IntKind.i64.wrap ((↑((4 : Nat) * x_1) : Int) + (↑x_2.fst : Int)) ∧ IntKind.i64.wrap ((↑((4 : Nat) * x_1) : Int) + (↑x_2.fst : Int)) < (↑l.length : Int)) ∧
                              True ∧
                               True ∧
                                True ∧
                                 True ∧
                                  True ∧
                                   ((AV.d (D.ints IntKind.u32 [(↑(BitVec.toNat x.a) : Int), (↑(BitVec.toNat x.b) : Int), (↑(BitVec.toNat x.c) : Int), (↑(BitVec.toNat x.d) : Int), (↑(BitVec.toNat x.e) : Int), (↑(BitVec.toNat x.f) : Int), (↑(BitVec.toNat x.g) : Int), (↑(BitVec.toNat x.h) : Int)]) =
                                       AV.d (D.ints IntKind.u32 [(↑(BitVec.toNat x.a) : Int), (↑(BitVec.toNat x.b) : Int), (↑(BitVec.toNat x.c) : Int), (↑(BitVec.toNat x.d) : Int), (↑(BitVec.toNat x.e) : Int), (↑(BitVec.toNat x.f) : Int), (↑(BitVec.toNat x.g) : Int), (↑(BitVec.toNat x.h) : Int)]) ∧
                                      AV.d (D.str l) = AV.d (D.str l) ∧
                                       AV.d (D.val (Value.slice none (0 : Nat) (0 : Nat))) = AV.d (D.val (Value.slice none (0 : Nat) (0 : Nat))) ∧
                                        AV.row (24 : Nat) = AV.row (24 : Nat) ∧
                                         AV.d (D.val (Value.int IntKind.i64 (↑((4 : Nat) * x_1) : Int))) = AV.d (D.val (Value.int IntKind.i64 (↑((4 : Nat) * x_1) : Int))) ∧
                                          AV.d (D.val (Value.int IntKind.u32 (IntKind.u32.wrap (IntKind.u32.wrap ((↑(BitVec.toNat (pw l x_2.snd x_2.fst)) : Int) * (256 : Int)) + IntKind.u32.wrap (l.getD (IntKind.i64.wrap ((↑((4 : Nat) * x_1) : Int) + (↑x_2.fst : Int))).toNat (0 : Int)))))) =
                                            AV.d (D.val (Value.int IntKind.u32 (↑(BitVec.toNat (pw l (↑((4 : Nat) * x_1) : Int).toNat (IntKind.i64.wrap ((↑x_2.fst : Int) + (1 : Int))).toNat)) : Int))) ∧
                                           AV.d (D.val (Value.int IntKind.i64 (↑((4 : Nat) * x_1) : Int))) = AV.d (D.val (Value.int IntKind.i64 (↑((4 : Nat) * x_1) : Int))) ∧
                                            AV.d (D.val (Value.bool (decide ((↑((4 : Nat) * x_1) : Int) < (64 : Int))))) = AV.d (D.val (Value.bool (decide ((↑((4 : Nat) * x_1) : Int) < (64 : Int))))) ∧
                                             AV.d (D.val (Value.int IntKind.i64 (IntKind.i64.wrap ((↑x_2.fst : Int) + (1 : Int))))) = AV.d (D.val (Value.int IntKind.i64 (↑(IntKind.i64.wrap ((↑x_2.fst : Int) + (1 : Int))).toNat : Int))) ∧ True) ∧
                                     (some (Blk.row (24 : TypeId) (D.ints IntKind.u32 (wl l x_1))) = some (Blk.row (24 : TypeId) (D.ints IntKind.u32 (wl l x_1))) ∧ True) ∧ true = true) ∧
                                    ((IntKind.i64.wrap ((↑x_2.fst : Int) + (1 : Int))).toNat ≤ (4 : Nat) ∧ (↑(↑((4 : Nat) * x_1) : Int).toNat : Int) = (↑((4 : Nat) * x_1) : Int)) ∧ (4 : Nat) - (IntKind.i64.wrap ((↑x_2.fst : Int) + (1 : Int))).toNat < (4 : Nat) - x_2.fst
                    | false =>
                     True ∧
                      True ∧
                       ((1 : Nat) = (1 : Nat) ∧ (1 : Nat) ≤ (4096 : Nat)) ∧
                        ((24 : TypeId) = (24 : TypeId) ∧ (42 : Nat) = (42 : Nat) ∧ true = true ∧ (wl l x_1 ++ [(↑(BitVec.toNat (pw l x_2.snd x_2.fst)) : Int)]).length ≤ (140737488355328 : Nat) ∧ (wl l x_1 ++ [(↑(BitVec.toNat (pw l x_2.snd x_2.fst)) : Int)]).length * (4 : Nat) ≤ (140737488355328 : Nat) ∧ (1 : Nat) ≠ (0 : Nat) ∧ (1 : Nat) = (1 : Nat)) ∧
                         True ∧
                          True ∧
                           True ∧
                            True ∧
                             ((AV.d (D.ints IntKind.u32 [(↑(BitVec.toNat x.a) : Int), (↑(BitVec.toNat x.b) : Int), (↑(BitVec.toNat x.c) : Int), (↑(BitVec.toNat x.d) : Int), (↑(BitVec.toNat x.e) : Int), (↑(BitVec.toNat x.f) : Int), (↑(BitVec.toNat x.g) : Int), (↑(BitVec.toNat x.h) : Int)]) =
                                 AV.d (D.ints IntKind.u32 [(↑(BitVec.toNat x.a) : Int), (↑(BitVec.toNat x.b) : Int), (↑(BitVec.toNat x.c) : Int), (↑(BitVec.toNat x.d) : Int), (↑(BitVec.toNat x.e) : Int), (↑(BitVec.toNat x.f) : Int), (↑(BitVec.toNat x.g) : Int), (↑(BitVec.toNat x.h) : Int)]) ∧
                                AV.d (D.str l) = AV.d (D.str l) ∧
                                 AV.d (D.val (Value.slice none (0 : Nat) (0 : Nat))) = AV.d (D.val (Value.slice none (0 : Nat) (0 : Nat))) ∧
                                  AV.row (24 : Nat) = AV.row (24 : Nat) ∧ AV.d (D.val (Value.int IntKind.i64 (IntKind.i64.wrap ((↑((4 : Nat) * x_1) : Int) + (4 : Int))))) = AV.d (D.val (Value.int IntKind.i64 (↑((4 : Nat) * ((IntKind.i64.wrap ((↑((4 : Nat) * x_1) : Int) + (4 : Int))).toNat / (4 : Nat))) : Int))) ∧ True) ∧
                               (some (Blk.row (24 : TypeId) (D.ints IntKind.u32 (wl l x_1 ++ [(↑(BitVec.toNat (pw l x_2.snd x_2.fst)) : Int)]))) = some (Blk.row (24 : TypeId) (D.ints IntKind.u32 (wl l ((IntKind.i64.wrap ((↑((4 : Nat) * x_1) : Int) + (4 : Int))).toNat / (4 : Nat))))) ∧ True) ∧ true = true) ∧
                              (IntKind.i64.wrap ((↑((4 : Nat) * x_1) : Int) + (4 : Int))).toNat / (4 : Nat) ≤ (16 : Nat) ∧ (16 : Nat) - (IntKind.i64.wrap ((↑((4 : Nat) * x_1) : Int) + (4 : Int))).toNat / (4 : Nat) < (16 : Nat) - x_1
            | false =>
             (((AV.row (24 : Nat) = AV.row (24 : Nat) ∧ True) ∧ (some (Blk.row (24 : TypeId) (D.ints IntKind.u32 (wl l x_1))) = some (Blk.row (24 : TypeId) (D.ints IntKind.u32 (wl l (wl l x_1).length))) ∧ True) ∧ true = true) ∧ (16 : Nat) ≤ (wl l x_1).length ∧ (wl l x_1).length ≤ (64 : Nat)) ∧
              ∀ (x_2 : Nat),
               (16 : Nat) ≤ x_2 ∧ x_2 ≤ (64 : Nat) →
                true = true ∧
                 True ∧
                  True ∧
                   True ∧
                    match decide ((↑(wl l x_2).length : Int) < (64 : Int)) with
                    | true =>
                     True ∧
                      True ∧
                       True ∧
                        True ∧
                         True ∧
                          True ∧
                           ((0 : Int) ≤ IntKind.i64.wrap ((↑(wl l x_2).length : Int) - (15 : Int)) ∧ IntKind.i64.wrap ((↑(wl l x_2).length : Int) - (15 : Int)) < (↑(wl l x_2).length : Int) ∧ (1 : Nat) = (1 : Nat)) ∧
                            ((IntKind.i64.wrap ((↑(wl l x_2).length : Int) - (15 : Int))).toNat < (wl l x_2).length ∧ (1 : Nat) = (1 : Nat) ∧ false = false) ∧
                             True ∧
                              True ∧
                               True ∧
                                ((0 : Int) ≤ IntKind.i64.wrap ((↑(wl l x_2).length : Int) - (2 : Int)) ∧ IntKind.i64.wrap ((↑(wl l x_2).length : Int) - (2 : Int)) < (↑(wl l x_2).length : Int) ∧ (1 : Nat) = (1 : Nat)) ∧
                                 ((IntKind.i64.wrap ((↑(wl l x_2).length : Int) - (2 : Int))).toNat < (wl l x_2).length ∧ (1 : Nat) = (1 : Nat) ∧ false = false) ∧
                                  True ∧
                                   True ∧
                                    True ∧
                                     True ∧
                                      True ∧
                                       True ∧
                                        ((0 : Int) ≤ IntKind.i64.wrap ((↑(wl l x_2).length : Int) - (16 : Int)) ∧ IntKind.i64.wrap ((↑(wl l x_2).length : Int) - (16 : Int)) < (↑(wl l x_2).length : Int) ∧ (1 : Nat) = (1 : Nat)) ∧
                                         ((IntKind.i64.wrap ((↑(wl l x_2).length : Int) - (16 : Int))).toNat < (wl l x_2).length ∧ (1 : Nat) = (1 : Nat) ∧ false = false) ∧
                                          True ∧
                                           True ∧
                                            True ∧
                                             ((0 : Int) ≤ IntKind.i64.wrap ((↑(wl l x_2).length : Int) - (7 : Int)) ∧ IntKind.i64.wrap ((↑(wl l x_2).length : Int) - (7 : Int)) < (↑(wl l x_2).length : Int) ∧ (1 : Nat) = (1 : Nat)) ∧
                                              ((IntKind.i64.wrap ((↑(wl l x_2).length : Int) - (7 : Int))).toNat < (wl l x_2).length ∧ (1 : Nat) = (1 : Nat) ∧ false = false) ∧
                                               True ∧
                                                True ∧
                                                 (∃ (x : W),
                                                   ∃ (n : Nat),
                                                    [D.val (Value.int IntKind.u32 ((wl l x_2).getD (IntKind.i64.wrap ((↑(wl l x_2).length : Int) - (15 : Int))).toNat (0 : Int))), D.val (Value.int IntKind.u64 (7 : Int))] = [D.val (Value.int IntKind.u32 (↑(BitVec.toNat x) : Int)), D.val (Value.int IntKind.u64 (↑n : Int))] ∧
                                                     (1 : Nat) ≤ n ∧ n ≤ (31 : Nat)) ∧
                                                  True ∧
                                                   (∃ (x : W),
                                                     ∃ (n : Nat),
                                                      [D.val (Value.int IntKind.u32 ((wl l x_2).getD (IntKind.i64.wrap ((↑(wl l x_2).length : Int) - (15 : Int))).toNat (0 : Int))), D.val (Value.int IntKind.u64 (18 : Int))] = [D.val (Value.int IntKind.u32 (↑(BitVec.toNat x) : Int)), D.val (Value.int IntKind.u64 (↑n : Int))] ∧
                                                       (1 : Nat) ≤ n ∧ n ≤ (31 : Nat)) ∧
                                                    True ∧
                                                     True ∧
                                                      (8 : Int) ≠ (0 : Int) ∧
                                                       True ∧
                                                        True ∧
                                                         True ∧
                                                          (∃ (x : W),
                                                            ∃ (n : Nat),
                                                             [D.val (Value.int IntKind.u32 ((wl l x_2).getD (IntKind.i64.wrap ((↑(wl l x_2).length : Int) - (2 : Int))).toNat (0 : Int))), D.val (Value.int IntKind.u64 (17 : Int))] = [D.val (Value.int IntKind.u32 (↑(BitVec.toNat x) : Int)), D.val (Value.int IntKind.u64 (↑n : Int))] ∧
                                                              (1 : Nat) ≤ n ∧ n ≤ (31 : Nat)) ∧
                                                           True ∧
                                                            (∃ (x : W),
                                                              ∃ (n : Nat),
                                                               [D.val (Value.int IntKind.u32 ((wl l x_2).getD (IntKind.i64.wrap ((↑(wl l x_2).length : Int) - (2 : Int))).toNat (0 : Int))), D.val (Value.int IntKind.u64 (19 : Int))] = [D.val (Value.int IntKind.u32 (↑(BitVec.toNat x) : Int)), D.val (Value.int IntKind.u64 (↑n : Int))] ∧
                                                                (1 : Nat) ≤ n ∧ n ≤ (31 : Nat)) ∧
                                                             True ∧
                                                              True ∧
                                                               (1024 : Int) ≠ (0 : Int) ∧
                                                                True ∧
                                                                 True ∧
                                                                  ((1 : Nat) = (1 : Nat) ∧ (1 : Nat) ≤ (4096 : Nat)) ∧
                                                                   ((24 : TypeId) = (24 : TypeId) ∧
                                                                     (42 : Nat) = (42 : Nat) ∧
                                                                      true = true ∧
                                                                       (wl l x_2 ++
                                                                           [IntKind.u32.wrap
                                                                             (IntKind.u32.wrap
                                                                               (IntKind.u32.wrap ((wl l x_2).getD (IntKind.i64.wrap ((↑(wl l x_2).length : Int) - (16 : Int))).toNat (0 : Int) + (wl l x_2).getD (IntKind.i64.wrap ((↑(wl l x_2).length : Int) - (7 : Int))).toNat (0 : Int)) +
                                                                                ixor IntKind.u32
                                                                                 (ixor IntKind.u32 (↑(BitVec.toNat (rr (toW (D.val (Value.int IntKind.u32 ((wl l x_2).getD (IntKind.i64.wrap ((↑(wl l x_2).length : Int) - (15 : Int))).toNat (0 : Int))))) (7 : Nat))) : Int)
                                                                                  (↑(BitVec.toNat (rr (toW (D.val (Value.int IntKind.u32 ((wl l x_2).getD (IntKind.i64.wrap ((↑(wl l x_2).length : Int) - (15 : Int))).toNat (0 : Int))))) (18 : Nat))) : Int))
                                                                                 (IntKind.u32.wrap (((wl l x_2).getD (IntKind.i64.wrap ((↑(wl l x_2).length : Int) - (15 : Int))).toNat (0 : Int)).tdiv (8 : Int)))) +
                                                                              ixor IntKind.u32
                                                                               (ixor IntKind.u32 (↑(BitVec.toNat (rr (toW (D.val (Value.int IntKind.u32 ((wl l x_2).getD (IntKind.i64.wrap ((↑(wl l x_2).length : Int) - (2 : Int))).toNat (0 : Int))))) (17 : Nat))) : Int)
                                                                                (↑(BitVec.toNat (rr (toW (D.val (Value.int IntKind.u32 ((wl l x_2).getD (IntKind.i64.wrap ((↑(wl l x_2).length : Int) - (2 : Int))).toNat (0 : Int))))) (19 : Nat))) : Int))
                                                                               (IntKind.u32.wrap (((wl l x_2).getD (IntKind.i64.wrap ((↑(wl l x_2).length : Int) - (2 : Int))).toNat (0 : Int)).tdiv (1024 : Int))))]).length ≤
                                                                         (140737488355328 : Nat) ∧
                                                                        (wl l x_2 ++
                                                                             [IntKind.u32.wrap
                                                                               (IntKind.u32.wrap
                                                                                 (IntKind.u32.wrap ((wl l x_2).getD (IntKind.i64.wrap ((↑(wl l x_2).length : Int) - (16 : Int))).toNat (0 : Int) + (wl l x_2).getD (IntKind.i64.wrap ((↑(wl l x_2).length : Int) - (7 : Int))).toNat (0 : Int)) +
                                                                                  ixor IntKind.u32
                                                                                   (ixor IntKind.u32 (↑(BitVec.toNat (rr (toW (D.val (Value.int IntKind.u32 ((wl l x_2).getD (IntKind.i64.wrap ((↑(wl l x_2).length : Int) - (15 : Int))).toNat (0 : Int))))) (7 : Nat))) : Int)
                                                                                    (↑(BitVec.toNat (rr (toW (D.val (Value.int IntKind.u32 ((wl l x_2).getD (IntKind.i64.wrap ((↑(wl l x_2).length : Int) - (15 : Int))).toNat (0 : Int))))) (18 : Nat))) : Int))
                                                                                   (IntKind.u32.wrap (((wl l x_2).getD (IntKind.i64.wrap ((↑(wl l x_2).length : Int) - (15 : Int))).toNat (0 : Int)).tdiv (8 : Int)))) +
                                                                                ixor IntKind.u32
                                                                                 (ixor IntKind.u32 (↑(BitVec.toNat (rr (toW (D.val (Value.int IntKind.u32 ((wl l x_2).getD (IntKind.i64.wrap ((↑(wl l x_2).length : Int) - (2 : Int))).toNat (0 : Int))))) (17 : Nat))) : Int)
                                                                                  (↑(BitVec.toNat (rr (toW (D.val (Value.int IntKind.u32 ((wl l x_2).getD (IntKind.i64.wrap ((↑(wl l x_2).length : Int) - (2 : Int))).toNat (0 : Int))))) (19 : Nat))) : Int))
                                                                                 (IntKind.u32.wrap (((wl l x_2).getD (IntKind.i64.wrap ((↑(wl l x_2).length : Int) - (2 : Int))).toNat (0 : Int)).tdiv (1024 : Int))))]).length *
                                                                           (4 : Nat) ≤
                                                                          (140737488355328 : Nat) ∧
                                                                         (1 : Nat) ≠ (0 : Nat) ∧ (1 : Nat) = (1 : Nat)) ∧
                                                                    True ∧
                                                                     ((AV.row (24 : Nat) = AV.row (24 : Nat) ∧ True) ∧
                                                                       (some
                                                                           (Blk.row (24 : TypeId)
                                                                            (D.ints IntKind.u32
                                                                             (wl l x_2 ++
                                                                              [IntKind.u32.wrap
                                                                                (IntKind.u32.wrap
                                                                                  (IntKind.u32.wrap ((wl l x_2).getD (IntKind.i64.wrap ((↑(wl l x_2).length : Int) - (16 : Int))).toNat (0 : Int) + (wl l x_2).getD (IntKind.i64.wrap ((↑(wl l x_2).length : Int) - (7 : Int))).toNat (0 : Int)) +
                                                                                   ixor IntKind.u32
                                                                                    (ixor IntKind.u32 (↑(BitVec.toNat (rr (toW (D.val (Value.int IntKind.u32 ((wl l x_2).getD (IntKind.i64.wrap ((↑(wl l x_2).length : Int) - (15 : Int))).toNat (0 : Int))))) (7 : Nat))) : Int)
                                                                                     (↑(BitVec.toNat (rr (toW (D.val (Value.int IntKind.u32 ((wl l x_2).getD (IntKind.i64.wrap ((↑(wl l x_2).length : Int) - (15 : Int))).toNat (0 : Int))))) (18 : Nat))) : Int))
                                                                                    (IntKind.u32.wrap (((wl l x_2).getD (IntKind.i64.wrap ((↑(wl l x_2).length : Int) - (15 : Int))).toNat (0 : Int)).tdiv (8 : Int)))) +
                                                                                 ixor IntKind.u32
                                                                                  (ixor IntKind.u32 (↑(BitVec.toNat (rr (toW (D.val (Value.int IntKind.u32 ((wl l x_2).getD (IntKind.i64.wrap ((↑(wl l x_2).length : Int) - (2 : Int))).toNat (0 : Int))))) (17 : Nat))) : Int)
                                                                                   (↑(BitVec.toNat (rr (toW (D.val (Value.int IntKind.u32 ((wl l x_2).getD (IntKind.i64.wrap ((↑(wl l x_2).length : Int) - (2 : Int))).toNat (0 : Int))))) (19 : Nat))) : Int))
                                                                                  (IntKind.u32.wrap (((wl l x_2).getD (IntKind.i64.wrap ((↑(wl l x_2).length : Int) - (2 : Int))).toNat (0 : Int)).tdiv (1024 : Int))))]))) =
                                                                          some
                                                                           (Blk.row (24 : TypeId)
                                                                            (D.ints IntKind.u32
                                                                             (wl l
                                                                              (wl l x_2 ++
                                                                                [IntKind.u32.wrap
                                                                                  (IntKind.u32.wrap
                                                                                    (IntKind.u32.wrap ((wl l x_2).getD (IntKind.i64.wrap ((↑(wl l x_2).length : Int) - (16 : Int))).toNat (0 : Int) + (wl l x_2).getD (IntKind.i64.wrap ((↑(wl l x_2).length : Int) - (7 : Int))).toNat (0 : Int)) +
                                                                                     ixor IntKind.u32
                                                                                      (ixor IntKind.u32 (↑(BitVec.toNat (rr (toW (D.val (Value.int IntKind.u32 ((wl l x_2).getD (IntKind.i64.wrap ((↑(wl l x_2).length : Int) - (15 : Int))).toNat (0 : Int))))) (7 : Nat))) : Int)
                                                                                       (↑(BitVec.toNat (rr (toW (D.val (Value.int IntKind.u32 ((wl l x_2).getD (IntKind.i64.wrap ((↑(wl l x_2).length : Int) - (15 : Int))).toNat (0 : Int))))) (18 : Nat))) : Int))
                                                                                      (IntKind.u32.wrap (((wl l x_2).getD (IntKind.i64.wrap ((↑(wl l x_2).length : Int) - (15 : Int))).toNat (0 : Int)).tdiv (8 : Int)))) +
                                                                                   ixor IntKind.u32
                                                                                    (ixor IntKind.u32 (↑(BitVec.toNat (rr (toW (D.val (Value.int IntKind.u32 ((wl l x_2).getD (IntKind.i64.wrap ((↑(wl l x_2).length : Int) - (2 : Int))).toNat (0 : Int))))) (17 : Nat))) : Int)
                                                                                     (↑(BitVec.toNat (rr (toW (D.val (Value.int IntKind.u32 ((wl l x_2).getD (IntKind.i64.wrap ((↑(wl l x_2).length : Int) - (2 : Int))).toNat (0 : Int))))) (19 : Nat))) : Int))
                                                                                    (IntKind.u32.wrap (((wl l x_2).getD (IntKind.i64.wrap ((↑(wl l x_2).length : Int) - (2 : Int))).toNat (0 : Int)).tdiv (1024 : Int))))]).length))) ∧
                                                                         True) ∧
                                                                        true = true) ∧
                                                                      ((16 : Nat) ≤
                                                                         (wl l x_2 ++
                                                                           [IntKind.u32.wrap
                                                                             (IntKind.u32.wrap
                                                                               (IntKind.u32.wrap ((wl l x_2).getD (IntKind.i64.wrap ((↑(wl l x_2).length : Int) - (16 : Int))).toNat (0 : Int) + (wl l x_2).getD (IntKind.i64.wrap ((↑(wl l x_2).length : Int) - (7 : Int))).toNat (0 : Int)) +
                                                                                ixor IntKind.u32
                                                                                 (ixor IntKind.u32 (↑(BitVec.toNat (rr (toW (D.val (Value.int IntKind.u32 ((wl l x_2).getD (IntKind.i64.wrap ((↑(wl l x_2).length : Int) - (15 : Int))).toNat (0 : Int))))) (7 : Nat))) : Int)
                                                                                  (↑(BitVec.toNat (rr (toW (D.val (Value.int IntKind.u32 ((wl l x_2).getD (IntKind.i64.wrap ((↑(wl l x_2).length : Int) - (15 : Int))).toNat (0 : Int))))) (18 : Nat))) : Int))
                                                                                 (IntKind.u32.wrap (((wl l x_2).getD (IntKind.i64.wrap ((↑(wl l x_2).length : Int) - (15 : Int))).toNat (0 : Int)).tdiv (8 : Int)))) +
                                                                              ixor IntKind.u32
                                                                               (ixor IntKind.u32 (↑(BitVec.toNat (rr (toW (D.val (Value.int IntKind.u32 ((wl l x_2).getD (IntKind.i64.wrap ((↑(wl l x_2).length : Int) - (2 : Int))).toNat (0 : Int))))) (17 : Nat))) : Int)
                                                                                (↑(BitVec.toNat (rr (toW (D.val (Value.int IntKind.u32 ((wl l x_2).getD (IntKind.i64.wrap ((↑(wl l x_2).length : Int) - (2 : Int))).toNat (0 : Int))))) (19 : Nat))) : Int))
                                                                               (IntKind.u32.wrap (((wl l x_2).getD (IntKind.i64.wrap ((↑(wl l x_2).length : Int) - (2 : Int))).toNat (0 : Int)).tdiv (1024 : Int))))]).length ∧
                                                                        (wl l x_2 ++
                                                                           [IntKind.u32.wrap
                                                                             (IntKind.u32.wrap
                                                                               (IntKind.u32.wrap ((wl l x_2).getD (IntKind.i64.wrap ((↑(wl l x_2).length : Int) - (16 : Int))).toNat (0 : Int) + (wl l x_2).getD (IntKind.i64.wrap ((↑(wl l x_2).length : Int) - (7 : Int))).toNat (0 : Int)) +
                                                                                ixor IntKind.u32
                                                                                 (ixor IntKind.u32 (↑(BitVec.toNat (rr (toW (D.val (Value.int IntKind.u32 ((wl l x_2).getD (IntKind.i64.wrap ((↑(wl l x_2).length : Int) - (15 : Int))).toNat (0 : Int))))) (7 : Nat))) : Int)
                                                                                  (↑(BitVec.toNat (rr (toW (D.val (Value.int IntKind.u32 ((wl l x_2).getD (IntKind.i64.wrap ((↑(wl l x_2).length : Int) - (15 : Int))).toNat (0 : Int))))) (18 : Nat))) : Int))
                                                                                 (IntKind.u32.wrap (((wl l x_2).getD (IntKind.i64.wrap ((↑(wl l x_2).length : Int) - (15 : Int))).toNat (0 : Int)).tdiv (8 : Int)))) +
                                                                              ixor IntKind.u32
                                                                               (ixor IntKind.u32 (↑(BitVec.toNat (rr (toW (D.val (Value.int IntKind.u32 ((wl l x_2).getD (IntKind.i64.wrap ((↑(wl l x_2).length : Int) - (2 : Int))).toNat (0 : Int))))) (17 : Nat))) : Int)
                                                                                (↑(BitVec.toNat (rr (toW (D.val (Value.int IntKind.u32 ((wl l x_2).getD (IntKind.i64.wrap ((↑(wl l x_2).length : Int) - (2 : Int))).toNat (0 : Int))))) (19 : Nat))) : Int))
                                                                               (IntKind.u32.wrap (((wl l x_2).getD (IntKind.i64.wrap ((↑(wl l x_2).length : Int) - (2 : Int))).toNat (0 : Int)).tdiv (1024 : Int))))]).length ≤
                                                                         (64 : Nat)) ∧
                                                                       (64 : Nat) -
                                                                         (wl l x_2 ++
                                                                           [IntKind.u32.wrap
                                                                             (IntKind.u32.wrap
                                                                               (IntKind.u32.wrap ((wl l x_2).getD (IntKind.i64.wrap ((↑(wl l x_2).length : Int) - (16 : Int))).toNat (0 : Int) + (wl l x_2).getD (IntKind.i64.wrap ((↑(wl l x_2).length : Int) - (7 : Int))).toNat (0 : Int)) +
                                                                                ixor IntKind.u32
                                                                                 (ixor IntKind.u32 (↑(BitVec.toNat (rr (toW (D.val (Value.int IntKind.u32 ((wl l x_2).getD (IntKind.i64.wrap ((↑(wl l x_2).length : Int) - (15 : Int))).toNat (0 : Int))))) (7 : Nat))) : Int)
                                                                                  (↑(BitVec.toNat (rr (toW (D.val (Value.int IntKind.u32 ((wl l x_2).getD (IntKind.i64.wrap ((↑(wl l x_2).length : Int) - (15 : Int))).toNat (0 : Int))))) (18 : Nat))) : Int))
                                                                                 (IntKind.u32.wrap (((wl l x_2).getD (IntKind.i64.wrap ((↑(wl l x_2).length : Int) - (15 : Int))).toNat (0 : Int)).tdiv (8 : Int)))) +
                                                                              ixor IntKind.u32
                                                                               (ixor IntKind.u32 (↑(BitVec.toNat (rr (toW (D.val (Value.int IntKind.u32 ((wl l x_2).getD (IntKind.i64.wrap ((↑(wl l x_2).length : Int) - (2 : Int))).toNat (0 : Int))))) (17 : Nat))) : Int)
                                                                                (↑(BitVec.toNat (rr (toW (D.val (Value.int IntKind.u32 ((wl l x_2).getD (IntKind.i64.wrap ((↑(wl l x_2).length : Int) - (2 : Int))).toNat (0 : Int))))) (19 : Nat))) : Int))
                                                                               (IntKind.u32.wrap (((wl l x_2).getD (IntKind.i64.wrap ((↑(wl l x_2).length : Int) - (2 : Int))).toNat (0 : Int)).tdiv (1024 : Int))))]).length <
                                                                        (64 : Nat) - x_2
                    | false =>
                     True ∧
                      ((0 : Int) ≤ (0 : Int) ∧ (0 : Int) < (↑(8 : Nat) : Int) ∧ (1 : Nat) = (1 : Nat)) ∧
                       ((1 : Nat) ≠ (0 : Nat) ∧ (1 : Nat) = (1 : Nat) ∧ false = false) ∧
                        True ∧
                         ((0 : Int) ≤ (1 : Int) ∧ (1 : Int) < (↑(8 : Nat) : Int) ∧ (1 : Nat) = (1 : Nat)) ∧
                          ((1 : Nat) ≠ (0 : Nat) ∧ (1 : Nat) = (1 : Nat) ∧ false = false) ∧
                           True ∧
                            ((0 : Int) ≤ (2 : Int) ∧ (2 : Int) < (↑(8 : Nat) : Int) ∧ (1 : Nat) = (1 : Nat)) ∧
                             ((1 : Nat) ≠ (0 : Nat) ∧ (1 : Nat) = (1 : Nat) ∧ false = false) ∧
                              True ∧
                               ((0 : Int) ≤ (3 : Int) ∧ (3 : Int) < (↑(8 : Nat) : Int) ∧ (1 : Nat) = (1 : Nat)) ∧
                                ((1 : Nat) ≠ (0 : Nat) ∧ (1 : Nat) = (1 : Nat) ∧ false = false) ∧
                                 True ∧
                                  ((0 : Int) ≤ (4 : Int) ∧ (4 : Int) < (↑(8 : Nat) : Int) ∧ (1 : Nat) = (1 : Nat)) ∧
                                   ((1 : Nat) ≠ (0 : Nat) ∧ (1 : Nat) = (1 : Nat) ∧ false = false) ∧
                                    True ∧
                                     ((0 : Int) ≤ (5 : Int) ∧ (5 : Int) < (↑(8 : Nat) : Int) ∧ (1 : Nat) = (1 : Nat)) ∧
                                      ((1 : Nat) ≠ (0 : Nat) ∧ (1 : Nat) = (1 : Nat) ∧ false = false) ∧
                                       True ∧
                                        ((0 : Int) ≤ (6 : Int) ∧ (6 : Int) < (↑(8 : Nat) : Int) ∧ (1 : Nat) = (1 : Nat)) ∧
                                         ((1 : Nat) ≠ (0 : Nat) ∧ (1 : Nat) = (1 : Nat) ∧ false = false) ∧
                                          True ∧
                                           ((0 : Int) ≤ (7 : Int) ∧ (7 : Int) < (↑(8 : Nat) : Int) ∧ (1 : Nat) = (1 : Nat)) ∧
                                            ((1 : Nat) ≠ (0 : Nat) ∧ (1 : Nat) = (1 : Nat) ∧ false = false) ∧
                                             True ∧
                                              True ∧
                                               True ∧
                                                True ∧
                                                 True ∧
                                                  True ∧
                                                   True ∧
                                                    True ∧
                                                     True ∧
                                                      True ∧
                                                       True ∧
                                                        (((AV.d (D.ints IntKind.u32 [(↑(BitVec.toNat x.a) : Int), (↑(BitVec.toNat x.b) : Int), (↑(BitVec.toNat x.c) : Int), (↑(BitVec.toNat x.d) : Int), (↑(BitVec.toNat x.e) : Int), (↑(BitVec.toNat x.f) : Int), (↑(BitVec.toNat x.g) : Int), (↑(BitVec.toNat x.h) : Int)]) =
                                                             AV.d (D.ints IntKind.u32 [(↑(BitVec.toNat x.a) : Int), (↑(BitVec.toNat x.b) : Int), (↑(BitVec.toNat x.c) : Int), (↑(BitVec.toNat x.d) : Int), (↑(BitVec.toNat x.e) : Int), (↑(BitVec.toNat x.f) : Int), (↑(BitVec.toNat x.g) : Int), (↑(BitVec.toNat x.h) : Int)]) ∧
                                                            AV.d (D.str l) = AV.d (D.str l) ∧
                                                             AV.d (D.val (Value.slice none (0 : Nat) (0 : Nat))) = AV.d (D.val (Value.slice none (0 : Nat) (0 : Nat))) ∧
                                                              AV.row (24 : Nat) = AV.row (24 : Nat) ∧
                                                               AV.d (D.val (Value.int IntKind.i64 (↑((4 : Nat) * x_1) : Int))) = AV.d (D.val (Value.int IntKind.i64 (↑((4 : Nat) * x_1) : Int))) ∧
                                                                AV.d (D.val (Value.int IntKind.u32 (↑(BitVec.toNat x.a) : Int))) = AV.d (D.val (Value.int IntKind.u32 (↑(BitVec.toNat (rd x l (Int.toNat (0 : Int))).a) : Int))) ∧
                                                                 AV.d (D.val (Value.int IntKind.u32 (↑(BitVec.toNat x.b) : Int))) = AV.d (D.val (Value.int IntKind.u32 (↑(BitVec.toNat (rd x l (Int.toNat (0 : Int))).b) : Int))) ∧
                                                                  AV.d (D.val (Value.int IntKind.u32 (↑(BitVec.toNat x.c) : Int))) = AV.d (D.val (Value.int IntKind.u32 (↑(BitVec.toNat (rd x l (Int.toNat (0 : Int))).c) : Int))) ∧
                                                                   AV.d (D.val (Value.int IntKind.u32 (↑(BitVec.toNat x.d) : Int))) = AV.d (D.val (Value.int IntKind.u32 (↑(BitVec.toNat (rd x l (Int.toNat (0 : Int))).d) : Int))) ∧
                                                                    AV.d (D.val (Value.int IntKind.u32 (↑(BitVec.toNat x.e) : Int))) = AV.d (D.val (Value.int IntKind.u32 (↑(BitVec.toNat (rd x l (Int.toNat (0 : Int))).e) : Int))) ∧
                                                                     AV.d (D.val (Value.int IntKind.u32 (↑(BitVec.toNat x.f) : Int))) = AV.d (D.val (Value.int IntKind.u32 (↑(BitVec.toNat (rd x l (Int.toNat (0 : Int))).f) : Int))) ∧
                                                                      AV.d (D.val (Value.int IntKind.u32 (↑(BitVec.toNat x.g) : Int))) = AV.d (D.val (Value.int IntKind.u32 (↑(BitVec.toNat (rd x l (Int.toNat (0 : Int))).g) : Int))) ∧
                                                                       AV.d (D.val (Value.int IntKind.u32 (↑(BitVec.toNat x.h) : Int))) = AV.d (D.val (Value.int IntKind.u32 (↑(BitVec.toNat (rd x l (Int.toNat (0 : Int))).h) : Int))) ∧
                                                                        AV.d (D.val (Value.int IntKind.i64 (↑((4 : Nat) * x_1) : Int))) = AV.d (D.val (Value.int IntKind.i64 (↑((4 : Nat) * x_1) : Int))) ∧
                                                                         AV.d (D.val (Value.bool (decide ((↑((4 : Nat) * x_1) : Int) < (64 : Int))))) = AV.d (D.val (Value.bool (decide ((↑((4 : Nat) * x_1) : Int) < (64 : Int))))) ∧
                                                                          AV.row (24 : Nat) = AV.row (24 : Nat) ∧
                                                                           AV.d (D.val (Value.int IntKind.i64 (↑(wl l x_2).length : Int))) = AV.d (D.val (Value.int IntKind.i64 (↑(wl l x_2).length : Int))) ∧
                                                                            AV.d (D.val (Value.bool (decide ((↑(wl l x_2).length : Int) < (64 : Int))))) = AV.d (D.val (Value.bool (decide ((↑(wl l x_2).length : Int) < (64 : Int))))) ∧
                                                                             AV.d
                                                                                (D.ints IntKind.u32
                                                                                 [(↑(BitVec.toNat x.a) : Int), (↑(BitVec.toNat x.b) : Int), (↑(BitVec.toNat x.c) : Int), (↑(BitVec.toNat x.d) : Int), (↑(BitVec.toNat x.e) : Int), (↑(BitVec.toNat x.f) : Int), (↑(BitVec.toNat x.g) : Int), (↑(BitVec.toNat x.h) : Int)]) =
                                                                               AV.d
                                                                                (D.ints IntKind.u32
                                                                                 [(↑(BitVec.toNat x.a) : Int), (↑(BitVec.toNat x.b) : Int), (↑(BitVec.toNat x.c) : Int), (↑(BitVec.toNat x.d) : Int), (↑(BitVec.toNat x.e) : Int), (↑(BitVec.toNat x.f) : Int), (↑(BitVec.toNat x.g) : Int), (↑(BitVec.toNat x.h) : Int)]) ∧
                                                                              AV.dat (D.val (Value.int IntKind.u32 (↑(BitVec.toNat x.a) : Int))) = AV.dat (D.val (Value.int IntKind.u32 (↑(BitVec.toNat x.a) : Int))) ∧
                                                                               AV.d (D.val (Value.int IntKind.u32 (↑(BitVec.toNat x.a) : Int))) = AV.d (D.val (Value.int IntKind.u32 (↑(BitVec.toNat x.a) : Int))) ∧
                                                                                AV.d
                                                                                   (D.ints IntKind.u32
                                                                                    [(↑(BitVec.toNat x.a) : Int), (↑(BitVec.toNat x.b) : Int), (↑(BitVec.toNat x.c) : Int), (↑(BitVec.toNat x.d) : Int), (↑(BitVec.toNat x.e) : Int), (↑(BitVec.toNat x.f) : Int), (↑(BitVec.toNat x.g) : Int),
                                                                                     (↑(BitVec.toNat x.h) : Int)]) =
                                                                                  AV.d
                                                                                   (D.ints IntKind.u32
                                                                                    [(↑(BitVec.toNat x.a) : Int), (↑(BitVec.toNat x.b) : Int), (↑(BitVec.toNat x.c) : Int), (↑(BitVec.toNat x.d) : Int), (↑(BitVec.toNat x.e) : Int), (↑(BitVec.toNat x.f) : Int), (↑(BitVec.toNat x.g) : Int),
                                                                                     (↑(BitVec.toNat x.h) : Int)]) ∧
                                                                                 AV.dat (D.val (Value.int IntKind.u32 (↑(BitVec.toNat x.b) : Int))) = AV.dat (D.val (Value.int IntKind.u32 (↑(BitVec.toNat x.b) : Int))) ∧
                                                                                  AV.d (D.val (Value.int IntKind.u32 (↑(BitVec.toNat x.b) : Int))) = AV.d (D.val (Value.int IntKind.u32 (↑(BitVec.toNat x.b) : Int))) ∧
                                                                                   AV.d
                                                                                      (D.ints IntKind.u32
                                                                                       [(↑(BitVec.toNat x.a) : Int), (↑(BitVec.toNat x.b) : Int), (↑(BitVec.toNat x.c) : Int), (↑(BitVec.toNat x.d) : Int), (↑(BitVec.toNat x.e) : Int), (↑(BitVec.toNat x.f) : Int), (↑(BitVec.toNat x.g) : Int),
                                                                                        (↑(BitVec.toNat x.h) : Int)]) =
                                                                                     AV.d
                                                                                      (D.ints IntKind.u32
                                                                                       [(↑(BitVec.toNat x.a) : Int), (↑(BitVec.toNat x.b) : Int), (↑(BitVec.toNat x.c) : Int), (↑(BitVec.toNat x.d) : Int), (↑(BitVec.toNat x.e) : Int), (↑(BitVec.toNat x.f) : Int), (↑(BitVec.toNat x.g) : Int),
                                                                                        (↑(BitVec.toNat x.h) : Int)]) ∧
                                                                                    AV.dat (D.val (Value.int IntKind.u32 (↑(BitVec.toNat x.c) : Int))) = AV.dat (D.val (Value.int IntKind.u32 (↑(BitVec.toNat x.c) : Int))) ∧
                                                                                     AV.d (D.val (Value.int IntKind.u32 (↑(BitVec.toNat x.c) : Int))) = AV.d (D.val (Value.int IntKind.u32 (↑(BitVec.toNat x.c) : Int))) ∧
                                                                                      AV.d
                                                                                         (D.ints IntKind.u32
                                                                                          [(↑(BitVec.toNat x.a) : Int), (↑(BitVec.toNat x.b) : Int), (↑(BitVec.toNat x.c) : Int), (↑(BitVec.toNat x.d) : Int), (↑(BitVec.toNat x.e) : Int), (↑(BitVec.toNat x.f) : Int), (↑(BitVec.toNat x.g) : Int),
                                                                                           (↑(BitVec.toNat x.h) : Int)]) =
                                                                                        AV.d
                                                                                         (D.ints IntKind.u32
                                                                                          [(↑(BitVec.toNat x.a) : Int), (↑(BitVec.toNat x.b) : Int), (↑(BitVec.toNat x.c) : Int), (↑(BitVec.toNat x.d) : Int), (↑(BitVec.toNat x.e) : Int), (↑(BitVec.toNat x.f) : Int), (↑(BitVec.toNat x.g) : Int),
                                                                                           (↑(BitVec.toNat x.h) : Int)]) ∧
                                                                                       AV.dat (D.val (Value.int IntKind.u32 (↑(BitVec.toNat x.d) : Int))) = AV.dat (D.val (Value.int IntKind.u32 (↑(BitVec.toNat x.d) : Int))) ∧
                                                                                        AV.d (D.val (Value.int IntKind.u32 (↑(BitVec.toNat x.d) : Int))) = AV.d (D.val (Value.int IntKind.u32 (↑(BitVec.toNat x.d) : Int))) ∧
                                                                                         AV.d
                                                                                            (D.ints IntKind.u32
                                                                                             [(↑(BitVec.toNat x.a) : Int), (↑(BitVec.toNat x.b) : Int), (↑(BitVec.toNat x.c) : Int), (↑(BitVec.toNat x.d) : Int), (↑(BitVec.toNat x.e) : Int), (↑(BitVec.toNat x.f) : Int), (↑(BitVec.toNat x.g) : Int),
                                                                                              (↑(BitVec.toNat x.h) : Int)]) =
                                                                                           AV.d
                                                                                            (D.ints IntKind.u32
                                                                                             [(↑(BitVec.toNat x.a) : Int), (↑(BitVec.toNat x.b) : Int), (↑(BitVec.toNat x.c) : Int), (↑(BitVec.toNat x.d) : Int), (↑(BitVec.toNat x.e) : Int), (↑(BitVec.toNat x.f) : Int), (↑(BitVec.toNat x.g) : Int),
                                                                                              (↑(BitVec.toNat x.h) : Int)]) ∧
                                                                                          AV.dat (D.val (Value.int IntKind.u32 (↑(BitVec.toNat x.e) : Int))) = AV.dat (D.val (Value.int IntKind.u32 (↑(BitVec.toNat x.e) : Int))) ∧
                                                                                           AV.d (D.val (Value.int IntKind.u32 (↑(BitVec.toNat x.e) : Int))) = AV.d (D.val (Value.int IntKind.u32 (↑(BitVec.toNat x.e) : Int))) ∧
                                                                                            AV.d
                                                                                               (D.ints IntKind.u32
                                                                                                [(↑(BitVec.toNat x.a) : Int), (↑(BitVec.toNat x.b) : Int), (↑(BitVec.toNat x.c) : Int), (↑(BitVec.toNat x.d) : Int), (↑(BitVec.toNat x.e) : Int), (↑(BitVec.toNat x.f) : Int), (↑(BitVec.toNat x.g) : Int),
                                                                                                 (↑(BitVec.toNat x.h) : Int)]) =
                                                                                              AV.d
                                                                                               (D.ints IntKind.u32
                                                                                                [(↑(BitVec.toNat x.a) : Int), (↑(BitVec.toNat x.b) : Int), (↑(BitVec.toNat x.c) : Int), (↑(BitVec.toNat x.d) : Int), (↑(BitVec.toNat x.e) : Int), (↑(BitVec.toNat x.f) : Int), (↑(BitVec.toNat x.g) : Int),
                                                                                                 (↑(BitVec.toNat x.h) : Int)]) ∧
                                                                                             AV.dat (D.val (Value.int IntKind.u32 (↑(BitVec.toNat x.f) : Int))) = AV.dat (D.val (Value.int IntKind.u32 (↑(BitVec.toNat x.f) : Int))) ∧
                                                                                              AV.d (D.val (Value.int IntKind.u32 (↑(BitVec.toNat x.f) : Int))) = AV.d (D.val (Value.int IntKind.u32 (↑(BitVec.toNat x.f) : Int))) ∧
                                                                                               AV.d
                                                                                                  (D.ints IntKind.u32
                                                                                                   [(↑(BitVec.toNat x.a) : Int), (↑(BitVec.toNat x.b) : Int), (↑(BitVec.toNat x.c) : Int), (↑(BitVec.toNat x.d) : Int), (↑(BitVec.toNat x.e) : Int), (↑(BitVec.toNat x.f) : Int), (↑(BitVec.toNat x.g) : Int),
                                                                                                    (↑(BitVec.toNat x.h) : Int)]) =
                                                                                                 AV.d
                                                                                                  (D.ints IntKind.u32
                                                                                                   [(↑(BitVec.toNat x.a) : Int), (↑(BitVec.toNat x.b) : Int), (↑(BitVec.toNat x.c) : Int), (↑(BitVec.toNat x.d) : Int), (↑(BitVec.toNat x.e) : Int), (↑(BitVec.toNat x.f) : Int), (↑(BitVec.toNat x.g) : Int),
                                                                                                    (↑(BitVec.toNat x.h) : Int)]) ∧
                                                                                                AV.dat (D.val (Value.int IntKind.u32 (↑(BitVec.toNat x.g) : Int))) = AV.dat (D.val (Value.int IntKind.u32 (↑(BitVec.toNat x.g) : Int))) ∧
                                                                                                 AV.d (D.val (Value.int IntKind.u32 (↑(BitVec.toNat x.g) : Int))) = AV.d (D.val (Value.int IntKind.u32 (↑(BitVec.toNat x.g) : Int))) ∧
                                                                                                  AV.d
                                                                                                     (D.ints IntKind.u32
                                                                                                      [(↑(BitVec.toNat x.a) : Int), (↑(BitVec.toNat x.b) : Int), (↑(BitVec.toNat x.c) : Int), (↑(BitVec.toNat x.d) : Int), (↑(BitVec.toNat x.e) : Int), (↑(BitVec.toNat x.f) : Int),
                                                                                                       (↑(BitVec.toNat x.g) : Int), (↑(BitVec.toNat x.h) : Int)]) =
                                                                                                    AV.d
                                                                                                     (D.ints IntKind.u32
                                                                                                      [(↑(BitVec.toNat x.a) : Int), (↑(BitVec.toNat x.b) : Int), (↑(BitVec.toNat x.c) : Int), (↑(BitVec.toNat x.d) : Int), (↑(BitVec.toNat x.e) : Int), (↑(BitVec.toNat x.f) : Int),
                                                                                                       (↑(BitVec.toNat x.g) : Int), (↑(BitVec.toNat x.h) : Int)]) ∧
                                                                                                   AV.dat (D.val (Value.int IntKind.u32 (↑(BitVec.toNat x.h) : Int))) = AV.dat (D.val (Value.int IntKind.u32 (↑(BitVec.toNat x.h) : Int))) ∧
                                                                                                    AV.d (D.val (Value.int IntKind.u32 (↑(BitVec.toNat x.h) : Int))) = AV.d (D.val (Value.int IntKind.u32 (↑(BitVec.toNat x.h) : Int))) ∧
                                                                                                     AV.row (24 : Nat) = AV.row (24 : Nat) ∧
                                                                                                      AV.d (D.val (Value.int IntKind.i64 (↑(wl l x_2).length : Int))) = AV.d (D.val (Value.int IntKind.i64 (↑(wl l x_2).length : Int))) ∧
                                                                                                       AV.d (D.val (Value.int IntKind.i64 (0 : Int))) = AV.d (D.val (Value.int IntKind.i64 (↑(Int.toNat (0 : Int)) : Int))) ∧ True) ∧
                                                           (some (Blk.row (24 : TypeId) (D.ints IntKind.u32 (wl l x_2))) = some (Blk.row (24 : TypeId) (D.ints IntKind.u32 (wl l x_2))) ∧ True) ∧ true = true) ∧
                                                          Int.toNat (0 : Int) ≤ (64 : Nat)) ∧
                                                         ∀ (x_3 : Nat),
                                                          x_3 ≤ (64 : Nat) →
                                                           true = true ∧
                                                            True ∧
                                                             match decide ((↑x_3 : Int) < (↑(wl l x_2).length : Int)) with
                                                             | true =>
                                                              True ∧
                                                               ((0 : Int) ≤ (↑x_3 : Int) ∧ (↑x_3 : Int) < (↑(wl l x_2).length : Int) ∧ (1 : Nat) = (1 : Nat)) ∧
                                                                ((↑x_3 : Int).toNat < (wl l x_2).length ∧ (1 : Nat) = (1 : Nat) ∧ false = false) ∧
                                                                 True ∧
                                                                  True ∧
                                                                   True ∧
                                                                    True ∧
                                                                     (∃ (x_4 : W),
                                                                       ∃ (n : Nat),
                                                                        [D.val (Value.int IntKind.u32 (↑(BitVec.toNat (rd x l x_3).e) : Int)), D.val (Value.int IntKind.u64 (6 : Int))] = [D.val (Value.int IntKind.u32 (↑(BitVec.toNat x_4) : Int)), D.val (Value.int IntKind.u64 (↑n : Int))] ∧ (1 : Nat) ≤ n ∧ n ≤ (31 : Nat)) ∧
                                                                      True ∧
                                                                       (∃ (x_4 : W),
                                                                         ∃ (n : Nat),
                                                                          [D.val (Value.int IntKind.u32 (↑(BitVec.toNat (rd x l x_3).e) : Int)), D.val (Value.int IntKind.u64 (11 : Int))] = [D.val (Value.int IntKind.u32 (↑(BitVec.toNat x_4) : Int)), D.val (Value.int IntKind.u64 (↑n : Int))] ∧ (1 : Nat) ≤ n ∧ n ≤ (31 : Nat)) ∧
                                                                        True ∧
                                                                         True ∧
                                                                          (∃ (x_4 : W),
                                                                            ∃ (n : Nat),
                                                                             [D.val (Value.int IntKind.u32 (↑(BitVec.toNat (rd x l x_3).e) : Int)), D.val (Value.int IntKind.u64 (25 : Int))] = [D.val (Value.int IntKind.u32 (↑(BitVec.toNat x_4) : Int)), D.val (Value.int IntKind.u64 (↑n : Int))] ∧
                                                                              (1 : Nat) ≤ n ∧ n ≤ (31 : Nat)) ∧
                                                                           True ∧
                                                                            True ∧
                                                                             True ∧
                                                                              True ∧
                                                                               True ∧
                                                                                (∃ (x_4 : W),
                                                                                  ∃ (y : W),
                                                                                   ∃ (z : W),
                                                                                    [D.val (Value.int IntKind.u32 (↑(BitVec.toNat (rd x l x_3).e) : Int)), D.val (Value.int IntKind.u32 (↑(BitVec.toNat (rd x l x_3).f) : Int)), D.val (Value.int IntKind.u32 (↑(BitVec.toNat (rd x l x_3).g) : Int))] =
                                                                                     [D.val (Value.int IntKind.u32 (↑(BitVec.toNat x_4) : Int)), D.val (Value.int IntKind.u32 (↑(BitVec.toNat y) : Int)), D.val (Value.int IntKind.u32 (↑(BitVec.toNat z) : Int))]) ∧
                                                                                 True ∧
                                                                                  True ∧
                                                                                   ((0 : Int) ≤ (↑x_3 : Int) ∧ (↑x_3 : Int) < (↑(64 : Nat) : Int) ∧ (64 : Nat) = (64 : Nat) ∧ (1 : Nat) = (1 : Nat)) ∧
                                                                                    ((1 : Nat) ≠ (0 : Nat) ∧ (1 : Nat) = (1 : Nat) ∧ false = false) ∧
                                                                                     True ∧
                                                                                      True ∧
                                                                                       True ∧
                                                                                        True ∧
                                                                                         True ∧
                                                                                          (∃ (x_4 : W),
                                                                                            ∃ (n : Nat),
                                                                                             [D.val (Value.int IntKind.u32 (↑(BitVec.toNat (rd x l x_3).a) : Int)), D.val (Value.int IntKind.u64 (2 : Int))] =
                                                                                               [D.val (Value.int IntKind.u32 (↑(BitVec.toNat x_4) : Int)), D.val (Value.int IntKind.u64 (↑n : Int))] ∧
                                                                                              (1 : Nat) ≤ n ∧ n ≤ (31 : Nat)) ∧
                                                                                           True ∧
                                                                                            (∃ (x_4 : W),
                                                                                              ∃ (n : Nat),
                                                                                               [D.val (Value.int IntKind.u32 (↑(BitVec.toNat (rd x l x_3).a) : Int)), D.val (Value.int IntKind.u64 (13 : Int))] =
                                                                                                 [D.val (Value.int IntKind.u32 (↑(BitVec.toNat x_4) : Int)), D.val (Value.int IntKind.u64 (↑n : Int))] ∧
                                                                                                (1 : Nat) ≤ n ∧ n ≤ (31 : Nat)) ∧
                                                                                             True ∧
                                                                                              True ∧
                                                                                               (∃ (x_4 : W),
                                                                                                 ∃ (n : Nat),
                                                                                                  [D.val (Value.int IntKind.u32 (↑(BitVec.toNat (rd x l x_3).a) : Int)), D.val (Value.int IntKind.u64 (22 : Int))] =
                                                                                                    [D.val (Value.int IntKind.u32 (↑(BitVec.toNat x_4) : Int)), D.val (Value.int IntKind.u64 (↑n : Int))] ∧
                                                                                                   (1 : Nat) ≤ n ∧ n ≤ (31 : Nat)) ∧
                                                                                                True ∧
                                                                                                 True ∧
                                                                                                  True ∧
                                                                                                   True ∧
                                                                                                    (∃ (x_4 : W),
                                                                                                      ∃ (y : W),
                                                                                                       ∃ (z : W),
                                                                                                        [D.val (Value.int IntKind.u32 (↑(BitVec.toNat (rd x l x_3).a) : Int)), D.val (Value.int IntKind.u32 (↑(BitVec.toNat (rd x l x_3).b) : Int)),
                                                                                                          D.val (Value.int IntKind.u32 (↑(BitVec.toNat (rd x l x_3).c) : Int))] =
                                                                                                         [D.val (Value.int IntKind.u32 (↑(BitVec.toNat x_4) : Int)), D.val (Value.int IntKind.u32 (↑(BitVec.toNat y) : Int)), D.val (Value.int IntKind.u32 (↑(BitVec.toNat z) : Int))]) ∧
                                                                                                     True ∧
                                                                                                      True ∧
                                                                                                       True ∧
                                                                                                        True ∧
                                                                                                         True ∧
                                                                                                          True ∧
                                                                                                           True ∧
                                                                                                            True ∧
                                                                                                             True ∧
                                                                                                              True ∧
                                                                                                               True ∧
                                                                                                                True ∧
                                                                                                                 True ∧
                                                                                                                  True ∧
                                                                                                                   True ∧
                                                                                                                    True ∧
                                                                                                                     True ∧
                                                                                                                      True ∧
                                                                                                                       True ∧
                                                                                                                        True ∧
                                                                                                                         True ∧
                                                                                                                          True ∧
                                                                                                                           True ∧
                                                                                                                            True ∧
                                                                                                                             ((AV.d
                                                                                                                                  (D.ints IntKind.u32
                                                                                                                                   [(↑(BitVec.toNat x.a) : Int), (↑(BitVec.toNat x.b) : Int), (↑(BitVec.toNat x.c) : Int), (↑(BitVec.toNat x.d) : Int),
                                                                                                                                    (↑(BitVec.toNat x.e) : Int), (↑(BitVec.toNat x.f) : Int), (↑(BitVec.toNat x.g) : Int), (↑(BitVec.toNat x.h) : Int)]) =
                                                                                                                                 AV.d
                                                                                                                                  (D.ints IntKind.u32
                                                                                                                                   [(↑(BitVec.toNat x.a) : Int), (↑(BitVec.toNat x.b) : Int), (↑(BitVec.toNat x.c) : Int), (↑(BitVec.toNat x.d) : Int),
                                                                                                                                    (↑(BitVec.toNat x.e) : Int), (↑(BitVec.toNat x.f) : Int), (↑(BitVec.toNat x.g) : Int), (↑(BitVec.toNat x.h) : Int)]) ∧
                                                                                                                                AV.d (D.str l) = AV.d (D.str l) ∧
                                                                                                                                 AV.d (D.val (Value.slice none (0 : Nat) (0 : Nat))) = AV.d (D.val (Value.slice none (0 : Nat) (0 : Nat))) ∧
                                                                                                                                  AV.row (24 : Nat) = AV.row (24 : Nat) ∧
                                                                                                                                   AV.d (D.val (Value.int IntKind.i64 (↑((4 : Nat) * x_1) : Int))) = AV.d (D.val (Value.int IntKind.i64 (↑((4 : Nat) * x_1) : Int))) ∧
                                                                                                                                    AV.d
                                                                                                                                       (D.val
                                                                                                                                        (Value.int IntKind.u32
                                                                                                                                         (IntKind.u32.wrap
                                                                                                                                          (IntKind.u32.wrap
                                                                                                                                            (IntKind.u32.wrap
                                                                                                                                              (IntKind.u32.wrap
                                                                                                                                                (IntKind.u32.wrap
                                                                                                                                                  ((↑(BitVec.toNat (rd x l x_3).h) : Int) +
                                                                                                                                                   ixor IntKind.u32
                                                                                                                                                    (ixor IntKind.u32
                                                                                                                                                     (↑(BitVec.toNat
                                                                                                                                                        (rr (toW (D.val (Value.int IntKind.u32 (↑(BitVec.toNat (rd x l x_3).e) : Int)))) (6 : Nat))) :
                                                                                                                                                      Int)
                                                                                                                                                     (↑(BitVec.toNat
                                                                                                                                                        (rr (toW (D.val (Value.int IntKind.u32 (↑(BitVec.toNat (rd x l x_3).e) : Int)))) (11 : Nat))) :
                                                                                                                                                      Int))
                                                                                                                                                    (↑(BitVec.toNat
                                                                                                                                                       (rr (toW (D.val (Value.int IntKind.u32 (↑(BitVec.toNat (rd x l x_3).e) : Int)))) (25 : Nat))) :
                                                                                                                                                     Int)) +
                                                                                                                                                 (↑(BitVec.toNat
                                                                                                                                                    (chW (toW (D.val (Value.int IntKind.u32 (↑(BitVec.toNat (rd x l x_3).e) : Int))))
                                                                                                                                                     (toW (D.val (Value.int IntKind.u32 (↑(BitVec.toNat (rd x l x_3).f) : Int))))
                                                                                                                                                     (toW (D.val (Value.int IntKind.u32 (↑(BitVec.toNat (rd x l x_3).g) : Int)))))) :
                                                                                                                                                  Int)) +
                                                                                                                                               gl1.getD (↑x_3 : Int).toNat (0 : Int)) +
                                                                                                                                             (wl l x_2).getD (↑x_3 : Int).toNat (0 : Int)) +
                                                                                                                                           IntKind.u32.wrap
                                                                                                                                            (ixor IntKind.u32
                                                                                                                                              (ixor IntKind.u32
                                                                                                                                               (↑(BitVec.toNat (rr (toW (D.val (Value.int IntKind.u32 (↑(BitVec.toNat (rd x l x_3).a) : Int)))) (2 : Nat))) : Int)
                                                                                                                                               (↑(BitVec.toNat (rr (toW (D.val (Value.int IntKind.u32 (↑(BitVec.toNat (rd x l x_3).a) : Int)))) (13 : Nat))) :
                                                                                                                                                Int))
                                                                                                                                              (↑(BitVec.toNat (rr (toW (D.val (Value.int IntKind.u32 (↑(BitVec.toNat (rd x l x_3).a) : Int)))) (22 : Nat))) : Int) +
                                                                                                                                             (↑(BitVec.toNat
                                                                                                                                                (mjW (toW (D.val (Value.int IntKind.u32 (↑(BitVec.toNat (rd x l x_3).a) : Int))))
                                                                                                                                                 (toW (D.val (Value.int IntKind.u32 (↑(BitVec.toNat (rd x l x_3).b) : Int))))
                                                                                                                                                 (toW (D.val (Value.int IntKind.u32 (↑(BitVec.toNat (rd x l x_3).c) : Int)))))) :
                                                                                                                                              Int)))))) =
                                                                                                                                      AV.d (D.val (Value.int IntKind.u32 (↑(BitVec.toNat (rd x l (IntKind.i64.wrap ((↑x_3 : Int) + (1 : Int))).toNat).a) : Int))) ∧
                                                                                                                                     AV.d (D.val (Value.int IntKind.u32 (↑(BitVec.toNat (rd x l x_3).a) : Int))) =
                                                                                                                                       AV.d (D.val (Value.int IntKind.u32 (↑(BitVec.toNat (rd x l (IntKind.i64.wrap ((↑x_3 : Int) + (1 : Int))).toNat).b) : Int))) ∧
                                                                                                                                      AV.d (D.val (Value.int IntKind.u32 (↑(BitVec.toNat (rd x l x_3).b) : Int))) =
                                                                                                                                        AV.d (D.val (Value.int IntKind.u32 (↑(BitVec.toNat (rd x l (IntKind.i64.wrap ((↑x_3 : Int) + (1 : Int))).toNat).c) : Int))) ∧
                                                                                                                                       AV.d (D.val (Value.int IntKind.u32 (↑(BitVec.toNat (rd x l x_3).c) : Int))) =
                                                                                                                                         AV.d (D.val (Value.int IntKind.u32 (↑(BitVec.toNat (rd x l (IntKind.i64.wrap ((↑x_3 : Int) + (1 : Int))).toNat).d) : Int))) ∧
                                                                                                                                        AV.d
                                                                                                                                           (D.val
                                                                                                                                            (Value.int IntKind.u32
                                                                                                                                             (IntKind.u32.wrap
                                                                                                                                              ((↑(BitVec.toNat (rd x l x_3).d) : Int) +
                                                                                                                                               IntKind.u32.wrap
                                                                                                                                                (IntKind.u32.wrap
                                                                                                                                                  (IntKind.u32.wrap
                                                                                                                                                    (IntKind.u32.wrap
                                                                                                                                                      ((↑(BitVec.toNat (rd x l x_3).h) : Int) +
                                                                                                                                                       ixor IntKind.u32
                                                                                                                                                        (ixor IntKind.u32
                                                                                                                                                         (↑(BitVec.toNat
                                                                                                                                                            (rr (toW (D.val (Value.int IntKind.u32 (↑(BitVec.toNat (rd x l x_3).e) : Int))))
                                                                                                                                                             (6 : Nat))) :
                                                                                                                                                          Int)
                                                                                                                                                         (↑(BitVec.toNat
                                                                                                                                                            (rr (toW (D.val (Value.int IntKind.u32 (↑(BitVec.toNat (rd x l x_3).e) : Int))))
                                                                                                                                                             (11 : Nat))) :
                                                                                                                                                          Int))
                                                                                                                                                        (↑(BitVec.toNat
                                                                                                                                                           (rr (toW (D.val (Value.int IntKind.u32 (↑(BitVec.toNat (rd x l x_3).e) : Int))))
                                                                                                                                                            (25 : Nat))) :
                                                                                                                                                         Int)) +
                                                                                                                                                     (↑(BitVec.toNat
                                                                                                                                                        (chW (toW (D.val (Value.int IntKind.u32 (↑(BitVec.toNat (rd x l x_3).e) : Int))))
                                                                                                                                                         (toW (D.val (Value.int IntKind.u32 (↑(BitVec.toNat (rd x l x_3).f) : Int))))
                                                                                                                                                         (toW (D.val (Value.int IntKind.u32 (↑(BitVec.toNat (rd x l x_3).g) : Int)))))) :
                                                                                                                                                      Int)) +
                                                                                                                                                   gl1.getD (↑x_3 : Int).toNat (0 : Int)) +
                                                                                                                                                 (wl l x_2).getD (↑x_3 : Int).toNat (0 : Int)))))) =
                                                                                                                                          AV.d (D.val (Value.int IntKind.u32 (↑(BitVec.toNat (rd x l (IntKind.i64.wrap ((↑x_3 : Int) + (1 : Int))).toNat).e) : Int))) ∧
                                                                                                                                         AV.d (D.val (Value.int IntKind.u32 (↑(BitVec.toNat (rd x l x_3).e) : Int))) =
                                                                                                                                           AV.d
                                                                                                                                            (D.val (Value.int IntKind.u32 (↑(BitVec.toNat (rd x l (IntKind.i64.wrap ((↑x_3 : Int) + (1 : Int))).toNat).f) : Int))) ∧
                                                                                                                                          AV.d (D.val (Value.int IntKind.u32 (↑(BitVec.toNat (rd x l x_3).f) : Int))) =
                                                                                                                                            AV.d
                                                                                                                                             (D.val (Value.int IntKind.u32 (↑(BitVec.toNat (rd x l (IntKind.i64.wrap ((↑x_3 : Int) + (1 : Int))).toNat).g) : Int))) ∧
                                                                                                                                           AV.d (D.val (Value.int IntKind.u32 (↑(BitVec.toNat (rd x l x_3).g) : Int))) =
                                                                                                                                             AV.d
                                                                                                                                              (D.val
                                                                                                                                               (Value.int IntKind.u32 (↑(BitVec.toNat (rd x l (IntKind.i64.wrap ((↑x_3 : Int) + (1 : Int))).toNat).h) : Int))) ∧
                                                                                                                                            AV.d (D.val (Value.int IntKind.i64 (↑((4 : Nat) * x_1) : Int))) =
                                                                                                                                              AV.d (D.val (Value.int IntKind.i64 (↑((4 : Nat) * x_1) : Int))) ∧
                                                                                                                                             AV.d (D.val (Value.bool (decide ((↑((4 : Nat) * x_1) : Int) < (64 : Int))))) =
                                                                                                                                               AV.d (D.val (Value.bool (decide ((↑((4 : Nat) * x_1) : Int) < (64 : Int))))) ∧
                                                                                                                                              AV.row (24 : Nat) = AV.row (24 : Nat) ∧
                                                                                                                                               AV.d (D.val (Value.int IntKind.i64 (↑(wl l x_2).length : Int))) =
                                                                                                                                                 AV.d (D.val (Value.int IntKind.i64 (↑(wl l x_2).length : Int))) ∧
                                                                                                                                                AV.d (D.val (Value.bool (decide ((↑(wl l x_2).length : Int) < (64 : Int))))) =
                                                                                                                                                  AV.d (D.val (Value.bool (decide ((↑(wl l x_2).length : Int) < (64 : Int))))) ∧
                                                                                                                                                 AV.d
                                                                                                                                                    (D.ints IntKind.u32
                                                                                                                                                     [(↑(BitVec.toNat x.a) : Int), (↑(BitVec.toNat x.b) : Int), (↑(BitVec.toNat x.c) : Int),
                                                                                                                                                      (↑(BitVec.toNat x.d) : Int), (↑(BitVec.toNat x.e) : Int), (↑(BitVec.toNat x.f) : Int),
                                                                                                                                                      (↑(BitVec.toNat x.g) : Int), (↑(BitVec.toNat x.h) : Int)]) =
                                                                                                                                                   AV.d
                                                                                                                                                    (D.ints IntKind.u32
                                                                                                                                                     [(↑(BitVec.toNat x.a) : Int), (↑(BitVec.toNat x.b) : Int), (↑(BitVec.toNat x.c) : Int),
                                                                                                                                                      (↑(BitVec.toNat x.d) : Int), (↑(BitVec.toNat x.e) : Int), (↑(BitVec.toNat x.f) : Int),
                                                                                                                                                      (↑(BitVec.toNat x.g) : Int), (↑(BitVec.toNat x.h) : Int)]) ∧
                                                                                                                                                  AV.dat (D.val (Value.int IntKind.u32 (↑(BitVec.toNat x.a) : Int))) =
                                                                                                                                                    AV.dat (D.val (Value.int IntKind.u32 (↑(BitVec.toNat x.a) : Int))) ∧
                                                                                                                                                   AV.d (D.val (Value.int IntKind.u32 (↑(BitVec.toNat x.a) : Int))) =
                                                                                                                                                     AV.d (D.val (Value.int IntKind.u32 (↑(BitVec.toNat x.a) : Int))) ∧
                                                                                                                                                    AV.d
                                                                                                                                                       (D.ints IntKind.u32
                                                                                                                                                        [(↑(BitVec.toNat x.a) : Int), (↑(BitVec.toNat x.b) : Int), (↑(BitVec.toNat x.c) : Int),
                                                                                                                                                         (↑(BitVec.toNat x.d) : Int), (↑(BitVec.toNat x.e) : Int), (↑(BitVec.toNat x.f) : Int),
                                                                                                                                                         (↑(BitVec.toNat x.g) : Int), (↑(BitVec.toNat x.h) : Int)]) =
                                                                                                                                                      AV.d
                                                                                                                                                       (D.ints IntKind.u32
                                                                                                                                                        [(↑(BitVec.toNat x.a) : Int), (↑(BitVec.toNat x.b) : Int), (↑(BitVec.toNat x.c) : Int),
                                                                                                                                                         (↑(BitVec.toNat x.d) : Int), (↑(BitVec.toNat x.e) : Int), (↑(BitVec.toNat x.f) : Int),
                                                                                                                                                         (↑(BitVec.toNat x.g) : Int), (↑(BitVec.toNat x.h) : Int)]) ∧
                                                                                                                                                     AV.dat (D.val (Value.int IntKind.u32 (↑(BitVec.toNat x.b) : Int))) =
                                                                                                                                                       AV.dat (D.val (Value.int IntKind.u32 (↑(BitVec.toNat x.b) : Int))) ∧
                                                                                                                                                      AV.d (D.val (Value.int IntKind.u32 (↑(BitVec.toNat x.b) : Int))) =
                                                                                                                                                        AV.d (D.val (Value.int IntKind.u32 (↑(BitVec.toNat x.b) : Int))) ∧
                                                                                                                                                       AV.d
                                                                                                                                                          (D.ints IntKind.u32
                                                                                                                                                           [(↑(BitVec.toNat x.a) : Int), (↑(BitVec.toNat x.b) : Int), (↑(BitVec.toNat x.c) : Int),
                                                                                                                                                            (↑(BitVec.toNat x.d) : Int), (↑(BitVec.toNat x.e) : Int), (↑(BitVec.toNat x.f) : Int),
                                                                                                                                                            (↑(BitVec.toNat x.g) : Int), (↑(BitVec.toNat x.h) : Int)]) =
                                                                                                                                                         AV.d
                                                                                                                                                          (D.ints IntKind.u32
                                                                                                                                                           [(↑(BitVec.toNat x.a) : Int), (↑(BitVec.toNat x.b) : Int), (↑(BitVec.toNat x.c) : Int),
                                                                                                                                                            (↑(BitVec.toNat x.d) : Int), (↑(BitVec.toNat x.e) : Int), (↑(BitVec.toNat x.f) : Int),
                                                                                                                                                            (↑(BitVec.toNat x.g) : Int), (↑(BitVec.toNat x.h) : Int)]) ∧
                                                                                                                                                        AV.dat (D.val (Value.int IntKind.u32 (↑(BitVec.toNat x.c) : Int))) =
                                                                                                                                                          AV.dat (D.val (Value.int IntKind.u32 (↑(BitVec.toNat x.c) : Int))) ∧
                                                                                                                                                         AV.d (D.val (Value.int IntKind.u32 (↑(BitVec.toNat x.c) : Int))) =
                                                                                                                                                           AV.d (D.val (Value.int IntKind.u32 (↑(BitVec.toNat x.c) : Int))) ∧
                                                                                                                                                          AV.d
                                                                                                                                                             (D.ints IntKind.u32
                                                                                                                                                              [(↑(BitVec.toNat x.a) : Int), (↑(BitVec.toNat x.b) : Int),
                                                                                                                                                               (↑(BitVec.toNat x.c) : Int), (↑(BitVec.toNat x.d) : Int),
                                                                                                                                                               (↑(BitVec.toNat x.e) : Int), (↑(BitVec.toNat x.f) : Int),
                                                                                                                                                               (↑(BitVec.toNat x.g) : Int), (↑(BitVec.toNat x.h) : Int)]) =
                                                                                                                                                            AV.d
                                                                                                                                                             (D.ints IntKind.u32
                                                                                                                                                              [(↑(BitVec.toNat x.a) : Int), (↑(BitVec.toNat x.b) : Int),
                                                                                                                                                               (↑(BitVec.toNat x.c) : Int), (↑(BitVec.toNat x.d) : Int),
                                                                                                                                                               (↑(BitVec.toNat x.e) : Int), (↑(BitVec.toNat x.f) : Int),
                                                                                                                                                               (↑(BitVec.toNat x.g) : Int), (↑(BitVec.toNat x.h) : Int)]) ∧
                                                                                                                                                           AV.dat (D.val (Value.int IntKind.u32 (↑(BitVec.toNat x.d) : Int))) =
                                                                                                                                                             AV.dat (D.val (Value.int IntKind.u32 (↑(BitVec.toNat x.d) : Int))) ∧
                                                                                                                                                            AV.d (D.val (Value.int IntKind.u32 (↑(BitVec.toNat x.d) : Int))) =
                                                                                                                                                              AV.d (D.val (Value.int IntKind.u32 (↑(BitVec.toNat x.d) : Int))) ∧
                                                                                                                                                             AV.d
                                                                                                                                                                (D.ints IntKind.u32
                                                                                                                                                                 [(↑(BitVec.toNat x.a) : Int), (↑(BitVec.toNat x.b) : Int),
                                                                                                                                                                  (↑(BitVec.toNat x.c) : Int), (↑(BitVec.toNat x.d) : Int),
                                                                                                                                                                  (↑(BitVec.toNat x.e) : Int), (↑(BitVec.toNat x.f) : Int),
                                                                                                                                                                  (↑(BitVec.toNat x.g) : Int), (↑(BitVec.toNat x.h) : Int)]) =
                                                                                                                                                               AV.d
                                                                                                                                                                (D.ints IntKind.u32
                                                                                                                                                                 [(↑(BitVec.toNat x.a) : Int), (↑(BitVec.toNat x.b) : Int),
                                                                                                                                                                  (↑(BitVec.toNat x.c) : Int), (↑(BitVec.toNat x.d) : Int),
                                                                                                                                                                  (↑(BitVec.toNat x.e) : Int), (↑(BitVec.toNat x.f) : Int),
                                                                                                                                                                  (↑(BitVec.toNat x.g) : Int), (↑(BitVec.toNat x.h) : Int)]) ∧
                                                                                                                                                              AV.dat (D.val (Value.int IntKind.u32 (↑(BitVec.toNat x.e) : Int))) =
                                                                                                                                                                AV.dat (D.val (Value.int IntKind.u32 (↑(BitVec.toNat x.e) : Int))) ∧
                                                                                                                                                               AV.d (D.val (Value.int IntKind.u32 (↑(BitVec.toNat x.e) : Int))) =
                                                                                                                                                                 AV.d (D.val (Value.int IntKind.u32 (↑(BitVec.toNat x.e) : Int))) ∧
                                                                                                                                                                AV.d
                                                                                                                                                                   (D.ints IntKind.u32
                                                                                                                                                                    [(↑(BitVec.toNat x.a) : Int), (↑(BitVec.toNat x.b) : Int),
                                                                                                                                                                     (↑(BitVec.toNat x.c) : Int), (↑(BitVec.toNat x.d) : Int),
                                                                                                                                                                     (↑(BitVec.toNat x.e) : Int), (↑(BitVec.toNat x.f) : Int),
                                                                                                                                                                     (↑(BitVec.toNat x.g) : Int), (↑(BitVec.toNat x.h) : Int)]) =
                                                                                                                                                                  AV.d
                                                                                                                                                                   (D.ints IntKind.u32
                                                                                                                                                                    [(↑(BitVec.toNat x.a) : Int), (↑(BitVec.toNat x.b) : Int),
                                                                                                                                                                     (↑(BitVec.toNat x.c) : Int), (↑(BitVec.toNat x.d) : Int),
                                                                                                                                                                     (↑(BitVec.toNat x.e) : Int), (↑(BitVec.toNat x.f) : Int),
                                                                                                                                                                     (↑(BitVec.toNat x.g) : Int), (↑(BitVec.toNat x.h) : Int)]) ∧
                                                                                                                                                                 AV.dat (D.val (Value.int IntKind.u32 (↑(BitVec.toNat x.f) : Int))) =
                                                                                                                                                                   AV.dat (D.val (Value.int IntKind.u32 (↑(BitVec.toNat x.f) : Int))) ∧
                                                                                                                                                                  AV.d (D.val (Value.int IntKind.u32 (↑(BitVec.toNat x.f) : Int))) =
                                                                                                                                                                    AV.d (D.val (Value.int IntKind.u32 (↑(BitVec.toNat x.f) : Int))) ∧
                                                                                                                                                                   AV.d
                                                                                                                                                                      (D.ints IntKind.u32
                                                                                                                                                                       [(↑(BitVec.toNat x.a) : Int), (↑(BitVec.toNat x.b) : Int),
                                                                                                                                                                        (↑(BitVec.toNat x.c) : Int), (↑(BitVec.toNat x.d) : Int),
                                                                                                                                                                        (↑(BitVec.toNat x.e) : Int), (↑(BitVec.toNat x.f) : Int),
                                                                                                                                                                        (↑(BitVec.toNat x.g) : Int), (↑(BitVec.toNat x.h) : Int)]) =
                                                                                                                                                                     AV.d
                                                                                                                                                                      (D.ints IntKind.u32
                                                                                                                                                                       [(↑(BitVec.toNat x.a) : Int), (↑(BitVec.toNat x.b) : Int),
                                                                                                                                                                        (↑(BitVec.toNat x.c) : Int), (↑(BitVec.toNat x.d) : Int),
                                                                                                                                                                        (↑(BitVec.toNat x.e) : Int), (↑(BitVec.toNat x.f) : Int),
                                                                                                                                                                        (↑(BitVec.toNat x.g) : Int), (↑(BitVec.toNat x.h) : Int)]) ∧
                                                                                                                                                                    AV.dat (D.val (Value.int IntKind.u32 (↑(BitVec.toNat x.g) : Int))) =
                                                                                                                                                                      AV.dat (D.val (Value.int IntKind.u32 (↑(BitVec.toNat x.g) : Int))) ∧
                                                                                                                                                                     AV.d (D.val (Value.int IntKind.u32 (↑(BitVec.toNat x.g) : Int))) =
                                                                                                                                                                       AV.d (D.val (Value.int IntKind.u32 (↑(BitVec.toNat x.g) : Int))) ∧
                                                                                                                                                                      AV.d
                                                                                                                                                                         (D.ints IntKind.u32
                                                                                                                                                                          [(↑(BitVec.toNat x.a) : Int), (↑(BitVec.toNat x.b) : Int),
                                                                                                                                                                           (↑(BitVec.toNat x.c) : Int), (↑(BitVec.toNat x.d) : Int),
                                                                                                                                                                           (↑(BitVec.toNat x.e) : Int), (↑(BitVec.toNat x.f) : Int),
                                                                                                                                                                           (↑(BitVec.toNat x.g) : Int), (↑(BitVec.toNat x.h) : Int)]) =
                                                                                                                                                                        AV.d
                                                                                                                                                                         (D.ints IntKind.u32
                                                                                                                                                                          [(↑(BitVec.toNat x.a) : Int), (↑(BitVec.toNat x.b) : Int),
                                                                                                                                                                           (↑(BitVec.toNat x.c) : Int), (↑(BitVec.toNat x.d) : Int),
                                                                                                                                                                           (↑(BitVec.toNat x.e) : Int), (↑(BitVec.toNat x.f) : Int),
                                                                                                                                                                           (↑(BitVec.toNat x.g) : Int), (↑(BitVec.toNat x.h) : Int)]) ∧
                                                                                                                                                                       AV.dat (D.val (Value.int IntKind.u32 (↑(BitVec.toNat x.h) : Int))) =
                                                                                                                                                                         AV.dat
                                                                                                                                                                          (D.val (Value.int IntKind.u32 (↑(BitVec.toNat x.h) : Int))) ∧
                                                                                                                                                                        AV.d (D.val (Value.int IntKind.u32 (↑(BitVec.toNat x.h) : Int))) =
                                                                                                                                                                          AV.d
                                                                                                                                                                           (D.val
                                                                                                                                                                            (Value.int IntKind.u32 (↑(BitVec.toNat x.h) : Int))) ∧
                                                                                                                                                                         AV.row (24 : Nat) = AV.row (24 : Nat) ∧
                                                                                                                                                                          AV.d
                                                                                                                                                                             (D.val
                                                                                                                                                                              (Value.int IntKind.i64 (↑(wl l x_2).length : Int))) =
                                                                                                                                                                            AV.d
                                                                                                                                                                             (D.val
                                                                                                                                                                              (Value.int IntKind.i64 (↑(wl l x_2).length : Int))) ∧
                                                                                                                                                                           AV.d
                                                                                                                                                                              (D.val
                                                                                                                                                                               (Value.int IntKind.i64
                                                                                                                                                                                (IntKind.i64.wrap ((↑x_3 : Int) + (1 : Int))))) =
                                                                                                                                                                             AV.d
                                                                                                                                                                              (D.val
                                                                                                                                                                               (Value.int IntKind.i64
                                                                                                                                                                                (↑(IntKind.i64.wrap
                                                                                                                                                                                    ((↑x_3 : Int) + (1 : Int))).toNat :
                                                                                                                                                                                 Int))) ∧
                                                                                                                                                                            True) ∧
                                                                                                                               (some (Blk.row (24 : TypeId) (D.ints IntKind.u32 (wl l x_2))) = some (Blk.row (24 : TypeId) (D.ints IntKind.u32 (wl l x_2))) ∧ True) ∧
                                                                                                                                true = true) ∧
                                                                                                                              (IntKind.i64.wrap ((↑x_3 : Int) + (1 : Int))).toNat ≤ (64 : Nat) ∧ (64 : Nat) - (IntKind.i64.wrap ((↑x_3 : Int) + (1 : Int))).toNat < (64 : Nat) - x_3
                                                             | false =>
                                                              True ∧
                                                               ((0 : Int) ≤ (0 : Int) ∧ (0 : Int) < (↑(8 : Nat) : Int) ∧ (1 : Nat) = (1 : Nat)) ∧
                                                                ((1 : Nat) ≠ (0 : Nat) ∧ (1 : Nat) = (1 : Nat) ∧ false = false) ∧
                                                                 True ∧
                                                                  True ∧
                                                                   True ∧
                                                                    ((0 : Int) ≤ (1 : Int) ∧ (1 : Int) < (↑(8 : Nat) : Int) ∧ (1 : Nat) = (1 : Nat)) ∧
                                                                     ((1 : Nat) ≠ (0 : Nat) ∧ (1 : Nat) = (1 : Nat) ∧ false = false) ∧
                                                                      True ∧
                                                                       True ∧
                                                                        True ∧
                                                                         ((0 : Int) ≤ (2 : Int) ∧ (2 : Int) < (↑(8 : Nat) : Int) ∧ (1 : Nat) = (1 : Nat)) ∧
                                                                          ((1 : Nat) ≠ (0 : Nat) ∧ (1 : Nat) = (1 : Nat) ∧ false = false) ∧
                                                                           True ∧
                                                                            True ∧
                                                                             True ∧
                                                                              ((0 : Int) ≤ (3 : Int) ∧ (3 : Int) < (↑(8 : Nat) : Int) ∧ (1 : Nat) = (1 : Nat)) ∧
                                                                               ((1 : Nat) ≠ (0 : Nat) ∧ (1 : Nat) = (1 : Nat) ∧ false = false) ∧
                                                                                True ∧
                                                                                 True ∧
                                                                                  True ∧
                                                                                   ((0 : Int) ≤ (4 : Int) ∧ (4 : Int) < (↑(8 : Nat) : Int) ∧ (1 : Nat) = (1 : Nat)) ∧
                                                                                    ((1 : Nat) ≠ (0 : Nat) ∧ (1 : Nat) = (1 : Nat) ∧ false = false) ∧
                                                                                     True ∧
                                                                                      True ∧
                                                                                       True ∧
                                                                                        ((0 : Int) ≤ (5 : Int) ∧ (5 : Int) < (↑(8 : Nat) : Int) ∧ (1 : Nat) = (1 : Nat)) ∧
                                                                                         ((1 : Nat) ≠ (0 : Nat) ∧ (1 : Nat) = (1 : Nat) ∧ false = false) ∧
                                                                                          True ∧
                                                                                           True ∧
                                                                                            True ∧
                                                                                             ((0 : Int) ≤ (6 : Int) ∧ (6 : Int) < (↑(8 : Nat) : Int) ∧ (1 : Nat) = (1 : Nat)) ∧
                                                                                              ((1 : Nat) ≠ (0 : Nat) ∧ (1 : Nat) = (1 : Nat) ∧ false = false) ∧
                                                                                               True ∧
                                                                                                True ∧
                                                                                                 True ∧
                                                                                                  ((0 : Int) ≤ (7 : Int) ∧ (7 : Int) < (↑(8 : Nat) : Int) ∧ (1 : Nat) = (1 : Nat)) ∧
                                                                                                   ((1 : Nat) ≠ (0 : Nat) ∧ (1 : Nat) = (1 : Nat) ∧ false = false) ∧
                                                                                                    True ∧
                                                                                                     True ∧
                                                                                                      ((1 : Nat) = (1 : Nat) ∧ (8 : Nat) ≤ (4096 : Nat)) ∧
                                                                                                       True ∧
                                                                                                        (false = false ∧ True) ∧
                                                                                                         D.ints IntKind.u32
                                                                                                           [IntKind.u32.wrap ((↑(BitVec.toNat x.a) : Int) + (↑(BitVec.toNat (rd x l x_3).a) : Int)), IntKind.u32.wrap ((↑(BitVec.toNat x.b) : Int) + (↑(BitVec.toNat (rd x l x_3).b) : Int)),
                                                                                                            IntKind.u32.wrap ((↑(BitVec.toNat x.c) : Int) + (↑(BitVec.toNat (rd x l x_3).c) : Int)), IntKind.u32.wrap ((↑(BitVec.toNat x.d) : Int) + (↑(BitVec.toNat (rd x l x_3).d) : Int)),
                                                                                                            IntKind.u32.wrap ((↑(BitVec.toNat x.e) : Int) + (↑(BitVec.toNat (rd x l x_3).e) : Int)), IntKind.u32.wrap ((↑(BitVec.toNat x.f) : Int) + (↑(BitVec.toNat (rd x l x_3).f) : Int)),
                                                                                                            IntKind.u32.wrap ((↑(BitVec.toNat x.g) : Int) + (↑(BitVec.toNat (rd x l x_3).g) : Int)), IntKind.u32.wrap ((↑(BitVec.toNat x.h) : Int) + (↑(BitVec.toNat (rd x l x_3).h) : Int))] =
                                                                                                          F) := by kernel_rfl

end Go.Proofs.YtcdjhhepgkcabaaDoor
