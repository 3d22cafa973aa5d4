import Derived.Test.YtcdjhhepgkcabaaDoorMa2
/- The law MacTells. -/
namespace Go.Proofs.YtcdjhhepgkcabaaDoor
open Go Go.Vg

noncomputable def c6 : Ctx := ⟨tab, lkS [(19, sp19), (20, sp20), (21, sp21), (22, sp22), (23, sp23), (24, sp24), (25, sp24)], [], []⟩
--KEEP ofR BitVec.toNat prL pr Go.Proofs.YtcdjhhepgkcabaaDoor.R8.l wrS ofS okS padL fhK outL sumL fromL digL woL wl woI iv st0 rsS rsE wat fullL Go.Vg.eqB ofM xK mNew mWr mSum mkL padK mixK sameI okM isB
set_option maxRecDepth 100000 in
theorem vc6  (k p q : List Int) (F : D)  :
    (owed c6 (fun _ => none) Tryd.f6 [.ints .u8 k, .ints .u8 p, .ints .u8 q] F) = (
 True ∧
   True ∧
    (∃ (k_1 : List Int), [D.ints IntKind.u8 k] = [D.ints IntKind.u8 k_1] ∧ isB k_1) ∧
     True ∧
      (∃ (s : MS),
        ∃ (p_1 : List Int),
         [D.st [D.st [D.arr IntKind.u32 (8 : Nat) (mNew k).i.h.l, D.val (Value.int IntKind.u64 (↑(mNew k).i.n : Int)), D.arr IntKind.u8 (64 : Nat) (mNew k).i.l], D.st [D.arr IntKind.u32 (8 : Nat) (mNew k).o.h.l, D.val (Value.int IntKind.u64 (↑(mNew k).o.n : Int)), D.arr IntKind.u8 (64 : Nat) (mNew k).o.l]], D.ints IntKind.u8 p] =
           [D.st [D.st [D.arr IntKind.u32 (8 : Nat) s.i.h.l, D.val (Value.int IntKind.u64 (↑s.i.n : Int)), D.arr IntKind.u8 (64 : Nat) s.i.l], D.st [D.arr IntKind.u32 (8 : Nat) s.o.h.l, D.val (Value.int IntKind.u64 (↑s.o.n : Int)), D.arr IntKind.u8 (64 : Nat) s.o.l]], D.ints IntKind.u8 p_1] ∧
          okM s ∧ isB p_1) ∧
       (True ∧ (146 : Nat) ≠ (0 : Nat)) ∧
        (Sk.st [Sk.st [Sk.arr (8 : Nat), Sk.one, Sk.arr (64 : Nat)], Sk.st [Sk.arr (8 : Nat), Sk.one, Sk.arr (64 : Nat)]] = Sk.st [Sk.st [Sk.arr (8 : Nat), Sk.one, Sk.arr (64 : Nat)], Sk.st [Sk.arr (8 : Nat), Sk.one, Sk.arr (64 : Nat)]] ∧ (146 : Nat) ≠ (0 : Nat) ∧ (146 : Nat) = (146 : Nat) ∧ false = false) ∧
         True ∧
          True ∧
           (∃ (k_1 : List Int), ∃ (p_1 : List Int), [D.ints IntKind.u8 k, D.ints IntKind.u8 p] = [D.ints IntKind.u8 k_1, D.ints IntKind.u8 p_1] ∧ isB k_1 ∧ isB p_1) ∧
            True ∧
             isBytes k ∧
              True ∧
               isBytes p ∧
                (∃ (k_1 : List Int), ∃ (p_1 : List Int), [D.str k, D.str p] = [D.str k_1, D.str p_1] ∧ isB k_1 ∧ isBytes p_1 ∧ p_1.length ≤ (500000000000000 : Nat)) ∧
                 (IntKind.u8 = IntKind.u8 ∧ IntKind.u8 = IntKind.u8 ∧ (32 : Nat) = (32 : Nat) ∧ (32 : Nat) = (32 : Nat) ∧ (1 : Nat) = (1 : Nat)) ∧
                  True ∧
                   match eqB (mkL k p) (mkL k p) with
                   | true =>
                    ((146 : Nat) ≠ (0 : Nat) ∧ (146 : Nat) = (146 : Nat) ∧ true = true) ∧
                     True ∧
                      (∃ (s : MS),
                        ∃ (p_1 : List Int),
                         [D.st
                             [D.st
                               [D.arr IntKind.u32 (8 : Nat)
                                 (mWr (ofM (D.st [D.st [D.arr IntKind.u32 (8 : Nat) (mNew k).i.h.l, D.val (Value.int IntKind.u64 (↑(mNew k).i.n : Int)), D.arr IntKind.u8 (64 : Nat) (mNew k).i.l], D.st [D.arr IntKind.u32 (8 : Nat) (mNew k).o.h.l, D.val (Value.int IntKind.u64 (↑(mNew k).o.n : Int)), D.arr IntKind.u8 (64 : Nat) (mNew k).o.l]])) p).i.h.l,
                                D.val
                                 (Value.int IntKind.u64
                                  (↑(mWr (ofM (D.st [D.st [D.arr IntKind.u32 (8 : Nat) (mNew k).i.h.l, D.val (Value.int IntKind.u64 (↑(mNew k).i.n : Int)), D.arr IntKind.u8 (64 : Nat) (mNew k).i.l], D.st [D.arr IntKind.u32 (8 : Nat) (mNew k).o.h.l, D.val (Value.int IntKind.u64 (↑(mNew k).o.n : Int)), D.arr IntKind.u8 (64 : Nat) (mNew k).o.l]])) p).i.n : Int)),
                                D.arr IntKind.u8 (64 : Nat)
                                 (mWr (ofM (D.st [D.st [D.arr IntKind.u32 (8 : Nat) (mNew k).i.h.l, D.val (Value.int IntKind.u64 (↑(mNew k).i.n : Int)), D.arr IntKind.u8 (64 : Nat) (mNew k).i.l], D.st [D.arr IntKind.u32 (8 : Nat) (mNew k).o.h.l, D.val (Value.int IntKind.u64 (↑(mNew k).o.n : Int)), D.arr IntKind.u8 (64 : Nat) (mNew k).o.l]])) p).i.l],
                              D.st
                               [D.arr IntKind.u32 (8 : Nat)
                                 (mWr (ofM (D.st [D.st [D.arr IntKind.u32 (8 : Nat) (mNew k).i.h.l, D.val (Value.int IntKind.u64 (↑(mNew k).i.n : Int)), D.arr IntKind.u8 (64 : Nat) (mNew k).i.l], D.st [D.arr IntKind.u32 (8 : Nat) (mNew k).o.h.l, D.val (Value.int IntKind.u64 (↑(mNew k).o.n : Int)), D.arr IntKind.u8 (64 : Nat) (mNew k).o.l]])) p).o.h.l,
                                D.val
                                 (Value.int IntKind.u64
                                  (↑(mWr (ofM (D.st [D.st [D.arr IntKind.u32 (8 : Nat) (mNew k).i.h.l, D.val (Value.int IntKind.u64 (↑(mNew k).i.n : Int)), D.arr IntKind.u8 (64 : Nat) (mNew k).i.l], D.st [D.arr IntKind.u32 (8 : Nat) (mNew k).o.h.l, D.val (Value.int IntKind.u64 (↑(mNew k).o.n : Int)), D.arr IntKind.u8 (64 : Nat) (mNew k).o.l]])) p).o.n : Int)),
                                D.arr IntKind.u8 (64 : Nat)
                                 (mWr (ofM (D.st [D.st [D.arr IntKind.u32 (8 : Nat) (mNew k).i.h.l, D.val (Value.int IntKind.u64 (↑(mNew k).i.n : Int)), D.arr IntKind.u8 (64 : Nat) (mNew k).i.l], D.st [D.arr IntKind.u32 (8 : Nat) (mNew k).o.h.l, D.val (Value.int IntKind.u64 (↑(mNew k).o.n : Int)), D.arr IntKind.u8 (64 : Nat) (mNew k).o.l]])) p).o.l]],
                            D.ints IntKind.u8 q] =
                           [D.st [D.st [D.arr IntKind.u32 (8 : Nat) s.i.h.l, D.val (Value.int IntKind.u64 (↑s.i.n : Int)), D.arr IntKind.u8 (64 : Nat) s.i.l], D.st [D.arr IntKind.u32 (8 : Nat) s.o.h.l, D.val (Value.int IntKind.u64 (↑s.o.n : Int)), D.arr IntKind.u8 (64 : Nat) s.o.l]], D.ints IntKind.u8 p_1] ∧
                          okM s ∧ isB p_1) ∧
                       (∃ (s : MS),
                         [D.st
                             [D.st
                               [D.arr IntKind.u32 (8 : Nat)
                                 (mWr
                                     (ofM
                                      (D.st
                                       [D.st
                                         [D.arr IntKind.u32 (8 : Nat)
                                           (mWr (ofM (D.st [D.st [D.arr IntKind.u32 (8 : Nat) (mNew k).i.h.l, D.val (Value.int IntKind.u64 (↑(mNew k).i.n : Int)), D.arr IntKind.u8 (64 : Nat) (mNew k).i.l], D.st [D.arr IntKind.u32 (8 : Nat) (mNew k).o.h.l, D.val (Value.int IntKind.u64 (↑(mNew k).o.n : Int)), D.arr IntKind.u8 (64 : Nat) (mNew k).o.l]]))
                                               p).i.h.l,
                                          D.val
                                           (Value.int IntKind.u64
                                            (↑(mWr (ofM (D.st [D.st [D.arr IntKind.u32 (8 : Nat) (mNew k).i.h.l, D.val (Value.int IntKind.u64 (↑(mNew k).i.n : Int)), D.arr IntKind.u8 (64 : Nat) (mNew k).i.l], D.st [D.arr IntKind.u32 (8 : Nat) (mNew k).o.h.l, D.val (Value.int IntKind.u64 (↑(mNew k).o.n : Int)), D.arr IntKind.u8 (64 : Nat) (mNew k).o.l]]))
                                                 p).i.n :
                                             Int)),
                                          D.arr IntKind.u8 (64 : Nat)
                                           (mWr (ofM (D.st [D.st [D.arr IntKind.u32 (8 : Nat) (mNew k).i.h.l, D.val (Value.int IntKind.u64 (↑(mNew k).i.n : Int)), D.arr IntKind.u8 (64 : Nat) (mNew k).i.l], D.st [D.arr IntKind.u32 (8 : Nat) (mNew k).o.h.l, D.val (Value.int IntKind.u64 (↑(mNew k).o.n : Int)), D.arr IntKind.u8 (64 : Nat) (mNew k).o.l]]))
                                              p).i.l],
                                        D.st
                                         [D.arr IntKind.u32 (8 : Nat)
                                           (mWr (ofM (D.st [D.st [D.arr IntKind.u32 (8 : Nat) (mNew k).i.h.l, D.val (Value.int IntKind.u64 (↑(mNew k).i.n : Int)), D.arr IntKind.u8 (64 : Nat) (mNew k).i.l], D.st [D.arr IntKind.u32 (8 : Nat) (mNew k).o.h.l, D.val (Value.int IntKind.u64 (↑(mNew k).o.n : Int)), D.arr IntKind.u8 (64 : Nat) (mNew k).o.l]]))
                                               p).o.h.l,
                                          D.val
                                           (Value.int IntKind.u64
                                            (↑(mWr (ofM (D.st [D.st [D.arr IntKind.u32 (8 : Nat) (mNew k).i.h.l, D.val (Value.int IntKind.u64 (↑(mNew k).i.n : Int)), D.arr IntKind.u8 (64 : Nat) (mNew k).i.l], D.st [D.arr IntKind.u32 (8 : Nat) (mNew k).o.h.l, D.val (Value.int IntKind.u64 (↑(mNew k).o.n : Int)), D.arr IntKind.u8 (64 : Nat) (mNew k).o.l]]))
                                                 p).o.n :
                                             Int)),
                                          D.arr IntKind.u8 (64 : Nat)
                                           (mWr (ofM (D.st [D.st [D.arr IntKind.u32 (8 : Nat) (mNew k).i.h.l, D.val (Value.int IntKind.u64 (↑(mNew k).i.n : Int)), D.arr IntKind.u8 (64 : Nat) (mNew k).i.l], D.st [D.arr IntKind.u32 (8 : Nat) (mNew k).o.h.l, D.val (Value.int IntKind.u64 (↑(mNew k).o.n : Int)), D.arr IntKind.u8 (64 : Nat) (mNew k).o.l]]))
                                              p).o.l]]))
                                     q).i.h.l,
                                D.val
                                 (Value.int IntKind.u64
                                  (↑(mWr
                                       (ofM
                                        (D.st
                                         [D.st
                                           [D.arr IntKind.u32 (8 : Nat)
                                             (mWr (ofM (D.st [D.st [D.arr IntKind.u32 (8 : Nat) (mNew k).i.h.l, D.val (Value.int IntKind.u64 (↑(mNew k).i.n : Int)), D.arr IntKind.u8 (64 : Nat) (mNew k).i.l], D.st [D.arr IntKind.u32 (8 : Nat) (mNew k).o.h.l, D.val (Value.int IntKind.u64 (↑(mNew k).o.n : Int)), D.arr IntKind.u8 (64 : Nat) (mNew k).o.l]]))
                                                 p).i.h.l,
                                            D.val
                                             (Value.int IntKind.u64
                                              (↑(mWr
                                                   (ofM
                                                    (D.st
                                                     [D.st [D.arr IntKind.u32 (8 : Nat) (mNew k).i.h.l, D.val (Value.int IntKind.u64 (↑(mNew k).i.n : Int)), D.arr IntKind.u8 (64 : Nat) (mNew k).i.l], D.st [D.arr IntKind.u32 (8 : Nat) (mNew k).o.h.l, D.val (Value.int IntKind.u64 (↑(mNew k).o.n : Int)), D.arr IntKind.u8 (64 : Nat) (mNew k).o.l]]))
                                                   p).i.n :
                                               Int)),
                                            D.arr IntKind.u8 (64 : Nat)
                                             (mWr (ofM (D.st [D.st [D.arr IntKind.u32 (8 : Nat) (mNew k).i.h.l, D.val (Value.int IntKind.u64 (↑(mNew k).i.n : Int)), D.arr IntKind.u8 (64 : Nat) (mNew k).i.l], D.st [D.arr IntKind.u32 (8 : Nat) (mNew k).o.h.l, D.val (Value.int IntKind.u64 (↑(mNew k).o.n : Int)), D.arr IntKind.u8 (64 : Nat) (mNew k).o.l]]))
                                                p).i.l],
                                          D.st
                                           [D.arr IntKind.u32 (8 : Nat)
                                             (mWr (ofM (D.st [D.st [D.arr IntKind.u32 (8 : Nat) (mNew k).i.h.l, D.val (Value.int IntKind.u64 (↑(mNew k).i.n : Int)), D.arr IntKind.u8 (64 : Nat) (mNew k).i.l], D.st [D.arr IntKind.u32 (8 : Nat) (mNew k).o.h.l, D.val (Value.int IntKind.u64 (↑(mNew k).o.n : Int)), D.arr IntKind.u8 (64 : Nat) (mNew k).o.l]]))
                                                 p).o.h.l,
                                            D.val
                                             (Value.int IntKind.u64
                                              (↑(mWr
                                                   (ofM
                                                    (D.st
                                                     [D.st [D.arr IntKind.u32 (8 : Nat) (mNew k).i.h.l, D.val (Value.int IntKind.u64 (↑(mNew k).i.n : Int)), D.arr IntKind.u8 (64 : Nat) (mNew k).i.l], D.st [D.arr IntKind.u32 (8 : Nat) (mNew k).o.h.l, D.val (Value.int IntKind.u64 (↑(mNew k).o.n : Int)), D.arr IntKind.u8 (64 : Nat) (mNew k).o.l]]))
                                                   p).o.n :
                                               Int)),
                                            D.arr IntKind.u8 (64 : Nat)
                                             (mWr (ofM (D.st [D.st [D.arr IntKind.u32 (8 : Nat) (mNew k).i.h.l, D.val (Value.int IntKind.u64 (↑(mNew k).i.n : Int)), D.arr IntKind.u8 (64 : Nat) (mNew k).i.l], D.st [D.arr IntKind.u32 (8 : Nat) (mNew k).o.h.l, D.val (Value.int IntKind.u64 (↑(mNew k).o.n : Int)), D.arr IntKind.u8 (64 : Nat) (mNew k).o.l]]))
                                                p).o.l]]))
                                       q).i.n :
                                   Int)),
                                D.arr IntKind.u8 (64 : Nat)
                                 (mWr
                                    (ofM
                                     (D.st
                                      [D.st
                                        [D.arr IntKind.u32 (8 : Nat)
                                          (mWr (ofM (D.st [D.st [D.arr IntKind.u32 (8 : Nat) (mNew k).i.h.l, D.val (Value.int IntKind.u64 (↑(mNew k).i.n : Int)), D.arr IntKind.u8 (64 : Nat) (mNew k).i.l], D.st [D.arr IntKind.u32 (8 : Nat) (mNew k).o.h.l, D.val (Value.int IntKind.u64 (↑(mNew k).o.n : Int)), D.arr IntKind.u8 (64 : Nat) (mNew k).o.l]]))
                                              p).i.h.l,
                                         D.val
                                          (Value.int IntKind.u64
                                           (↑(mWr (ofM (D.st [D.st [D.arr IntKind.u32 (8 : Nat) (mNew k).i.h.l, D.val (Value.int IntKind.u64 (↑(mNew k).i.n : Int)), D.arr IntKind.u8 (64 : Nat) (mNew k).i.l], D.st [D.arr IntKind.u32 (8 : Nat) (mNew k).o.h.l, D.val (Value.int IntKind.u64 (↑(mNew k).o.n : Int)), D.arr IntKind.u8 (64 : Nat) (mNew k).o.l]]))
                                                p).i.n :
                                            Int)),
                                         D.arr IntKind.u8 (64 : Nat)
                                          (mWr (ofM (D.st [D.st [D.arr IntKind.u32 (8 : Nat) (mNew k).i.h.l, D.val (Value.int IntKind.u64 (↑(mNew k).i.n : Int)), D.arr IntKind.u8 (64 : Nat) (mNew k).i.l], D.st [D.arr IntKind.u32 (8 : Nat) (mNew k).o.h.l, D.val (Value.int IntKind.u64 (↑(mNew k).o.n : Int)), D.arr IntKind.u8 (64 : Nat) (mNew k).o.l]]))
                                             p).i.l],
                                       D.st
                                        [D.arr IntKind.u32 (8 : Nat)
                                          (mWr (ofM (D.st [D.st [D.arr IntKind.u32 (8 : Nat) (mNew k).i.h.l, D.val (Value.int IntKind.u64 (↑(mNew k).i.n : Int)), D.arr IntKind.u8 (64 : Nat) (mNew k).i.l], D.st [D.arr IntKind.u32 (8 : Nat) (mNew k).o.h.l, D.val (Value.int IntKind.u64 (↑(mNew k).o.n : Int)), D.arr IntKind.u8 (64 : Nat) (mNew k).o.l]]))
                                              p).o.h.l,
                                         D.val
                                          (Value.int IntKind.u64
                                           (↑(mWr (ofM (D.st [D.st [D.arr IntKind.u32 (8 : Nat) (mNew k).i.h.l, D.val (Value.int IntKind.u64 (↑(mNew k).i.n : Int)), D.arr IntKind.u8 (64 : Nat) (mNew k).i.l], D.st [D.arr IntKind.u32 (8 : Nat) (mNew k).o.h.l, D.val (Value.int IntKind.u64 (↑(mNew k).o.n : Int)), D.arr IntKind.u8 (64 : Nat) (mNew k).o.l]]))
                                                p).o.n :
                                            Int)),
                                         D.arr IntKind.u8 (64 : Nat)
                                          (mWr (ofM (D.st [D.st [D.arr IntKind.u32 (8 : Nat) (mNew k).i.h.l, D.val (Value.int IntKind.u64 (↑(mNew k).i.n : Int)), D.arr IntKind.u8 (64 : Nat) (mNew k).i.l], D.st [D.arr IntKind.u32 (8 : Nat) (mNew k).o.h.l, D.val (Value.int IntKind.u64 (↑(mNew k).o.n : Int)), D.arr IntKind.u8 (64 : Nat) (mNew k).o.l]]))
                                             p).o.l]]))
                                    q).i.l],
                              D.st
                               [D.arr IntKind.u32 (8 : Nat)
                                 (mWr
                                     (ofM
                                      (D.st
                                       [D.st
                                         [D.arr IntKind.u32 (8 : Nat)
                                           (mWr (ofM (D.st [D.st [D.arr IntKind.u32 (8 : Nat) (mNew k).i.h.l, D.val (Value.int IntKind.u64 (↑(mNew k).i.n : Int)), D.arr IntKind.u8 (64 : Nat) (mNew k).i.l], D.st [D.arr IntKind.u32 (8 : Nat) (mNew k).o.h.l, D.val (Value.int IntKind.u64 (↑(mNew k).o.n : Int)), D.arr IntKind.u8 (64 : Nat) (mNew k).o.l]]))
                                               p).i.h.l,
                                          D.val
                                           (Value.int IntKind.u64
                                            (↑(mWr (ofM (D.st [D.st [D.arr IntKind.u32 (8 : Nat) (mNew k).i.h.l, D.val (Value.int IntKind.u64 (↑(mNew k).i.n : Int)), D.arr IntKind.u8 (64 : Nat) (mNew k).i.l], D.st [D.arr IntKind.u32 (8 : Nat) (mNew k).o.h.l, D.val (Value.int IntKind.u64 (↑(mNew k).o.n : Int)), D.arr IntKind.u8 (64 : Nat) (mNew k).o.l]]))
                                                 p).i.n :
                                             Int)),
                                          D.arr IntKind.u8 (64 : Nat)
                                           (mWr (ofM (D.st [D.st [D.arr IntKind.u32 (8 : Nat) (mNew k).i.h.l, D.val (Value.int IntKind.u64 (↑(mNew k).i.n : Int)), D.arr IntKind.u8 (64 : Nat) (mNew k).i.l], D.st [D.arr IntKind.u32 (8 : Nat) (mNew k).o.h.l, D.val (Value.int IntKind.u64 (↑(mNew k).o.n : Int)), D.arr IntKind.u8 (64 : Nat) (mNew k).o.l]]))
                                              p).i.l],
                                        D.st
                                         [D.arr IntKind.u32 (8 : Nat)
                                           (mWr (ofM (D.st [D.st [D.arr IntKind.u32 (8 : Nat) (mNew k).i.h.l, D.val (Value.int IntKind.u64 (↑(mNew k).i.n : Int)), D.arr IntKind.u8 (64 : Nat) (mNew k).i.l], D.st [D.arr IntKind.u32 (8 : Nat) (mNew k).o.h.l, D.val (Value.int IntKind.u64 (↑(mNew k).o.n : Int)), D.arr IntKind.u8 (64 : Nat) (mNew k).o.l]]))
                                               p).o.h.l,
                                          D.val
                                           (Value.int IntKind.u64
                                            (↑(mWr (ofM (D.st [D.st [D.arr IntKind.u32 (8 : Nat) (mNew k).i.h.l, D.val (Value.int IntKind.u64 (↑(mNew k).i.n : Int)), D.arr IntKind.u8 (64 : Nat) (mNew k).i.l], D.st [D.arr IntKind.u32 (8 : Nat) (mNew k).o.h.l, D.val (Value.int IntKind.u64 (↑(mNew k).o.n : Int)), D.arr IntKind.u8 (64 : Nat) (mNew k).o.l]]))
                                                 p).o.n :
                                             Int)),
                                          D.arr IntKind.u8 (64 : Nat)
                                           (mWr (ofM (D.st [D.st [D.arr IntKind.u32 (8 : Nat) (mNew k).i.h.l, D.val (Value.int IntKind.u64 (↑(mNew k).i.n : Int)), D.arr IntKind.u8 (64 : Nat) (mNew k).i.l], D.st [D.arr IntKind.u32 (8 : Nat) (mNew k).o.h.l, D.val (Value.int IntKind.u64 (↑(mNew k).o.n : Int)), D.arr IntKind.u8 (64 : Nat) (mNew k).o.l]]))
                                              p).o.l]]))
                                     q).o.h.l,
                                D.val
                                 (Value.int IntKind.u64
                                  (↑(mWr
                                       (ofM
                                        (D.st
                                         [D.st
                                           [D.arr IntKind.u32 (8 : Nat)
                                             (mWr (ofM (D.st [D.st [D.arr IntKind.u32 (8 : Nat) (mNew k).i.h.l, D.val (Value.int IntKind.u64 (↑(mNew k).i.n : Int)), D.arr IntKind.u8 (64 : Nat) (mNew k).i.l], D.st [D.arr IntKind.u32 (8 : Nat) (mNew k).o.h.l, D.val (Value.int IntKind.u64 (↑(mNew k).o.n : Int)), D.arr IntKind.u8 (64 : Nat) (mNew k).o.l]]))
                                                 p).i.h.l,
                                            D.val
                                             (Value.int IntKind.u64
                                              (↑(mWr
                                                   (ofM
                                                    (D.st
                                                     [D.st [D.arr IntKind.u32 (8 : Nat) (mNew k).i.h.l, D.val (Value.int IntKind.u64 (↑(mNew k).i.n : Int)), D.arr IntKind.u8 (64 : Nat) (mNew k).i.l], D.st [D.arr IntKind.u32 (8 : Nat) (mNew k).o.h.l, D.val (Value.int IntKind.u64 (↑(mNew k).o.n : Int)), D.arr IntKind.u8 (64 : Nat) (mNew k).o.l]]))
                                                   p).i.n :
                                               Int)),
                                            D.arr IntKind.u8 (64 : Nat)
                                             (mWr (ofM (D.st [D.st [D.arr IntKind.u32 (8 : Nat) (mNew k).i.h.l, D.val (Value.int IntKind.u64 (↑(mNew k).i.n : Int)), D.arr IntKind.u8 (64 : Nat) (mNew k).i.l], D.st [D.arr IntKind.u32 (8 : Nat) (mNew k).o.h.l, D.val (Value.int IntKind.u64 (↑(mNew k).o.n : Int)), D.arr IntKind.u8 (64 : Nat) (mNew k).o.l]]))
                                                p).i.l],
                                          D.st
                                           [D.arr IntKind.u32 (8 : Nat)
                                             (mWr (ofM (D.st [D.st [D.arr IntKind.u32 (8 : Nat) (mNew k).i.h.l, D.val (Value.int IntKind.u64 (↑(mNew k).i.n : Int)), D.arr IntKind.u8 (64 : Nat) (mNew k).i.l], D.st [D.arr IntKind.u32 (8 : Nat) (mNew k).o.h.l, D.val (Value.int IntKind.u64 (↑(mNew k).o.n : Int)), D.arr IntKind.u8 (64 : Nat) (mNew k).o.l]]))
                                                 p).o.h.l,
                                            D.val
                                             (Value.int IntKind.u64
                                              (↑(mWr
                                                   (ofM
                                                    (D.st
                                                     [D.st [D.arr IntKind.u32 (8 : Nat) (mNew k).i.h.l, D.val (Value.int IntKind.u64 (↑(mNew k).i.n : Int)), D.arr IntKind.u8 (64 : Nat) (mNew k).i.l], D.st [D.arr IntKind.u32 (8 : Nat) (mNew k).o.h.l, D.val (Value.int IntKind.u64 (↑(mNew k).o.n : Int)), D.arr IntKind.u8 (64 : Nat) (mNew k).o.l]]))
                                                   p).o.n :
                                               Int)),
                                            D.arr IntKind.u8 (64 : Nat)
                                             (mWr (ofM (D.st [D.st [D.arr IntKind.u32 (8 : Nat) (mNew k).i.h.l, D.val (Value.int IntKind.u64 (↑(mNew k).i.n : Int)), D.arr IntKind.u8 (64 : Nat) (mNew k).i.l], D.st [D.arr IntKind.u32 (8 : Nat) (mNew k).o.h.l, D.val (Value.int IntKind.u64 (↑(mNew k).o.n : Int)), D.arr IntKind.u8 (64 : Nat) (mNew k).o.l]]))
                                                p).o.l]]))
                                       q).o.n :
                                   Int)),
                                D.arr IntKind.u8 (64 : Nat)
                                 (mWr
                                    (ofM
                                     (D.st
                                      [D.st
                                        [D.arr IntKind.u32 (8 : Nat)
                                          (mWr (ofM (D.st [D.st [D.arr IntKind.u32 (8 : Nat) (mNew k).i.h.l, D.val (Value.int IntKind.u64 (↑(mNew k).i.n : Int)), D.arr IntKind.u8 (64 : Nat) (mNew k).i.l], D.st [D.arr IntKind.u32 (8 : Nat) (mNew k).o.h.l, D.val (Value.int IntKind.u64 (↑(mNew k).o.n : Int)), D.arr IntKind.u8 (64 : Nat) (mNew k).o.l]]))
                                              p).i.h.l,
                                         D.val
                                          (Value.int IntKind.u64
                                           (↑(mWr (ofM (D.st [D.st [D.arr IntKind.u32 (8 : Nat) (mNew k).i.h.l, D.val (Value.int IntKind.u64 (↑(mNew k).i.n : Int)), D.arr IntKind.u8 (64 : Nat) (mNew k).i.l], D.st [D.arr IntKind.u32 (8 : Nat) (mNew k).o.h.l, D.val (Value.int IntKind.u64 (↑(mNew k).o.n : Int)), D.arr IntKind.u8 (64 : Nat) (mNew k).o.l]]))
                                                p).i.n :
                                            Int)),
                                         D.arr IntKind.u8 (64 : Nat)
                                          (mWr (ofM (D.st [D.st [D.arr IntKind.u32 (8 : Nat) (mNew k).i.h.l, D.val (Value.int IntKind.u64 (↑(mNew k).i.n : Int)), D.arr IntKind.u8 (64 : Nat) (mNew k).i.l], D.st [D.arr IntKind.u32 (8 : Nat) (mNew k).o.h.l, D.val (Value.int IntKind.u64 (↑(mNew k).o.n : Int)), D.arr IntKind.u8 (64 : Nat) (mNew k).o.l]]))
                                             p).i.l],
                                       D.st
                                        [D.arr IntKind.u32 (8 : Nat)
                                          (mWr (ofM (D.st [D.st [D.arr IntKind.u32 (8 : Nat) (mNew k).i.h.l, D.val (Value.int IntKind.u64 (↑(mNew k).i.n : Int)), D.arr IntKind.u8 (64 : Nat) (mNew k).i.l], D.st [D.arr IntKind.u32 (8 : Nat) (mNew k).o.h.l, D.val (Value.int IntKind.u64 (↑(mNew k).o.n : Int)), D.arr IntKind.u8 (64 : Nat) (mNew k).o.l]]))
                                              p).o.h.l,
                                         D.val
                                          (Value.int IntKind.u64
                                           (↑(mWr (ofM (D.st [D.st [D.arr IntKind.u32 (8 : Nat) (mNew k).i.h.l, D.val (Value.int IntKind.u64 (↑(mNew k).i.n : Int)), D.arr IntKind.u8 (64 : Nat) (mNew k).i.l], D.st [D.arr IntKind.u32 (8 : Nat) (mNew k).o.h.l, D.val (Value.int IntKind.u64 (↑(mNew k).o.n : Int)), D.arr IntKind.u8 (64 : Nat) (mNew k).o.l]]))
                                                p).o.n :
                                            Int)),
                                         D.arr IntKind.u8 (64 : Nat)
                                          (mWr (ofM (D.st [D.st [D.arr IntKind.u32 (8 : Nat) (mNew k).i.h.l, D.val (Value.int IntKind.u64 (↑(mNew k).i.n : Int)), D.arr IntKind.u8 (64 : Nat) (mNew k).i.l], D.st [D.arr IntKind.u32 (8 : Nat) (mNew k).o.h.l, D.val (Value.int IntKind.u64 (↑(mNew k).o.n : Int)), D.arr IntKind.u8 (64 : Nat) (mNew k).o.l]]))
                                             p).o.l]]))
                                    q).o.l]]] =
                           [D.st [D.st [D.arr IntKind.u32 (8 : Nat) s.i.h.l, D.val (Value.int IntKind.u64 (↑s.i.n : Int)), D.arr IntKind.u8 (64 : Nat) s.i.l], D.st [D.arr IntKind.u32 (8 : Nat) s.o.h.l, D.val (Value.int IntKind.u64 (↑s.o.n : Int)), D.arr IntKind.u8 (64 : Nat) s.o.l]]] ∧
                          okM s) ∧
                        True ∧
                         isBytes k ∧
                          True ∧
                           isBytes p ∧
                            True ∧
                             isBytes q ∧
                              (↑(p.length + q.length) : Int) ≤ (9223372036854775807 : Int) ∧
                               (∃ (k_1 : List Int), ∃ (p_1 : List Int), [D.str k, D.str (p ++ q)] = [D.str k_1, D.str p_1] ∧ isB k_1 ∧ isBytes p_1 ∧ p_1.length ≤ (500000000000000 : Nat)) ∧
                                (IntKind.u8 = IntKind.u8 ∧ IntKind.u8 = IntKind.u8 ∧ (32 : Nat) = (32 : Nat) ∧ (32 : Nat) = (32 : Nat) ∧ (1 : Nat) = (1 : Nat)) ∧
                                 True ∧
                                  True ∧
                                   match
                                    eqB
                                     (mSum
                                      (ofM
                                       (D.st
                                        [D.st
                                          [D.arr IntKind.u32 (8 : Nat)
                                            (mWr
                                                (ofM
                                                 (D.st
                                                  [D.st
                                                    [D.arr IntKind.u32 (8 : Nat)
                                                      (mWr
                                                          (ofM
                                                           (D.st
                                                            [D.st [D.arr IntKind.u32 (8 : Nat) (mNew k).i.h.l, D.val (Value.int IntKind.u64 (↑(mNew k).i.n : Int)), D.arr IntKind.u8 (64 : Nat) (mNew k).i.l],
                                                             D.st [D.arr IntKind.u32 (8 : Nat) (mNew k).o.h.l, D.val (Value.int IntKind.u64 (↑(mNew k).o.n : Int)), D.arr IntKind.u8 (64 : Nat) (mNew k).o.l]]))
                                                          p).i.h.l,
                                                     D.val
                                                      (Value.int IntKind.u64
                                                       (↑(mWr
                                                            (ofM
                                                             (D.st
                                                              [D.st [D.arr IntKind.u32 (8 : Nat) (mNew k).i.h.l, D.val (Value.int IntKind.u64 (↑(mNew k).i.n : Int)), D.arr IntKind.u8 (64 : Nat) (mNew k).i.l],
                                                               D.st [D.arr IntKind.u32 (8 : Nat) (mNew k).o.h.l, D.val (Value.int IntKind.u64 (↑(mNew k).o.n : Int)), D.arr IntKind.u8 (64 : Nat) (mNew k).o.l]]))
                                                            p).i.n :
                                                        Int)),
                                                     D.arr IntKind.u8 (64 : Nat)
                                                      (mWr
                                                         (ofM
                                                          (D.st
                                                           [D.st [D.arr IntKind.u32 (8 : Nat) (mNew k).i.h.l, D.val (Value.int IntKind.u64 (↑(mNew k).i.n : Int)), D.arr IntKind.u8 (64 : Nat) (mNew k).i.l],
                                                            D.st [D.arr IntKind.u32 (8 : Nat) (mNew k).o.h.l, D.val (Value.int IntKind.u64 (↑(mNew k).o.n : Int)), D.arr IntKind.u8 (64 : Nat) (mNew k).o.l]]))
                                                         p).i.l],
                                                   D.st
                                                    [D.arr IntKind.u32 (8 : Nat)
                                                      (mWr
                                                          (ofM
                                                           (D.st
                                                            [D.st [D.arr IntKind.u32 (8 : Nat) (mNew k).i.h.l, D.val (Value.int IntKind.u64 (↑(mNew k).i.n : Int)), D.arr IntKind.u8 (64 : Nat) (mNew k).i.l],
                                                             D.st [D.arr IntKind.u32 (8 : Nat) (mNew k).o.h.l, D.val (Value.int IntKind.u64 (↑(mNew k).o.n : Int)), D.arr IntKind.u8 (64 : Nat) (mNew k).o.l]]))
                                                          p).o.h.l,
                                                     D.val
                                                      (Value.int IntKind.u64
                                                       (↑(mWr
                                                            (ofM
                                                             (D.st
                                                              [D.st [D.arr IntKind.u32 (8 : Nat) (mNew k).i.h.l, D.val (Value.int IntKind.u64 (↑(mNew k).i.n : Int)), D.arr IntKind.u8 (64 : Nat) (mNew k).i.l],
                                                               D.st [D.arr IntKind.u32 (8 : Nat) (mNew k).o.h.l, D.val (Value.int IntKind.u64 (↑(mNew k).o.n : Int)), D.arr IntKind.u8 (64 : Nat) (mNew k).o.l]]))
                                                            p).o.n :
                                                        Int)),
                                                     D.arr IntKind.u8 (64 : Nat)
                                                      (mWr
                                                         (ofM
                                                          (D.st
                                                           [D.st [D.arr IntKind.u32 (8 : Nat) (mNew k).i.h.l, D.val (Value.int IntKind.u64 (↑(mNew k).i.n : Int)), D.arr IntKind.u8 (64 : Nat) (mNew k).i.l],
                                                            D.st [D.arr IntKind.u32 (8 : Nat) (mNew k).o.h.l, D.val (Value.int IntKind.u64 (↑(mNew k).o.n : Int)), D.arr IntKind.u8 (64 : Nat) (mNew k).o.l]]))
                                                         p).o.l]]))
                                                q).i.h.l,
                                           D.val
                                            (Value.int IntKind.u64
                                             (↑(mWr
                                                  (ofM
                                                   (D.st
                                                    [D.st
                                                      [D.arr IntKind.u32 (8 : Nat)
                                                        (mWr
                                                            (ofM
                                                             (D.st
                                                              [D.st [D.arr IntKind.u32 (8 : Nat) (mNew k).i.h.l, D.val (Value.int IntKind.u64 (↑(mNew k).i.n : Int)), D.arr IntKind.u8 (64 : Nat) (mNew k).i.l],
                                                               D.st [D.arr IntKind.u32 (8 : Nat) (mNew k).o.h.l, D.val (Value.int IntKind.u64 (↑(mNew k).o.n : Int)), D.arr IntKind.u8 (64 : Nat) (mNew k).o.l]]))
                                                            p).i.h.l,
                                                       D.val
                                                        (Value.int IntKind.u64
                                                         (↑(mWr
                                                              (ofM
                                                               (D.st
                                                                [D.st [D.arr IntKind.u32 (8 : Nat) (mNew k).i.h.l, D.val (Value.int IntKind.u64 (↑(mNew k).i.n : Int)), D.arr IntKind.u8 (64 : Nat) (mNew k).i.l],
                                                                 D.st [D.arr IntKind.u32 (8 : Nat) (mNew k).o.h.l, D.val (Value.int IntKind.u64 (↑(mNew k).o.n : Int)), D.arr IntKind.u8 (64 : Nat) (mNew k).o.l]]))
                                                              p).i.n :
                                                          Int)),
                                                       D.arr IntKind.u8 (64 : Nat)
                                                        (mWr
                                                           (ofM
                                                            (D.st
                                                             [D.st [D.arr IntKind.u32 (8 : Nat) (mNew k).i.h.l, D.val (Value.int IntKind.u64 (↑(mNew k).i.n : Int)), D.arr IntKind.u8 (64 : Nat) (mNew k).i.l],
                                                              D.st [D.arr IntKind.u32 (8 : Nat) (mNew k).o.h.l, D.val (Value.int IntKind.u64 (↑(mNew k).o.n : Int)), D.arr IntKind.u8 (64 : Nat) (mNew k).o.l]]))
                                                           p).i.l],
                                                     D.st
                                                      [D.arr IntKind.u32 (8 : Nat)
                                                        (mWr
                                                            (ofM
                                                             (D.st
                                                              [D.st [D.arr IntKind.u32 (8 : Nat) (mNew k).i.h.l, D.val (Value.int IntKind.u64 (↑(mNew k).i.n : Int)), D.arr IntKind.u8 (64 : Nat) (mNew k).i.l],
                                                               D.st [D.arr IntKind.u32 (8 : Nat) (mNew k).o.h.l, D.val (Value.int IntKind.u64 (↑(mNew k).o.n : Int)), D.arr IntKind.u8 (64 : Nat) (mNew k).o.l]]))
                                                            p).o.h.l,
                                                       D.val
                                                        (Value.int IntKind.u64
                                                         (↑(mWr
                                                              (ofM
                                                               (D.st
                                                                [D.st [D.arr IntKind.u32 (8 : Nat) (mNew k).i.h.l, D.val (Value.int IntKind.u64 (↑(mNew k).i.n : Int)), D.arr IntKind.u8 (64 : Nat) (mNew k).i.l],
                                                                 D.st [D.arr IntKind.u32 (8 : Nat) (mNew k).o.h.l, D.val (Value.int IntKind.u64 (↑(mNew k).o.n : Int)), D.arr IntKind.u8 (64 : Nat) (mNew k).o.l]]))
                                                              p).o.n :
                                                          Int)),
                                                       D.arr IntKind.u8 (64 : Nat)
                                                        (mWr
                                                           (ofM
                                                            (D.st
                                                             [D.st [D.arr IntKind.u32 (8 : Nat) (mNew k).i.h.l, D.val (Value.int IntKind.u64 (↑(mNew k).i.n : Int)), D.arr IntKind.u8 (64 : Nat) (mNew k).i.l],
                                                              D.st [D.arr IntKind.u32 (8 : Nat) (mNew k).o.h.l, D.val (Value.int IntKind.u64 (↑(mNew k).o.n : Int)), D.arr IntKind.u8 (64 : Nat) (mNew k).o.l]]))
                                                           p).o.l]]))
                                                  q).i.n :
                                              Int)),
                                           D.arr IntKind.u8 (64 : Nat)
                                            (mWr
                                               (ofM
                                                (D.st
                                                 [D.st
                                                   [D.arr IntKind.u32 (8 : Nat)
                                                     (mWr
                                                         (ofM
                                                          (D.st
                                                           [D.st [D.arr IntKind.u32 (8 : Nat) (mNew k).i.h.l, D.val (Value.int IntKind.u64 (↑(mNew k).i.n : Int)), D.arr IntKind.u8 (64 : Nat) (mNew k).i.l],
                                                            D.st [D.arr IntKind.u32 (8 : Nat) (mNew k).o.h.l, D.val (Value.int IntKind.u64 (↑(mNew k).o.n : Int)), D.arr IntKind.u8 (64 : Nat) (mNew k).o.l]]))
                                                         p).i.h.l,
                                                    D.val
                                                     (Value.int IntKind.u64
                                                      (↑(mWr
                                                           (ofM
                                                            (D.st
                                                             [D.st [D.arr IntKind.u32 (8 : Nat) (mNew k).i.h.l, D.val (Value.int IntKind.u64 (↑(mNew k).i.n : Int)), D.arr IntKind.u8 (64 : Nat) (mNew k).i.l],
                                                              D.st [D.arr IntKind.u32 (8 : Nat) (mNew k).o.h.l, D.val (Value.int IntKind.u64 (↑(mNew k).o.n : Int)), D.arr IntKind.u8 (64 : Nat) (mNew k).o.l]]))
                                                           p).i.n :
                                                       Int)),
                                                    D.arr IntKind.u8 (64 : Nat)
                                                     (mWr
                                                        (ofM
                                                         (D.st
                                                          [D.st [D.arr IntKind.u32 (8 : Nat) (mNew k).i.h.l, D.val (Value.int IntKind.u64 (↑(mNew k).i.n : Int)), D.arr IntKind.u8 (64 : Nat) (mNew k).i.l],
                                                           D.st [D.arr IntKind.u32 (8 : Nat) (mNew k).o.h.l, D.val (Value.int IntKind.u64 (↑(mNew k).o.n : Int)), D.arr IntKind.u8 (64 : Nat) (mNew k).o.l]]))
                                                        p).i.l],
                                                  D.st
                                                   [D.arr IntKind.u32 (8 : Nat)
                                                     (mWr
                                                         (ofM
                                                          (D.st
                                                           [D.st [D.arr IntKind.u32 (8 : Nat) (mNew k).i.h.l, D.val (Value.int IntKind.u64 (↑(mNew k).i.n : Int)), D.arr IntKind.u8 (64 : Nat) (mNew k).i.l],
                                                            D.st [D.arr IntKind.u32 (8 : Nat) (mNew k).o.h.l, D.val (Value.int IntKind.u64 (↑(mNew k).o.n : Int)), D.arr IntKind.u8 (64 : Nat) (mNew k).o.l]]))
                                                         p).o.h.l,
                                                    D.val
                                                     (Value.int IntKind.u64
                                                      (↑(mWr
                                                           (ofM
                                                            (D.st
                                                             [D.st [D.arr IntKind.u32 (8 : Nat) (mNew k).i.h.l, D.val (Value.int IntKind.u64 (↑(mNew k).i.n : Int)), D.arr IntKind.u8 (64 : Nat) (mNew k).i.l],
                                                              D.st [D.arr IntKind.u32 (8 : Nat) (mNew k).o.h.l, D.val (Value.int IntKind.u64 (↑(mNew k).o.n : Int)), D.arr IntKind.u8 (64 : Nat) (mNew k).o.l]]))
                                                           p).o.n :
                                                       Int)),
                                                    D.arr IntKind.u8 (64 : Nat)
                                                     (mWr
                                                        (ofM
                                                         (D.st
                                                          [D.st [D.arr IntKind.u32 (8 : Nat) (mNew k).i.h.l, D.val (Value.int IntKind.u64 (↑(mNew k).i.n : Int)), D.arr IntKind.u8 (64 : Nat) (mNew k).i.l],
                                                           D.st [D.arr IntKind.u32 (8 : Nat) (mNew k).o.h.l, D.val (Value.int IntKind.u64 (↑(mNew k).o.n : Int)), D.arr IntKind.u8 (64 : Nat) (mNew k).o.l]]))
                                                        p).o.l]]))
                                               q).i.l],
                                         D.st
                                          [D.arr IntKind.u32 (8 : Nat)
                                            (mWr
                                                (ofM
                                                 (D.st
                                                  [D.st
                                                    [D.arr IntKind.u32 (8 : Nat)
                                                      (mWr
                                                          (ofM
                                                           (D.st
                                                            [D.st [D.arr IntKind.u32 (8 : Nat) (mNew k).i.h.l, D.val (Value.int IntKind.u64 (↑(mNew k).i.n : Int)), D.arr IntKind.u8 (64 : Nat) (mNew k).i.l],
                                                             D.st [D.arr IntKind.u32 (8 : Nat) (mNew k).o.h.l, D.val (Value.int IntKind.u64 (↑(mNew k).o.n : Int)), D.arr IntKind.u8 (64 : Nat) (mNew k).o.l]]))
                                                          p).i.h.l,
                                                     D.val
                                                      (Value.int IntKind.u64
                                                       (↑(mWr
                                                            (ofM
                                                             (D.st
                                                              [D.st [D.arr IntKind.u32 (8 : Nat) (mNew k).i.h.l, D.val (Value.int IntKind.u64 (↑(mNew k).i.n : Int)), D.arr IntKind.u8 (64 : Nat) (mNew k).i.l],
                                                               D.st [D.arr IntKind.u32 (8 : Nat) (mNew k).o.h.l, D.val (Value.int IntKind.u64 (↑(mNew k).o.n : Int)), D.arr IntKind.u8 (64 : Nat) (mNew k).o.l]]))
                                                            p).i.n :
                                                        Int)),
                                                     D.arr IntKind.u8 (64 : Nat)
                                                      (mWr
                                                         (ofM
                                                          (D.st
                                                           [D.st [D.arr IntKind.u32 (8 : Nat) (mNew k).i.h.l, D.val (Value.int IntKind.u64 (↑(mNew k).i.n : Int)), D.arr IntKind.u8 (64 : Nat) (mNew k).i.l],
                                                            D.st [D.arr IntKind.u32 (8 : Nat) (mNew k).o.h.l, D.val (Value.int IntKind.u64 (↑(mNew k).o.n : Int)), D.arr IntKind.u8 (64 : Nat) (mNew k).o.l]]))
                                                         p).i.l],
                                                   D.st
                                                    [D.arr IntKind.u32 (8 : Nat)
                                                      (mWr
                                                          (ofM
                                                           (D.st
                                                            [D.st [D.arr IntKind.u32 (8 : Nat) (mNew k).i.h.l, D.val (Value.int IntKind.u64 (↑(mNew k).i.n : Int)), D.arr IntKind.u8 (64 : Nat) (mNew k).i.l],
                                                             D.st [D.arr IntKind.u32 (8 : Nat) (mNew k).o.h.l, D.val (Value.int IntKind.u64 (↑(mNew k).o.n : Int)), D.arr IntKind.u8 (64 : Nat) (mNew k).o.l]]))
                                                          p).o.h.l,
                                                     D.val
                                                      (Value.int IntKind.u64
                                                       (↑(mWr
                                                            (ofM
                                                             (D.st
                                                              [D.st [D.arr IntKind.u32 (8 : Nat) (mNew k).i.h.l, D.val (Value.int IntKind.u64 (↑(mNew k).i.n : Int)), D.arr IntKind.u8 (64 : Nat) (mNew k).i.l],
                                                               D.st [D.arr IntKind.u32 (8 : Nat) (mNew k).o.h.l, D.val (Value.int IntKind.u64 (↑(mNew k).o.n : Int)), D.arr IntKind.u8 (64 : Nat) (mNew k).o.l]]))
                                                            p).o.n :
                                                        Int)),
                                                     D.arr IntKind.u8 (64 : Nat)
                                                      (mWr
                                                         (ofM
                                                          (D.st
                                                           [D.st [D.arr IntKind.u32 (8 : Nat) (mNew k).i.h.l, D.val (Value.int IntKind.u64 (↑(mNew k).i.n : Int)), D.arr IntKind.u8 (64 : Nat) (mNew k).i.l],
                                                            D.st [D.arr IntKind.u32 (8 : Nat) (mNew k).o.h.l, D.val (Value.int IntKind.u64 (↑(mNew k).o.n : Int)), D.arr IntKind.u8 (64 : Nat) (mNew k).o.l]]))
                                                         p).o.l]]))
                                                q).o.h.l,
                                           D.val
                                            (Value.int IntKind.u64
                                             (↑(mWr
                                                  (ofM
                                                   (D.st
                                                    [D.st
                                                      [D.arr IntKind.u32 (8 : Nat)
                                                        (mWr
                                                            (ofM
                                                             (D.st
                                                              [D.st [D.arr IntKind.u32 (8 : Nat) (mNew k).i.h.l, D.val (Value.int IntKind.u64 (↑(mNew k).i.n : Int)), D.arr IntKind.u8 (64 : Nat) (mNew k).i.l],
                                                               D.st [D.arr IntKind.u32 (8 : Nat) (mNew k).o.h.l, D.val (Value.int IntKind.u64 (↑(mNew k).o.n : Int)), D.arr IntKind.u8 (64 : Nat) (mNew k).o.l]]))
                                                            p).i.h.l,
                                                       D.val
                                                        (Value.int IntKind.u64
                                                         (↑(mWr
                                                              (ofM
                                                               (D.st
                                                                [D.st [D.arr IntKind.u32 (8 : Nat) (mNew k).i.h.l, D.val (Value.int IntKind.u64 (↑(mNew k).i.n : Int)), D.arr IntKind.u8 (64 : Nat) (mNew k).i.l],
                                                                 D.st [D.arr IntKind.u32 (8 : Nat) (mNew k).o.h.l, D.val (Value.int IntKind.u64 (↑(mNew k).o.n : Int)), D.arr IntKind.u8 (64 : Nat) (mNew k).o.l]]))
                                                              p).i.n :
                                                          Int)),
                                                       D.arr IntKind.u8 (64 : Nat)
                                                        (mWr
                                                           (ofM
                                                            (D.st
                                                             [D.st [D.arr IntKind.u32 (8 : Nat) (mNew k).i.h.l, D.val (Value.int IntKind.u64 (↑(mNew k).i.n : Int)), D.arr IntKind.u8 (64 : Nat) (mNew k).i.l],
                                                              D.st [D.arr IntKind.u32 (8 : Nat) (mNew k).o.h.l, D.val (Value.int IntKind.u64 (↑(mNew k).o.n : Int)), D.arr IntKind.u8 (64 : Nat) (mNew k).o.l]]))
                                                           p).i.l],
                                                     D.st
                                                      [D.arr IntKind.u32 (8 : Nat)
                                                        (mWr
                                                            (ofM
                                                             (D.st
                                                              [D.st [D.arr IntKind.u32 (8 : Nat) (mNew k).i.h.l, D.val (Value.int IntKind.u64 (↑(mNew k).i.n : Int)), D.arr IntKind.u8 (64 : Nat) (mNew k).i.l],
                                                               D.st [D.arr IntKind.u32 (8 : Nat) (mNew k).o.h.l, D.val (Value.int IntKind.u64 (↑(mNew k).o.n : Int)), D.arr IntKind.u8 (64 : Nat) (mNew k).o.l]]))
                                                            p).o.h.l,
                                                       D.val
                                                        (Value.int IntKind.u64
                                                         (↑(mWr
                                                              (ofM
                                                               (D.st
                                                                [D.st [D.arr IntKind.u32 (8 : Nat) (mNew k).i.h.l, D.val (Value.int IntKind.u64 (↑(mNew k).i.n : Int)), D.arr IntKind.u8 (64 : Nat) (mNew k).i.l],
                                                                 D.st [D.arr IntKind.u32 (8 : Nat) (mNew k).o.h.l, D.val (Value.int IntKind.u64 (↑(mNew k).o.n : Int)), D.arr IntKind.u8 (64 : Nat) (mNew k).o.l]]))
                                                              p).o.n :
                                                          Int)),
                                                       D.arr IntKind.u8 (64 : Nat)
                                                        (mWr
                                                           (ofM
                                                            (D.st
                                                             [D.st [D.arr IntKind.u32 (8 : Nat) (mNew k).i.h.l, D.val (Value.int IntKind.u64 (↑(mNew k).i.n : Int)), D.arr IntKind.u8 (64 : Nat) (mNew k).i.l],
                                                              D.st [D.arr IntKind.u32 (8 : Nat) (mNew k).o.h.l, D.val (Value.int IntKind.u64 (↑(mNew k).o.n : Int)), D.arr IntKind.u8 (64 : Nat) (mNew k).o.l]]))
                                                           p).o.l]]))
                                                  q).o.n :
                                              Int)),
                                           D.arr IntKind.u8 (64 : Nat)
                                            (mWr
                                               (ofM
                                                (D.st
                                                 [D.st
                                                   [D.arr IntKind.u32 (8 : Nat)
                                                     (mWr
                                                         (ofM
                                                          (D.st
                                                           [D.st [D.arr IntKind.u32 (8 : Nat) (mNew k).i.h.l, D.val (Value.int IntKind.u64 (↑(mNew k).i.n : Int)), D.arr IntKind.u8 (64 : Nat) (mNew k).i.l],
                                                            D.st [D.arr IntKind.u32 (8 : Nat) (mNew k).o.h.l, D.val (Value.int IntKind.u64 (↑(mNew k).o.n : Int)), D.arr IntKind.u8 (64 : Nat) (mNew k).o.l]]))
                                                         p).i.h.l,
                                                    D.val
                                                     (Value.int IntKind.u64
                                                      (↑(mWr
                                                           (ofM
                                                            (D.st
                                                             [D.st [D.arr IntKind.u32 (8 : Nat) (mNew k).i.h.l, D.val (Value.int IntKind.u64 (↑(mNew k).i.n : Int)), D.arr IntKind.u8 (64 : Nat) (mNew k).i.l],
                                                              D.st [D.arr IntKind.u32 (8 : Nat) (mNew k).o.h.l, D.val (Value.int IntKind.u64 (↑(mNew k).o.n : Int)), D.arr IntKind.u8 (64 : Nat) (mNew k).o.l]]))
                                                           p).i.n :
                                                       Int)),
                                                    D.arr IntKind.u8 (64 : Nat)
                                                     (mWr
                                                        (ofM
                                                         (D.st
                                                          [D.st [D.arr IntKind.u32 (8 : Nat) (mNew k).i.h.l, D.val (Value.int IntKind.u64 (↑(mNew k).i.n : Int)), D.arr IntKind.u8 (64 : Nat) (mNew k).i.l],
                                                           D.st [D.arr IntKind.u32 (8 : Nat) (mNew k).o.h.l, D.val (Value.int IntKind.u64 (↑(mNew k).o.n : Int)), D.arr IntKind.u8 (64 : Nat) (mNew k).o.l]]))
                                                        p).i.l],
                                                  D.st
                                                   [D.arr IntKind.u32 (8 : Nat)
                                                     (mWr
                                                         (ofM
                                                          (D.st
                                                           [D.st [D.arr IntKind.u32 (8 : Nat) (mNew k).i.h.l, D.val (Value.int IntKind.u64 (↑(mNew k).i.n : Int)), D.arr IntKind.u8 (64 : Nat) (mNew k).i.l],
                                                            D.st [D.arr IntKind.u32 (8 : Nat) (mNew k).o.h.l, D.val (Value.int IntKind.u64 (↑(mNew k).o.n : Int)), D.arr IntKind.u8 (64 : Nat) (mNew k).o.l]]))
                                                         p).o.h.l,
                                                    D.val
                                                     (Value.int IntKind.u64
                                                      (↑(mWr
                                                           (ofM
                                                            (D.st
                                                             [D.st [D.arr IntKind.u32 (8 : Nat) (mNew k).i.h.l, D.val (Value.int IntKind.u64 (↑(mNew k).i.n : Int)), D.arr IntKind.u8 (64 : Nat) (mNew k).i.l],
                                                              D.st [D.arr IntKind.u32 (8 : Nat) (mNew k).o.h.l, D.val (Value.int IntKind.u64 (↑(mNew k).o.n : Int)), D.arr IntKind.u8 (64 : Nat) (mNew k).o.l]]))
                                                           p).o.n :
                                                       Int)),
                                                    D.arr IntKind.u8 (64 : Nat)
                                                     (mWr
                                                        (ofM
                                                         (D.st
                                                          [D.st [D.arr IntKind.u32 (8 : Nat) (mNew k).i.h.l, D.val (Value.int IntKind.u64 (↑(mNew k).i.n : Int)), D.arr IntKind.u8 (64 : Nat) (mNew k).i.l],
                                                           D.st [D.arr IntKind.u32 (8 : Nat) (mNew k).o.h.l, D.val (Value.int IntKind.u64 (↑(mNew k).o.n : Int)), D.arr IntKind.u8 (64 : Nat) (mNew k).o.l]]))
                                                        p).o.l]]))
                                               q).o.l]])))
                                     (mkL k (p ++ q)) with
                                   | true =>
                                    ((146 : Nat) ≠ (0 : Nat) ∧ (146 : Nat) = (146 : Nat) ∧ true = true) ∧
                                     (∃ (s : MS),
                                       [D.st
                                           [D.st
                                             [D.arr IntKind.u32 (8 : Nat)
                                               (mWr
                                                   (ofM
                                                    (D.st
                                                     [D.st [D.arr IntKind.u32 (8 : Nat) (mNew k).i.h.l, D.val (Value.int IntKind.u64 (↑(mNew k).i.n : Int)), D.arr IntKind.u8 (64 : Nat) (mNew k).i.l], D.st [D.arr IntKind.u32 (8 : Nat) (mNew k).o.h.l, D.val (Value.int IntKind.u64 (↑(mNew k).o.n : Int)), D.arr IntKind.u8 (64 : Nat) (mNew k).o.l]]))
                                                   p).i.h.l,
                                              D.val
                                               (Value.int IntKind.u64
                                                (↑(mWr
                                                     (ofM
                                                      (D.st
                                                       [D.st [D.arr IntKind.u32 (8 : Nat) (mNew k).i.h.l, D.val (Value.int IntKind.u64 (↑(mNew k).i.n : Int)), D.arr IntKind.u8 (64 : Nat) (mNew k).i.l],
                                                        D.st [D.arr IntKind.u32 (8 : Nat) (mNew k).o.h.l, D.val (Value.int IntKind.u64 (↑(mNew k).o.n : Int)), D.arr IntKind.u8 (64 : Nat) (mNew k).o.l]]))
                                                     p).i.n :
                                                 Int)),
                                              D.arr IntKind.u8 (64 : Nat)
                                               (mWr
                                                  (ofM
                                                   (D.st [D.st [D.arr IntKind.u32 (8 : Nat) (mNew k).i.h.l, D.val (Value.int IntKind.u64 (↑(mNew k).i.n : Int)), D.arr IntKind.u8 (64 : Nat) (mNew k).i.l], D.st [D.arr IntKind.u32 (8 : Nat) (mNew k).o.h.l, D.val (Value.int IntKind.u64 (↑(mNew k).o.n : Int)), D.arr IntKind.u8 (64 : Nat) (mNew k).o.l]]))
                                                  p).i.l],
                                            D.st
                                             [D.arr IntKind.u32 (8 : Nat)
                                               (mWr
                                                   (ofM
                                                    (D.st
                                                     [D.st [D.arr IntKind.u32 (8 : Nat) (mNew k).i.h.l, D.val (Value.int IntKind.u64 (↑(mNew k).i.n : Int)), D.arr IntKind.u8 (64 : Nat) (mNew k).i.l], D.st [D.arr IntKind.u32 (8 : Nat) (mNew k).o.h.l, D.val (Value.int IntKind.u64 (↑(mNew k).o.n : Int)), D.arr IntKind.u8 (64 : Nat) (mNew k).o.l]]))
                                                   p).o.h.l,
                                              D.val
                                               (Value.int IntKind.u64
                                                (↑(mWr
                                                     (ofM
                                                      (D.st
                                                       [D.st [D.arr IntKind.u32 (8 : Nat) (mNew k).i.h.l, D.val (Value.int IntKind.u64 (↑(mNew k).i.n : Int)), D.arr IntKind.u8 (64 : Nat) (mNew k).i.l],
                                                        D.st [D.arr IntKind.u32 (8 : Nat) (mNew k).o.h.l, D.val (Value.int IntKind.u64 (↑(mNew k).o.n : Int)), D.arr IntKind.u8 (64 : Nat) (mNew k).o.l]]))
                                                     p).o.n :
                                                 Int)),
                                              D.arr IntKind.u8 (64 : Nat)
                                               (mWr
                                                  (ofM
                                                   (D.st [D.st [D.arr IntKind.u32 (8 : Nat) (mNew k).i.h.l, D.val (Value.int IntKind.u64 (↑(mNew k).i.n : Int)), D.arr IntKind.u8 (64 : Nat) (mNew k).i.l], D.st [D.arr IntKind.u32 (8 : Nat) (mNew k).o.h.l, D.val (Value.int IntKind.u64 (↑(mNew k).o.n : Int)), D.arr IntKind.u8 (64 : Nat) (mNew k).o.l]]))
                                                  p).o.l]]] =
                                         [D.st [D.st [D.arr IntKind.u32 (8 : Nat) s.i.h.l, D.val (Value.int IntKind.u64 (↑s.i.n : Int)), D.arr IntKind.u8 (64 : Nat) s.i.l], D.st [D.arr IntKind.u32 (8 : Nat) s.o.h.l, D.val (Value.int IntKind.u64 (↑s.o.n : Int)), D.arr IntKind.u8 (64 : Nat) s.o.l]]] ∧
                                        okM s) ∧
                                      True ∧
                                       True ∧
                                        (∃ (k_1 : List Int), ∃ (p_1 : List Int), [D.ints IntKind.u8 k, D.ints IntKind.u8 p] = [D.ints IntKind.u8 k_1, D.ints IntKind.u8 p_1] ∧ isB k_1 ∧ isB p_1) ∧
                                         (IntKind.u8 = IntKind.u8 ∧ IntKind.u8 = IntKind.u8 ∧ (32 : Nat) = (32 : Nat) ∧ (32 : Nat) = (32 : Nat) ∧ (1 : Nat) = (1 : Nat)) ∧
                                          True ∧
                                           True ∧
                                            match
                                             eqB
                                              (mSum
                                               (ofM
                                                (D.st
                                                 [D.st
                                                   [D.arr IntKind.u32 (8 : Nat)
                                                     (mWr
                                                         (ofM
                                                          (D.st
                                                           [D.st [D.arr IntKind.u32 (8 : Nat) (mNew k).i.h.l, D.val (Value.int IntKind.u64 (↑(mNew k).i.n : Int)), D.arr IntKind.u8 (64 : Nat) (mNew k).i.l],
                                                            D.st [D.arr IntKind.u32 (8 : Nat) (mNew k).o.h.l, D.val (Value.int IntKind.u64 (↑(mNew k).o.n : Int)), D.arr IntKind.u8 (64 : Nat) (mNew k).o.l]]))
                                                         p).i.h.l,
                                                    D.val
                                                     (Value.int IntKind.u64
                                                      (↑(mWr
                                                           (ofM
                                                            (D.st
                                                             [D.st [D.arr IntKind.u32 (8 : Nat) (mNew k).i.h.l, D.val (Value.int IntKind.u64 (↑(mNew k).i.n : Int)), D.arr IntKind.u8 (64 : Nat) (mNew k).i.l],
                                                              D.st [D.arr IntKind.u32 (8 : Nat) (mNew k).o.h.l, D.val (Value.int IntKind.u64 (↑(mNew k).o.n : Int)), D.arr IntKind.u8 (64 : Nat) (mNew k).o.l]]))
                                                           p).i.n :
                                                       Int)),
                                                    D.arr IntKind.u8 (64 : Nat)
                                                     (mWr
                                                        (ofM
                                                         (D.st
                                                          [D.st [D.arr IntKind.u32 (8 : Nat) (mNew k).i.h.l, D.val (Value.int IntKind.u64 (↑(mNew k).i.n : Int)), D.arr IntKind.u8 (64 : Nat) (mNew k).i.l],
                                                           D.st [D.arr IntKind.u32 (8 : Nat) (mNew k).o.h.l, D.val (Value.int IntKind.u64 (↑(mNew k).o.n : Int)), D.arr IntKind.u8 (64 : Nat) (mNew k).o.l]]))
                                                        p).i.l],
                                                  D.st
                                                   [D.arr IntKind.u32 (8 : Nat)
                                                     (mWr
                                                         (ofM
                                                          (D.st
                                                           [D.st [D.arr IntKind.u32 (8 : Nat) (mNew k).i.h.l, D.val (Value.int IntKind.u64 (↑(mNew k).i.n : Int)), D.arr IntKind.u8 (64 : Nat) (mNew k).i.l],
                                                            D.st [D.arr IntKind.u32 (8 : Nat) (mNew k).o.h.l, D.val (Value.int IntKind.u64 (↑(mNew k).o.n : Int)), D.arr IntKind.u8 (64 : Nat) (mNew k).o.l]]))
                                                         p).o.h.l,
                                                    D.val
                                                     (Value.int IntKind.u64
                                                      (↑(mWr
                                                           (ofM
                                                            (D.st
                                                             [D.st [D.arr IntKind.u32 (8 : Nat) (mNew k).i.h.l, D.val (Value.int IntKind.u64 (↑(mNew k).i.n : Int)), D.arr IntKind.u8 (64 : Nat) (mNew k).i.l],
                                                              D.st [D.arr IntKind.u32 (8 : Nat) (mNew k).o.h.l, D.val (Value.int IntKind.u64 (↑(mNew k).o.n : Int)), D.arr IntKind.u8 (64 : Nat) (mNew k).o.l]]))
                                                           p).o.n :
                                                       Int)),
                                                    D.arr IntKind.u8 (64 : Nat)
                                                     (mWr
                                                        (ofM
                                                         (D.st
                                                          [D.st [D.arr IntKind.u32 (8 : Nat) (mNew k).i.h.l, D.val (Value.int IntKind.u64 (↑(mNew k).i.n : Int)), D.arr IntKind.u8 (64 : Nat) (mNew k).i.l],
                                                           D.st [D.arr IntKind.u32 (8 : Nat) (mNew k).o.h.l, D.val (Value.int IntKind.u64 (↑(mNew k).o.n : Int)), D.arr IntKind.u8 (64 : Nat) (mNew k).o.l]]))
                                                        p).o.l]])))
                                              (mkL k p) with
                                            | true =>
                                             True ∧
                                              True ∧
                                               (∃ (a : List Int), ∃ (b : List Int), [D.ints IntKind.u8 p, D.ints IntKind.u8 q] = [D.ints IntKind.u8 a, D.ints IntKind.u8 b] ∧ isB a ∧ isB b) ∧
                                                True ∧ True ∧ (∃ (a : List Int), ∃ (b : List Int), [D.ints IntKind.u8 p, D.ints IntKind.u8 q] = [D.ints IntKind.u8 a, D.ints IntKind.u8 b] ∧ isB a ∧ isB b) ∧ True ∧ True ∧ True ∧ (false = false ∧ True) ∧ D.val (Value.bool (eqB p q == eqB p q)) = F
                                            | false => True ∧ True ∧ (false = false ∧ True) ∧ D.val (Value.bool false) = F
                                   | false => True ∧ True ∧ True ∧ True ∧ (false = false ∧ True) ∧ D.val (Value.bool false) = F
                   | false => True ∧ True ∧ True ∧ True ∧ True ∧ True ∧ (false = false ∧ True) ∧ D.val (Value.bool false) = F) := by kernel_rfl

set_option maxRecDepth 100000 in
theorem m6 : Meets Tryd.prog 6 (lawSpec tab Tryd.f6.params.toList) := by
  refine meets_of_owed (C := c6) ⟨tab_ok, lkS_ok ⟨m19, m20, m21, m22, m23, m24, m25, trivial⟩⟩ (by kernel_rfl) (by kernel_rfl : Tryd.prog.funcs[6]? = some Tryd.f6) (by kernel_rfl) (by kernel_rfl) (by kernel_rfl) _ ?_
  intro ds hds
  obtain ⟨k, p, q, rfl, hk, hkl, hp, hpl, hq, hql⟩ : ∃ k p q, ds = [.ints .u8 k, .ints .u8 p, .ints .u8 q] ∧ isBytes k ∧ k.length ≤ 140737488351232 ∧ isBytes p ∧ p.length ≤ 140737488351232 ∧ isBytes q ∧ q.length ≤ 140737488351232 := by
    have hds : OkAll tab 8 [22, 22, 22] ds := hds
    obtain ⟨d, e, f, rfl, h1, h2, h3⟩ := okAll3 hds
    obtain ⟨k, rfl, hk, hkl⟩ := bytes_of h1 rfl
    obtain ⟨p, rfl, hp, hpl⟩ := bytes_of h2 rfl
    obtain ⟨q, rfl, hq, hql⟩ := bytes_of h3 rfl
    exact ⟨k, p, q, rfl, hk, hkl, hp, hpl, hq, hql⟩
  refine ⟨fun _ => rfl, fun _ => none, ?_⟩
  show owed c6 (fun _ => none) Tryd.f6 [.ints .u8 k, .ints .u8 p, .ints .u8 q] (bl true)
  rw [vc6]
  have bk : isB k := ⟨hk, by omega⟩
  have bp : isB p := ⟨hp, by omega⟩
  have bq : isB q := ⟨hq, by omega⟩
  have ok := mNew_ok bk
  simp (decide := true) only [ofM', mac_eq, mWr_app, eqB_refl, beq_self_eq_true, eq_self, true_and, and_true, ne_eq, not_false_eq_true]
  have ok2 := mWr_ok ok hp
  refine ⟨⟨k, rfl, bk⟩, ⟨_, p, rfl, ok, bp⟩, ⟨k, p, rfl, bk, bp⟩, hk, hp, ⟨k, p, rfl, bk, hp, by omega⟩, ⟨_, q, rfl, ok2, bq⟩, ⟨_, rfl, mWr_ok ok (bytes_app hp hq)⟩, hk, hp, hq, by omega,
    ⟨k, _, rfl, bk, bytes_app hp hq, by rw [List.length_append]; omega⟩, ⟨_, rfl, ok2⟩, ⟨k, p, rfl, bk, bp⟩, ⟨p, q, rfl, bp, bq⟩, ⟨p, q, rfl, bp, bq⟩, rfl⟩

end Go.Proofs.YtcdjhhepgkcabaaDoor
