import Derived.Test.YtcdjhhepgkcabaaDoorHe3
/- The laws HashTells and HashResumes: what their code owes. -/
namespace Go.Proofs.YtcdjhhepgkcabaaDoor
open Go Go.Vg

def bl (b : Bool) : D := .val (.bool b)
theorem okAll3 {t : Tab} {n : Nat} {a b c : TypeId} : ∀ {ds : List D}, OkAll t n [a, b, c] ds → ∃ d e f, ds = [d, e, f] ∧ OkT t n a d ∧ OkT t n b e ∧ OkT t n c f
  | [], h => by cases h
  | [_], h => by cases h.2
  | [_, _], h => by cases h.2.2
  | [d, e, f], h => ⟨d, e, f, rfl, h.1, h.2.1, h.2.2.1⟩
  | _ :: _ :: _ :: _ :: _, h => by cases h.2.2.2
def c3 : Ctx := ⟨tab, lkS [(7, sp7), (8, sp8), (9, sp9), (10, sp10), (11, sp11), (12, sp12), (13, sp13)], [], []⟩
def c4 : Ctx := ⟨tab, lkS [(8, sp8), (10, sp10), (13, sp13), (14, sp14), (15, sp15), (16, sp16)], [], []⟩
--KEEP ofR BitVec.toNat prL pr Go.Proofs.YtcdjhhepgkcabaaDoor.R8.l wrS ofS okS padL fhK outL sumL fromL digL woL wl woI iv st0 rsS rsE wat fullL Go.Vg.eqB
set_option maxRecDepth 100000 in
theorem ok22  (d : D)  :
    (OkT tab 8 22 d) = (
 ∃ (l : List Int), d = D.ints IntKind.u8 l ∧ (∀ (z : Int), z ∈ l → (0 : Int) ≤ z ∧ z ≤ IntKind.u8.max) ∧ l.length ≤ (9223372036854775807 : Nat) ∧ l.length * (1 : Nat) ≤ (140737488351232 : Nat)) := by kernel_rfl
set_option maxRecDepth 100000 in
theorem ok23  (d : D)  :
    (OkT tab 8 23 d) = (
 ∃ (z : Int), d = D.val (Value.int IntKind.u64 z) ∧ (0 : Int) ≤ z ∧ z ≤ IntKind.u64.max) := by kernel_rfl
set_option maxRecDepth 100000 in
theorem ok31  (d : D)  :
    (OkT tab 8 31 d) = (
 ∃ (l : List Int), d = D.arr IntKind.u8 (32 : Nat) l ∧ l.length = (32 : Nat) ∧ ∀ (z : Int), z ∈ l → (0 : Int) ≤ z ∧ z ≤ IntKind.u8.max) := by kernel_rfl
set_option maxRecDepth 100000 in
theorem vc3  (p q : List Int) (n : Nat) (F : D)  :
    (owed c3 (fun _ => none) Tryd.f3 [.ints .u8 p, .ints .u8 q, u64 (n : Int)] F) = (
 True ∧
   (0 : Nat) = (0 : Nat) ∧
    True ∧
     (∃ (s : HS), ∃ (p_1 : List Int), [D.st [D.arr IntKind.u32 (8 : Nat) st0.h.l, D.val (Value.int IntKind.u64 (↑st0.n : Int)), D.arr IntKind.u8 (64 : Nat) st0.l], D.ints IntKind.u8 p] = [D.st [D.arr IntKind.u32 (8 : Nat) s.h.l, D.val (Value.int IntKind.u64 (↑s.n : Int)), D.arr IntKind.u8 (64 : Nat) s.l], D.ints IntKind.u8 p_1] ∧ okS s ∧ isBytes p_1 ∧ p_1.length ≤ (1000000000000000 : Nat)) ∧
      (True ∧ (73 : Nat) ≠ (0 : Nat)) ∧
       (Sk.st [Sk.arr (8 : Nat), Sk.one, Sk.arr (64 : Nat)] = Sk.st [Sk.arr (8 : Nat), Sk.one, Sk.arr (64 : Nat)] ∧ (73 : Nat) ≠ (0 : Nat) ∧ (73 : Nat) = (73 : Nat) ∧ false = false) ∧
        True ∧
         (∃ (p_1 : List Int), [D.ints IntKind.u8 p] = [D.ints IntKind.u8 p_1] ∧ isBytes p_1 ∧ p_1.length ≤ (1000000000000000 : Nat)) ∧
          True ∧
           isBytes p ∧
            (∃ (p_1 : List Int), [D.str p] = [D.str p_1] ∧ isBytes p_1 ∧ p_1.length ≤ (1000000000000000 : Nat)) ∧
             (IntKind.u8 = IntKind.u8 ∧ IntKind.u8 = IntKind.u8 ∧ (32 : Nat) = (32 : Nat) ∧ (32 : Nat) = (32 : Nat) ∧ (1 : Nat) = (1 : Nat)) ∧
              True ∧
               match eqB (digL p) (digL p) with
               | true =>
                True ∧
                 (∃ (n_1 : Nat), [D.val (Value.int IntKind.u64 (↑n : Int))] = [D.val (Value.int IntKind.u64 (↑n_1 : Int))] ∧ n_1 < (18446744073709551616 : Nat)) ∧
                  isBytes (padL (↑n : Int).toNat) ∧
                   True ∧
                    (∃ (n_1 : Nat), [D.val (Value.int IntKind.u64 (↑n : Int))] = [D.val (Value.int IntKind.u64 (↑n_1 : Int))] ∧ n_1 < (18446744073709551616 : Nat)) ∧
                     True ∧
                      True ∧
                       True ∧
                        match eqB (padL (↑n : Int).toNat) (padL (↑n : Int).toNat) with
                        | true =>
                         ((73 : Nat) ≠ (0 : Nat) ∧ (73 : Nat) = (73 : Nat) ∧ true = true) ∧
                          True ∧
                           (∃ (s : HS),
                             ∃ (p_1 : List Int),
                              [D.st
                                  [D.arr IntKind.u32 (8 : Nat) (wrS (ofS (D.st [D.arr IntKind.u32 (8 : Nat) st0.h.l, D.val (Value.int IntKind.u64 (↑st0.n : Int)), D.arr IntKind.u8 (64 : Nat) st0.l])) p).h.l,
                                   D.val (Value.int IntKind.u64 (↑(wrS (ofS (D.st [D.arr IntKind.u32 (8 : Nat) st0.h.l, D.val (Value.int IntKind.u64 (↑st0.n : Int)), D.arr IntKind.u8 (64 : Nat) st0.l])) p).n : Int)),
                                   D.arr IntKind.u8 (64 : Nat) (wrS (ofS (D.st [D.arr IntKind.u32 (8 : Nat) st0.h.l, D.val (Value.int IntKind.u64 (↑st0.n : Int)), D.arr IntKind.u8 (64 : Nat) st0.l])) p).l],
                                 D.ints IntKind.u8 q] =
                                [D.st [D.arr IntKind.u32 (8 : Nat) s.h.l, D.val (Value.int IntKind.u64 (↑s.n : Int)), D.arr IntKind.u8 (64 : Nat) s.l], D.ints IntKind.u8 p_1] ∧
                               okS s ∧ isBytes p_1 ∧ p_1.length ≤ (1000000000000000 : Nat)) ∧
                            (∃ (s : HS),
                              [D.st
                                  [D.arr IntKind.u32 (8 : Nat)
                                    (wrS
                                       (ofS
                                        (D.st
                                         [D.arr IntKind.u32 (8 : Nat) (wrS (ofS (D.st [D.arr IntKind.u32 (8 : Nat) st0.h.l, D.val (Value.int IntKind.u64 (↑st0.n : Int)), D.arr IntKind.u8 (64 : Nat) st0.l])) p).h.l,
                                          D.val (Value.int IntKind.u64 (↑(wrS (ofS (D.st [D.arr IntKind.u32 (8 : Nat) st0.h.l, D.val (Value.int IntKind.u64 (↑st0.n : Int)), D.arr IntKind.u8 (64 : Nat) st0.l])) p).n : Int)),
                                          D.arr IntKind.u8 (64 : Nat) (wrS (ofS (D.st [D.arr IntKind.u32 (8 : Nat) st0.h.l, D.val (Value.int IntKind.u64 (↑st0.n : Int)), D.arr IntKind.u8 (64 : Nat) st0.l])) p).l]))
                                       q).h.l,
                                   D.val
                                    (Value.int IntKind.u64
                                     (↑(wrS
                                         (ofS
                                          (D.st
                                           [D.arr IntKind.u32 (8 : Nat) (wrS (ofS (D.st [D.arr IntKind.u32 (8 : Nat) st0.h.l, D.val (Value.int IntKind.u64 (↑st0.n : Int)), D.arr IntKind.u8 (64 : Nat) st0.l])) p).h.l,
                                            D.val (Value.int IntKind.u64 (↑(wrS (ofS (D.st [D.arr IntKind.u32 (8 : Nat) st0.h.l, D.val (Value.int IntKind.u64 (↑st0.n : Int)), D.arr IntKind.u8 (64 : Nat) st0.l])) p).n : Int)),
                                            D.arr IntKind.u8 (64 : Nat) (wrS (ofS (D.st [D.arr IntKind.u32 (8 : Nat) st0.h.l, D.val (Value.int IntKind.u64 (↑st0.n : Int)), D.arr IntKind.u8 (64 : Nat) st0.l])) p).l]))
                                         q).n :
                                      Int)),
                                   D.arr IntKind.u8 (64 : Nat)
                                    (wrS
                                      (ofS
                                       (D.st
                                        [D.arr IntKind.u32 (8 : Nat) (wrS (ofS (D.st [D.arr IntKind.u32 (8 : Nat) st0.h.l, D.val (Value.int IntKind.u64 (↑st0.n : Int)), D.arr IntKind.u8 (64 : Nat) st0.l])) p).h.l,
                                         D.val (Value.int IntKind.u64 (↑(wrS (ofS (D.st [D.arr IntKind.u32 (8 : Nat) st0.h.l, D.val (Value.int IntKind.u64 (↑st0.n : Int)), D.arr IntKind.u8 (64 : Nat) st0.l])) p).n : Int)),
                                         D.arr IntKind.u8 (64 : Nat) (wrS (ofS (D.st [D.arr IntKind.u32 (8 : Nat) st0.h.l, D.val (Value.int IntKind.u64 (↑st0.n : Int)), D.arr IntKind.u8 (64 : Nat) st0.l])) p).l]))
                                      q).l]] =
                                [D.st [D.arr IntKind.u32 (8 : Nat) s.h.l, D.val (Value.int IntKind.u64 (↑s.n : Int)), D.arr IntKind.u8 (64 : Nat) s.l]] ∧
                               okS s) ∧
                             True ∧
                              isBytes p ∧
                               True ∧
                                isBytes q ∧
                                 (↑(p.length + q.length) : Int) ≤ (9223372036854775807 : Int) ∧
                                  (∃ (p_1 : List Int), [D.str (p ++ q)] = [D.str p_1] ∧ isBytes p_1 ∧ p_1.length ≤ (1000000000000000 : Nat)) ∧
                                   (IntKind.u8 = IntKind.u8 ∧ IntKind.u8 = IntKind.u8 ∧ (32 : Nat) = (32 : Nat) ∧ (32 : Nat) = (32 : Nat) ∧ (1 : Nat) = (1 : Nat)) ∧
                                    True ∧
                                     True ∧
                                      match
                                       eqB
                                        (sumL
                                         (ofS
                                          (D.st
                                           [D.arr IntKind.u32 (8 : Nat)
                                             (wrS
                                                (ofS
                                                 (D.st
                                                  [D.arr IntKind.u32 (8 : Nat) (wrS (ofS (D.st [D.arr IntKind.u32 (8 : Nat) st0.h.l, D.val (Value.int IntKind.u64 (↑st0.n : Int)), D.arr IntKind.u8 (64 : Nat) st0.l])) p).h.l,
                                                   D.val (Value.int IntKind.u64 (↑(wrS (ofS (D.st [D.arr IntKind.u32 (8 : Nat) st0.h.l, D.val (Value.int IntKind.u64 (↑st0.n : Int)), D.arr IntKind.u8 (64 : Nat) st0.l])) p).n : Int)),
                                                   D.arr IntKind.u8 (64 : Nat) (wrS (ofS (D.st [D.arr IntKind.u32 (8 : Nat) st0.h.l, D.val (Value.int IntKind.u64 (↑st0.n : Int)), D.arr IntKind.u8 (64 : Nat) st0.l])) p).l]))
                                                q).h.l,
                                            D.val
                                             (Value.int IntKind.u64
                                              (↑(wrS
                                                  (ofS
                                                   (D.st
                                                    [D.arr IntKind.u32 (8 : Nat) (wrS (ofS (D.st [D.arr IntKind.u32 (8 : Nat) st0.h.l, D.val (Value.int IntKind.u64 (↑st0.n : Int)), D.arr IntKind.u8 (64 : Nat) st0.l])) p).h.l,
                                                     D.val (Value.int IntKind.u64 (↑(wrS (ofS (D.st [D.arr IntKind.u32 (8 : Nat) st0.h.l, D.val (Value.int IntKind.u64 (↑st0.n : Int)), D.arr IntKind.u8 (64 : Nat) st0.l])) p).n : Int)),
                                                     D.arr IntKind.u8 (64 : Nat) (wrS (ofS (D.st [D.arr IntKind.u32 (8 : Nat) st0.h.l, D.val (Value.int IntKind.u64 (↑st0.n : Int)), D.arr IntKind.u8 (64 : Nat) st0.l])) p).l]))
                                                  q).n :
                                               Int)),
                                            D.arr IntKind.u8 (64 : Nat)
                                             (wrS
                                               (ofS
                                                (D.st
                                                 [D.arr IntKind.u32 (8 : Nat) (wrS (ofS (D.st [D.arr IntKind.u32 (8 : Nat) st0.h.l, D.val (Value.int IntKind.u64 (↑st0.n : Int)), D.arr IntKind.u8 (64 : Nat) st0.l])) p).h.l,
                                                  D.val (Value.int IntKind.u64 (↑(wrS (ofS (D.st [D.arr IntKind.u32 (8 : Nat) st0.h.l, D.val (Value.int IntKind.u64 (↑st0.n : Int)), D.arr IntKind.u8 (64 : Nat) st0.l])) p).n : Int)),
                                                  D.arr IntKind.u8 (64 : Nat) (wrS (ofS (D.st [D.arr IntKind.u32 (8 : Nat) st0.h.l, D.val (Value.int IntKind.u64 (↑st0.n : Int)), D.arr IntKind.u8 (64 : Nat) st0.l])) p).l]))
                                               q).l])))
                                        (digL (p ++ q)) with
                                      | true =>
                                       ((73 : Nat) ≠ (0 : Nat) ∧ (73 : Nat) = (73 : Nat) ∧ true = true) ∧
                                        (∃ (s : HS),
                                          [D.st
                                              [D.arr IntKind.u32 (8 : Nat) (wrS (ofS (D.st [D.arr IntKind.u32 (8 : Nat) st0.h.l, D.val (Value.int IntKind.u64 (↑st0.n : Int)), D.arr IntKind.u8 (64 : Nat) st0.l])) p).h.l,
                                               D.val (Value.int IntKind.u64 (↑(wrS (ofS (D.st [D.arr IntKind.u32 (8 : Nat) st0.h.l, D.val (Value.int IntKind.u64 (↑st0.n : Int)), D.arr IntKind.u8 (64 : Nat) st0.l])) p).n : Int)),
                                               D.arr IntKind.u8 (64 : Nat) (wrS (ofS (D.st [D.arr IntKind.u32 (8 : Nat) st0.h.l, D.val (Value.int IntKind.u64 (↑st0.n : Int)), D.arr IntKind.u8 (64 : Nat) st0.l])) p).l]] =
                                            [D.st [D.arr IntKind.u32 (8 : Nat) s.h.l, D.val (Value.int IntKind.u64 (↑s.n : Int)), D.arr IntKind.u8 (64 : Nat) s.l]] ∧
                                           okS s) ∧
                                         True ∧
                                          isBytes p ∧
                                           (∃ (p_1 : List Int), [D.str p] = [D.str p_1] ∧ isBytes p_1 ∧ p_1.length ≤ (1000000000000000 : Nat)) ∧
                                            (IntKind.u8 = IntKind.u8 ∧ IntKind.u8 = IntKind.u8 ∧ (32 : Nat) = (32 : Nat) ∧ (32 : Nat) = (32 : Nat) ∧ (1 : Nat) = (1 : Nat)) ∧
                                             True ∧
                                              True ∧
                                               (false = false ∧ True) ∧
                                                D.val
                                                  (Value.bool
                                                   (eqB
                                                    (sumL
                                                     (ofS
                                                      (D.st
                                                       [D.arr IntKind.u32 (8 : Nat) (wrS (ofS (D.st [D.arr IntKind.u32 (8 : Nat) st0.h.l, D.val (Value.int IntKind.u64 (↑st0.n : Int)), D.arr IntKind.u8 (64 : Nat) st0.l])) p).h.l,
                                                        D.val (Value.int IntKind.u64 (↑(wrS (ofS (D.st [D.arr IntKind.u32 (8 : Nat) st0.h.l, D.val (Value.int IntKind.u64 (↑st0.n : Int)), D.arr IntKind.u8 (64 : Nat) st0.l])) p).n : Int)),
                                                        D.arr IntKind.u8 (64 : Nat) (wrS (ofS (D.st [D.arr IntKind.u32 (8 : Nat) st0.h.l, D.val (Value.int IntKind.u64 (↑st0.n : Int)), D.arr IntKind.u8 (64 : Nat) st0.l])) p).l])))
                                                    (digL p))) =
                                                 F
                                      | false => True ∧ True ∧ (false = false ∧ True) ∧ D.val (Value.bool false) = F
                        | false => True ∧ True ∧ True ∧ True ∧ (false = false ∧ True) ∧ D.val (Value.bool false) = F
               | false => True ∧ True ∧ True ∧ True ∧ True ∧ True ∧ (false = false ∧ True) ∧ D.val (Value.bool false) = F) := by kernel_rfl
set_option maxRecDepth 100000 in
theorem vc4  (l : List Int) (n : Nat) (p : List Int) (F : D)  :
    (owed c4 (fun _ => none) Tryd.f4 [d32 l, u64 (n : Int), .ints .u8 p] F) = (
 (True ∧ false = false) ∧
   True ∧
    ((32 : Nat) ≠ (0 : Nat) ∧ (32 : Nat) = (32 : Nat) ∧ true = true) ∧
     True ∧
      (∃ (l_1 : List Int), ∃ (n_1 : Nat), [D.arr IntKind.u8 (32 : Nat) l, D.val (Value.int IntKind.u64 (↑n : Int))] = [D.arr IntKind.u8 (32 : Nat) l_1, D.val (Value.int IntKind.u64 (↑n_1 : Int))] ∧ (isBytes l_1 ∧ l_1.length = (32 : Nat)) ∧ n_1 < (18446744073709551616 : Nat)) ∧
       True ∧
        ((0 : Nat) < (2 : Nat) ∧ false = false) ∧
         ((1 : Nat) < (2 : Nat) ∧ false = false) ∧
          (True ∧ (73 : Nat) ≠ (0 : Nat)) ∧
           (Sk.st [Sk.arr (8 : Nat), Sk.one, Sk.arr (64 : Nat)] = Sk.st [Sk.arr (8 : Nat), Sk.one, Sk.arr (64 : Nat)] ∧ (73 : Nat) ≠ (0 : Nat) ∧ (73 : Nat) = (73 : Nat) ∧ false = false) ∧
            True ∧
             True ∧
              (64 : Int) ≠ (0 : Int) ∧
               True ∧
                match (↑n : Int).tmod (64 : Int) != (0 : Int) with
                | true =>
                 True ∧
                  True ∧
                   True ∧
                    match rsE (↑n : Int).toNat == (1 : Int) with
                    | true =>
                     ((73 : Nat) ≠ (0 : Nat) ∧ (73 : Nat) = (73 : Nat) ∧ true = true) ∧
                      True ∧
                       (∃ (s : HS),
                         ∃ (p_1 : List Int),
                          [D.st [D.arr IntKind.u32 (8 : Nat) (rsS l (↑n : Int).toNat).h.l, D.val (Value.int IntKind.u64 (↑(rsS l (↑n : Int).toNat).n : Int)), D.arr IntKind.u8 (64 : Nat) (rsS l (↑n : Int).toNat).l], D.ints IntKind.u8 p] =
                            [D.st [D.arr IntKind.u32 (8 : Nat) s.h.l, D.val (Value.int IntKind.u64 (↑s.n : Int)), D.arr IntKind.u8 (64 : Nat) s.l], D.ints IntKind.u8 p_1] ∧
                           okS s ∧ isBytes p_1 ∧ p_1.length ≤ (1000000000000000 : Nat)) ∧
                        (∃ (s : HS),
                          [D.st
                              [D.arr IntKind.u32 (8 : Nat) (wrS (ofS (D.st [D.arr IntKind.u32 (8 : Nat) (rsS l (↑n : Int).toNat).h.l, D.val (Value.int IntKind.u64 (↑(rsS l (↑n : Int).toNat).n : Int)), D.arr IntKind.u8 (64 : Nat) (rsS l (↑n : Int).toNat).l])) p).h.l,
                               D.val (Value.int IntKind.u64 (↑(wrS (ofS (D.st [D.arr IntKind.u32 (8 : Nat) (rsS l (↑n : Int).toNat).h.l, D.val (Value.int IntKind.u64 (↑(rsS l (↑n : Int).toNat).n : Int)), D.arr IntKind.u8 (64 : Nat) (rsS l (↑n : Int).toNat).l])) p).n : Int)),
                               D.arr IntKind.u8 (64 : Nat) (wrS (ofS (D.st [D.arr IntKind.u32 (8 : Nat) (rsS l (↑n : Int).toNat).h.l, D.val (Value.int IntKind.u64 (↑(rsS l (↑n : Int).toNat).n : Int)), D.arr IntKind.u8 (64 : Nat) (rsS l (↑n : Int).toNat).l])) p).l]] =
                            [D.st [D.arr IntKind.u32 (8 : Nat) s.h.l, D.val (Value.int IntKind.u64 (↑s.n : Int)), D.arr IntKind.u8 (64 : Nat) s.l]] ∧
                           okS s) ∧
                         True ∧
                          isBytes p ∧
                           (∃ (p_1 : List Int), [D.str p] = [D.str p_1] ∧ isBytes p_1 ∧ p_1.length ≤ (1000000000000000 : Nat)) ∧
                            (IntKind.u8 = IntKind.u8 ∧ IntKind.u8 = IntKind.u8 ∧ (32 : Nat) = (32 : Nat) ∧ (32 : Nat) = (32 : Nat) ∧ (1 : Nat) = (1 : Nat)) ∧
                             True ∧
                              True ∧
                               (false = false ∧ True) ∧
                                D.val
                                  (Value.bool
                                   (eqB
                                    (sumL
                                     (ofS
                                      (D.st
                                       [D.arr IntKind.u32 (8 : Nat) (wrS (ofS (D.st [D.arr IntKind.u32 (8 : Nat) (rsS l (↑n : Int).toNat).h.l, D.val (Value.int IntKind.u64 (↑(rsS l (↑n : Int).toNat).n : Int)), D.arr IntKind.u8 (64 : Nat) (rsS l (↑n : Int).toNat).l])) p).h.l,
                                        D.val (Value.int IntKind.u64 (↑(wrS (ofS (D.st [D.arr IntKind.u32 (8 : Nat) (rsS l (↑n : Int).toNat).h.l, D.val (Value.int IntKind.u64 (↑(rsS l (↑n : Int).toNat).n : Int)), D.arr IntKind.u8 (64 : Nat) (rsS l (↑n : Int).toNat).l])) p).n : Int)),
                                        D.arr IntKind.u8 (64 : Nat) (wrS (ofS (D.st [D.arr IntKind.u32 (8 : Nat) (rsS l (↑n : Int).toNat).h.l, D.val (Value.int IntKind.u64 (↑(rsS l (↑n : Int).toNat).n : Int)), D.arr IntKind.u8 (64 : Nat) (rsS l (↑n : Int).toNat).l])) p).l])))
                                    (digL p))) =
                                 F
                    | false => True ∧ True ∧ (false = false ∧ True) ∧ D.val (Value.bool false) = F
                | false =>
                 True ∧
                  True ∧
                   True ∧
                    match rsE (↑n : Int).toNat == (0 : Int) with
                    | true =>
                     ((73 : Nat) ≠ (0 : Nat) ∧ (73 : Nat) = (73 : Nat) ∧ true = true) ∧
                      True ∧
                       (∃ (s : HS),
                         ∃ (p_1 : List Int),
                          [D.st [D.arr IntKind.u32 (8 : Nat) (rsS l (↑n : Int).toNat).h.l, D.val (Value.int IntKind.u64 (↑(rsS l (↑n : Int).toNat).n : Int)), D.arr IntKind.u8 (64 : Nat) (rsS l (↑n : Int).toNat).l], D.ints IntKind.u8 p] =
                            [D.st [D.arr IntKind.u32 (8 : Nat) s.h.l, D.val (Value.int IntKind.u64 (↑s.n : Int)), D.arr IntKind.u8 (64 : Nat) s.l], D.ints IntKind.u8 p_1] ∧
                           okS s ∧ isBytes p_1 ∧ p_1.length ≤ (1000000000000000 : Nat)) ∧
                        (∃ (s : HS),
                          [D.st
                              [D.arr IntKind.u32 (8 : Nat) (wrS (ofS (D.st [D.arr IntKind.u32 (8 : Nat) (rsS l (↑n : Int).toNat).h.l, D.val (Value.int IntKind.u64 (↑(rsS l (↑n : Int).toNat).n : Int)), D.arr IntKind.u8 (64 : Nat) (rsS l (↑n : Int).toNat).l])) p).h.l,
                               D.val (Value.int IntKind.u64 (↑(wrS (ofS (D.st [D.arr IntKind.u32 (8 : Nat) (rsS l (↑n : Int).toNat).h.l, D.val (Value.int IntKind.u64 (↑(rsS l (↑n : Int).toNat).n : Int)), D.arr IntKind.u8 (64 : Nat) (rsS l (↑n : Int).toNat).l])) p).n : Int)),
                               D.arr IntKind.u8 (64 : Nat) (wrS (ofS (D.st [D.arr IntKind.u32 (8 : Nat) (rsS l (↑n : Int).toNat).h.l, D.val (Value.int IntKind.u64 (↑(rsS l (↑n : Int).toNat).n : Int)), D.arr IntKind.u8 (64 : Nat) (rsS l (↑n : Int).toNat).l])) p).l]] =
                            [D.st [D.arr IntKind.u32 (8 : Nat) s.h.l, D.val (Value.int IntKind.u64 (↑s.n : Int)), D.arr IntKind.u8 (64 : Nat) s.l]] ∧
                           okS s) ∧
                         ((32 : Nat) ≠ (0 : Nat) ∧ (32 : Nat) = (32 : Nat) ∧ true = true) ∧
                          (∃ (l_1 : List Int), [D.arr IntKind.u8 (32 : Nat) l] = [D.arr IntKind.u8 (32 : Nat) l_1] ∧ isBytes l_1 ∧ l_1.length = (32 : Nat)) ∧
                           True ∧
                            True ∧
                             isBytes p ∧
                              (∃ (x : R8), ∃ (n_1 : Nat), ∃ (p_1 : List Int), [D.ints IntKind.u32 (woL l).l, D.val (Value.int IntKind.u64 (↑n : Int)), D.str p] = [D.ints IntKind.u32 x.l, D.val (Value.int IntKind.u64 (↑n_1 : Int)), D.str p_1] ∧ isBytes p_1 ∧ p_1.length ≤ (1000000000000000 : Nat) ∧ n_1 % (64 : Nat) = (0 : Nat) ∧ n_1 < (18446744073709551616 : Nat)) ∧
                               (IntKind.u8 = IntKind.u8 ∧ IntKind.u8 = IntKind.u8 ∧ (32 : Nat) = (32 : Nat) ∧ (32 : Nat) = (32 : Nat) ∧ (1 : Nat) = (1 : Nat)) ∧
                                True ∧
                                 True ∧
                                  (false = false ∧ True) ∧
                                   D.val
                                     (Value.bool
                                      (eqB
                                       (sumL
                                        (ofS
                                         (D.st
                                          [D.arr IntKind.u32 (8 : Nat) (wrS (ofS (D.st [D.arr IntKind.u32 (8 : Nat) (rsS l (↑n : Int).toNat).h.l, D.val (Value.int IntKind.u64 (↑(rsS l (↑n : Int).toNat).n : Int)), D.arr IntKind.u8 (64 : Nat) (rsS l (↑n : Int).toNat).l])) p).h.l,
                                           D.val (Value.int IntKind.u64 (↑(wrS (ofS (D.st [D.arr IntKind.u32 (8 : Nat) (rsS l (↑n : Int).toNat).h.l, D.val (Value.int IntKind.u64 (↑(rsS l (↑n : Int).toNat).n : Int)), D.arr IntKind.u8 (64 : Nat) (rsS l (↑n : Int).toNat).l])) p).n : Int)),
                                           D.arr IntKind.u8 (64 : Nat) (wrS (ofS (D.st [D.arr IntKind.u32 (8 : Nat) (rsS l (↑n : Int).toNat).h.l, D.val (Value.int IntKind.u64 (↑(rsS l (↑n : Int).toNat).n : Int)), D.arr IntKind.u8 (64 : Nat) (rsS l (↑n : Int).toNat).l])) p).l])))
                                       (fromL (ofR (woL l).l) (↑n : Int).toNat p))) =
                                    F
                    | false => True ∧ True ∧ (false = false ∧ True) ∧ D.val (Value.bool false) = F) := by kernel_rfl

end Go.Proofs.YtcdjhhepgkcabaaDoor
