import Derived.Test.YtcdjhhepgkcabaaQ9
/- QuotTells, part 10: the law. -/
namespace Go.Proofs.Ytcdjhhepgkcabaa
open Go Go.Vg

def c10 : Ctx := ⟨tab, lkS [(19, sp19), (25, sp25), (26, sp26), (52, sp52), (53, sp53), (54, sp54), (55, sp55), (56, sp56), (57, sp57)], [], []⟩
--KEEP Nat.gcd Go.Vg.eqB Go.Vg.vB Go.Vg.nB Go.Vg.okd Go.Vg.okw Go.Vg.dg Go.Vg.dig Go.Vg.trimL okb lenOk lenS len1 sbd sbb dif bor cmpN shf i64ok subL dvq dvr dve sbD
set_option maxRecDepth 100000 in
theorem vc10  (a m b : List Int) (F : D)  :
    (owed c10 (fun _ => none) Try.f10 [num8 a, num4 m, num4 b] F) = (
 (True ∧ false = false) ∧
   (True ∧ false = false) ∧
    (True ∧ false = false) ∧
     True ∧
      ((8 : Nat) ≠ (0 : Nat) ∧ (8 : Nat) = (8 : Nat) ∧ true = true) ∧
       ((4 : Nat) ≠ (0 : Nat) ∧ (4 : Nat) = (4 : Nat) ∧ true = true) ∧
        (∃ (a_1 : List Int), ∃ (m_1 : List Int), [D.arr IntKind.u64 (8 : Nat) a, D.arr IntKind.u64 (4 : Nat) m] = [D.arr IntKind.u64 (8 : Nat) a_1, D.arr IntKind.u64 (4 : Nat) m_1] ∧ (okw a_1 ∧ a_1.length = (8 : Nat)) ∧ okw m_1 ∧ m_1.length = (4 : Nat)) ∧
         True ∧
          ((0 : Nat) < (3 : Nat) ∧ false = false) ∧
           ((1 : Nat) < (3 : Nat) ∧ false = false) ∧
            ((2 : Nat) < (3 : Nat) ∧ false = false) ∧
             (True ∧ (8 : Nat) ≠ (0 : Nat)) ∧
              (True ∧ (4 : Nat) ≠ (0 : Nat)) ∧
               (Sk.arr (8 : Nat) = Sk.arr (8 : Nat) ∧ (8 : Nat) ≠ (0 : Nat) ∧ (8 : Nat) = (8 : Nat) ∧ false = false) ∧
                (Sk.arr (4 : Nat) = Sk.arr (4 : Nat) ∧ (4 : Nat) ≠ (0 : Nat) ∧ (4 : Nat) = (4 : Nat) ∧ false = false) ∧
                 True ∧
                  ((8 : Nat) ≠ (0 : Nat) ∧ (8 : Nat) = (8 : Nat) ∧ true = true) ∧
                   ((4 : Nat) ≠ (0 : Nat) ∧ (4 : Nat) = (4 : Nat) ∧ true = true) ∧
                    (∃ (a_1 : List Int), ∃ (m_1 : List Int), [D.arr IntKind.u64 (8 : Nat) a, D.arr IntKind.u64 (4 : Nat) m] = [D.arr IntKind.u64 (8 : Nat) a_1, D.arr IntKind.u64 (4 : Nat) m_1] ∧ (okw a_1 ∧ a_1.length = (8 : Nat)) ∧ okw m_1 ∧ m_1.length = (4 : Nat)) ∧
                     True ∧
                      ((0 : Nat) < (2 : Nat) ∧ false = false) ∧
                       ((1 : Nat) < (2 : Nat) ∧ false = false) ∧
                        (True ∧ (4 : Nat) ≠ (0 : Nat)) ∧
                         (Sk.arr (4 : Nat) = Sk.arr (4 : Nat) ∧ (4 : Nat) ≠ (0 : Nat) ∧ (4 : Nat) = (4 : Nat) ∧ false = false) ∧
                          True ∧
                           ((4 : Nat) ≠ (0 : Nat) ∧ (4 : Nat) = (4 : Nat) ∧ true = true) ∧
                            ((1 : Nat) = (1 : Nat) ∧ True) ∧
                             (IntKind.u64 = IntKind.u64 ∧ IntKind.u64 = IntKind.u64 ∧ (4 : Nat) = (4 : Nat) ∧ (4 : Nat) = (4 : Nat) ∧ (1 : Nat) = (1 : Nat)) ∧
                              match eqB m [(0 : Int), (0 : Int), (0 : Int), (0 : Int)] with
                              | true =>
                               ((8 : Nat) ≠ (0 : Nat) ∧ (8 : Nat) = (8 : Nat) ∧ true = true) ∧
                                ((1 : Nat) = (1 : Nat) ∧ True) ∧
                                 (IntKind.u64 = IntKind.u64 ∧ IntKind.u64 = IntKind.u64 ∧ (8 : Nat) = (8 : Nat) ∧ (8 : Nat) = (8 : Nat) ∧ (1 : Nat) = (1 : Nat)) ∧
                                  True ∧
                                   match eqB (nB (18446744073709551616 : Nat) (8 : Nat) (dvq (vB (18446744073709551616 : Nat) a) (vB (18446744073709551616 : Nat) m))) [(0 : Int), (0 : Int), (0 : Int), (0 : Int), (0 : Int), (0 : Int), (0 : Int), (0 : Int)] with
                                   | true =>
                                    ((4 : Nat) ≠ (0 : Nat) ∧ (4 : Nat) = (4 : Nat) ∧ true = true) ∧
                                     ((4 : Nat) ≠ (0 : Nat) ∧ (4 : Nat) = (4 : Nat) ∧ true = true) ∧
                                      (IntKind.u64 = IntKind.u64 ∧ IntKind.u64 = IntKind.u64 ∧ (4 : Nat) = (4 : Nat) ∧ (4 : Nat) = (4 : Nat) ∧ (1 : Nat) = (1 : Nat)) ∧
                                       True ∧
                                        True ∧
                                         match eqB (nB (18446744073709551616 : Nat) (4 : Nat) (dvr (vB (18446744073709551616 : Nat) a) (vB (18446744073709551616 : Nat) m))) m with
                                         | true =>
                                          True ∧
                                           True ∧
                                            True ∧
                                             True ∧
                                              match (↑(dve (vB (18446744073709551616 : Nat) m)) : Int) == (1 : Int) with
                                              | true =>
                                               ((4 : Nat) ≠ (0 : Nat) ∧ (4 : Nat) = (4 : Nat) ∧ true = true) ∧
                                                ((4 : Nat) ≠ (0 : Nat) ∧ (4 : Nat) = (4 : Nat) ∧ true = true) ∧
                                                 (IntKind.u64 = IntKind.u64 ∧ IntKind.u64 = IntKind.u64 ∧ (4 : Nat) = (4 : Nat) ∧ (4 : Nat) = (4 : Nat) ∧ (1 : Nat) = (1 : Nat)) ∧
                                                  True ∧
                                                   True ∧
                                                    match eqB (nB (18446744073709551616 : Nat) (4 : Nat) (dvr (vB (18446744073709551616 : Nat) a) (vB (18446744073709551616 : Nat) m))) m with
                                                    | true =>
                                                     True ∧
                                                      True ∧
                                                       True ∧
                                                        True ∧
                                                         match (↑(dve (vB (18446744073709551616 : Nat) m)) : Int) == (1 : Int) with
                                                         | true =>
                                                          ((4 : Nat) ≠ (0 : Nat) ∧ (4 : Nat) = (4 : Nat) ∧ true = true) ∧
                                                           ((4 : Nat) ≠ (0 : Nat) ∧ (4 : Nat) = (4 : Nat) ∧ true = true) ∧
                                                            (∃ (l : List Int), ∃ (m_1 : List Int), [D.arr IntKind.u64 (4 : Nat) m, D.arr IntKind.u64 (4 : Nat) b] = [D.arr IntKind.u64 (4 : Nat) l, D.arr IntKind.u64 (4 : Nat) m_1] ∧ (okw l ∧ l.length = (4 : Nat)) ∧ okw m_1 ∧ m_1.length = (4 : Nat)) ∧
                                                             ((4 : Nat) ≠ (0 : Nat) ∧ (4 : Nat) = (4 : Nat) ∧ true = true) ∧
                                                              (IntKind.u64 = IntKind.u64 ∧ IntKind.u64 = IntKind.u64 ∧ (4 : Nat) = (4 : Nat) ∧ (4 : Nat) = (4 : Nat) ∧ (1 : Nat) = (1 : Nat)) ∧
                                                               True ∧ True ∧ (false = false ∧ True) ∧ D.val (Value.bool (eqB (nB (18446744073709551616 : Nat) (4 : Nat) ((vB (18446744073709551616 : Nat) m).gcd (vB (18446744073709551616 : Nat) b))) b)) = F
                                                         | false => True ∧ True ∧ (false = false ∧ True) ∧ D.val (Value.bool false) = F
                                                    | false => True ∧ True ∧ True ∧ True ∧ (false = false ∧ True) ∧ D.val (Value.bool false) = F
                                              | false => True ∧ True ∧ True ∧ True ∧ True ∧ True ∧ (false = false ∧ True) ∧ D.val (Value.bool false) = F
                                         | false => True ∧ True ∧ True ∧ True ∧ True ∧ True ∧ True ∧ True ∧ (false = false ∧ True) ∧ D.val (Value.bool false) = F
                                   | false => True ∧ True ∧ True ∧ True ∧ True ∧ True ∧ True ∧ True ∧ True ∧ True ∧ (false = false ∧ True) ∧ D.val (Value.bool false) = F
                              | false =>
                               ((8 : Nat) ≠ (0 : Nat) ∧ (8 : Nat) = (8 : Nat) ∧ true = true) ∧
                                (∃ (a_1 : List Int), [D.arr IntKind.u64 (8 : Nat) a] = [D.arr IntKind.u64 (8 : Nat) a_1] ∧ okw a_1 ∧ a_1.length = (8 : Nat)) ∧
                                 ((4 : Nat) ≠ (0 : Nat) ∧ (4 : Nat) = (4 : Nat) ∧ true = true) ∧
                                  (∃ (l : List Int), [D.arr IntKind.u64 (4 : Nat) m] = [D.arr IntKind.u64 (4 : Nat) l] ∧ okw l ∧ l.length = (4 : Nat)) ∧
                                   (∃ (l : List Int), ∃ (m_1 : List Int), [D.ints IntKind.i64 (dg (vB (18446744073709551616 : Nat) a)), D.ints IntKind.i64 (dg (vB (18446744073709551616 : Nat) m))] = [D.ints IntKind.i64 l, D.ints IntKind.i64 m_1] ∧ (okd l ∧ len1 l) ∧ (okd m_1 ∧ len1 m_1) ∧ vB (65536 : Nat) m_1 ≠ (0 : Nat)) ∧
                                    True ∧
                                     ((0 : Nat) < (2 : Nat) ∧ false = false) ∧
                                      ((1 : Nat) < (2 : Nat) ∧ false = false) ∧
                                       True ∧
                                        True ∧
                                         ((8 : Nat) ≠ (0 : Nat) ∧ (8 : Nat) = (8 : Nat) ∧ true = true) ∧
                                          True ∧
                                           (∃ (l : List Int), [D.ints IntKind.i64 (dg (vB (65536 : Nat) (dg (vB (18446744073709551616 : Nat) a)) / vB (65536 : Nat) (dg (vB (18446744073709551616 : Nat) m))))] = [D.ints IntKind.i64 l] ∧ okd l ∧ lenOk l) ∧
                                            (IntKind.u64 = IntKind.u64 ∧ IntKind.u64 = IntKind.u64 ∧ (8 : Nat) = (8 : Nat) ∧ (8 : Nat) = (8 : Nat) ∧ (1 : Nat) = (1 : Nat)) ∧
                                             True ∧
                                              match
                                               eqB (nB (18446744073709551616 : Nat) (8 : Nat) (dvq (vB (18446744073709551616 : Nat) a) (vB (18446744073709551616 : Nat) m)))
                                                (nB (18446744073709551616 : Nat) (8 : Nat) (vB (65536 : Nat) (dg (vB (65536 : Nat) (dg (vB (18446744073709551616 : Nat) a)) / vB (65536 : Nat) (dg (vB (18446744073709551616 : Nat) m)))))) with
                                              | true =>
                                               ((4 : Nat) ≠ (0 : Nat) ∧ (4 : Nat) = (4 : Nat) ∧ true = true) ∧
                                                True ∧
                                                 (∃ (l : List Int), [D.ints IntKind.i64 (dg (vB (65536 : Nat) (dg (vB (18446744073709551616 : Nat) a)) % vB (65536 : Nat) (dg (vB (18446744073709551616 : Nat) m))))] = [D.ints IntKind.i64 l] ∧ okd l ∧ lenOk l) ∧
                                                  (IntKind.u64 = IntKind.u64 ∧ IntKind.u64 = IntKind.u64 ∧ (4 : Nat) = (4 : Nat) ∧ (4 : Nat) = (4 : Nat) ∧ (1 : Nat) = (1 : Nat)) ∧
                                                   True ∧
                                                    True ∧
                                                     match
                                                      eqB (nB (18446744073709551616 : Nat) (4 : Nat) (dvr (vB (18446744073709551616 : Nat) a) (vB (18446744073709551616 : Nat) m)))
                                                       (nB (18446744073709551616 : Nat) (4 : Nat) (vB (65536 : Nat) (dg (vB (65536 : Nat) (dg (vB (18446744073709551616 : Nat) a)) % vB (65536 : Nat) (dg (vB (18446744073709551616 : Nat) m)))))) with
                                                     | true =>
                                                      True ∧
                                                       True ∧
                                                        True ∧
                                                         True ∧
                                                          match (↑(dve (vB (18446744073709551616 : Nat) m)) : Int) == (0 : Int) with
                                                          | true =>
                                                           ((4 : Nat) ≠ (0 : Nat) ∧ (4 : Nat) = (4 : Nat) ∧ true = true) ∧
                                                            ((4 : Nat) ≠ (0 : Nat) ∧ (4 : Nat) = (4 : Nat) ∧ true = true) ∧
                                                             (IntKind.u64 = IntKind.u64 ∧ IntKind.u64 = IntKind.u64 ∧ (4 : Nat) = (4 : Nat) ∧ (4 : Nat) = (4 : Nat) ∧ (1 : Nat) = (1 : Nat)) ∧
                                                              True ∧
                                                               True ∧
                                                                match eqB (nB (18446744073709551616 : Nat) (4 : Nat) (dvr (vB (18446744073709551616 : Nat) a) (vB (18446744073709551616 : Nat) m))) (nB (18446744073709551616 : Nat) (4 : Nat) (dvr (vB (18446744073709551616 : Nat) a) (vB (18446744073709551616 : Nat) m))) with
                                                                | true =>
                                                                 True ∧
                                                                  True ∧
                                                                   True ∧
                                                                    True ∧
                                                                     match (↑(dve (vB (18446744073709551616 : Nat) m)) : Int) == (0 : Int) with
                                                                     | true =>
                                                                      ((4 : Nat) ≠ (0 : Nat) ∧ (4 : Nat) = (4 : Nat) ∧ true = true) ∧
                                                                       ((4 : Nat) ≠ (0 : Nat) ∧ (4 : Nat) = (4 : Nat) ∧ true = true) ∧
                                                                        (∃ (l : List Int), ∃ (m_1 : List Int), [D.arr IntKind.u64 (4 : Nat) m, D.arr IntKind.u64 (4 : Nat) b] = [D.arr IntKind.u64 (4 : Nat) l, D.arr IntKind.u64 (4 : Nat) m_1] ∧ (okw l ∧ l.length = (4 : Nat)) ∧ okw m_1 ∧ m_1.length = (4 : Nat)) ∧
                                                                         ((4 : Nat) ≠ (0 : Nat) ∧ (4 : Nat) = (4 : Nat) ∧ true = true) ∧
                                                                          (∃ (l : List Int), [D.arr IntKind.u64 (4 : Nat) m] = [D.arr IntKind.u64 (4 : Nat) l] ∧ okw l ∧ l.length = (4 : Nat)) ∧
                                                                           ((4 : Nat) ≠ (0 : Nat) ∧ (4 : Nat) = (4 : Nat) ∧ true = true) ∧
                                                                            (∃ (l : List Int), [D.arr IntKind.u64 (4 : Nat) b] = [D.arr IntKind.u64 (4 : Nat) l] ∧ okw l ∧ l.length = (4 : Nat)) ∧
                                                                             (∃ (x : Nat), ∃ (y : Nat), [D.ints IntKind.i64 (dg (vB (18446744073709551616 : Nat) m)), D.ints IntKind.i64 (dg (vB (18446744073709551616 : Nat) b))] = [D.ints IntKind.i64 (dg x), D.ints IntKind.i64 (dg y)] ∧ len1 (dg x) ∧ len1 (dg y)) ∧
                                                                              (∃ (l : List Int), [D.ints IntKind.i64 (dg ((vB (65536 : Nat) (dg (vB (18446744073709551616 : Nat) m))).gcd (vB (65536 : Nat) (dg (vB (18446744073709551616 : Nat) b)))))] = [D.ints IntKind.i64 l] ∧ okd l ∧ lenOk l) ∧
                                                                               (IntKind.u64 = IntKind.u64 ∧ IntKind.u64 = IntKind.u64 ∧ (4 : Nat) = (4 : Nat) ∧ (4 : Nat) = (4 : Nat) ∧ (1 : Nat) = (1 : Nat)) ∧
                                                                                True ∧
                                                                                 True ∧
                                                                                  (false = false ∧ True) ∧
                                                                                   D.val
                                                                                     (Value.bool
                                                                                      (eqB (nB (18446744073709551616 : Nat) (4 : Nat) ((vB (18446744073709551616 : Nat) m).gcd (vB (18446744073709551616 : Nat) b)))
                                                                                       (nB (18446744073709551616 : Nat) (4 : Nat) (vB (65536 : Nat) (dg ((vB (65536 : Nat) (dg (vB (18446744073709551616 : Nat) m))).gcd (vB (65536 : Nat) (dg (vB (18446744073709551616 : Nat) b))))))))) =
                                                                                    F
                                                                     | false => True ∧ True ∧ (false = false ∧ True) ∧ D.val (Value.bool false) = F
                                                                | false => True ∧ True ∧ True ∧ True ∧ (false = false ∧ True) ∧ D.val (Value.bool false) = F
                                                          | false => True ∧ True ∧ True ∧ True ∧ True ∧ True ∧ (false = false ∧ True) ∧ D.val (Value.bool false) = F
                                                     | false => True ∧ True ∧ True ∧ True ∧ True ∧ True ∧ True ∧ True ∧ (false = false ∧ True) ∧ D.val (Value.bool false) = F
                                              | false => True ∧ True ∧ True ∧ True ∧ True ∧ True ∧ True ∧ True ∧ True ∧ True ∧ (false = false ∧ True) ∧ D.val (Value.bool false) = F) := by kernel_rfl
set_option maxRecDepth 100000 in
theorem ok48  (d : D)  :
    (OkT tab 8 48 d) = (
 ∃ (l : List Int), d = D.arr IntKind.u64 (8 : Nat) l ∧ l.length = (8 : Nat) ∧ ∀ (z : Int), z ∈ l → (0 : Int) ≤ z ∧ z ≤ IntKind.u64.max) := by kernel_rfl

theorem wide_of {d : D} (h : OkT tab 8 48 d) : ∃ l, d = num8 l ∧ okw l ∧ l.length = 8 := by
  rw [ok48] at h
  obtain ⟨l, rfl, h1, h2⟩ := h
  exact ⟨l, rfl, fun x hx => ⟨(h2 x hx).1, Int.lt_of_le_of_lt (h2 x hx).2 (by decide)⟩, h1⟩

theorem len_b {n k : Nat} (h : n < 65536 ^ k) (hk : k ≤ 1000) : len1 (dg n) ∧ lenOk (dg n) := by
  have := dg_len k n h
  exact ⟨by unfold len1; omega, by unfold lenOk; omega⟩

set_option maxRecDepth 100000 in
theorem m10 : Meets Try.prog 10 (lawSpec tab Try.f10.params.toList) := by
  refine meets_of_owed (C := c10) ⟨tab_ok, lkS_ok ⟨m19, m25, m26, m52, m53, m54, m55, m56, m57, trivial⟩⟩ (by kernel_rfl) (by kernel_rfl : Try.prog.funcs[10]? = some Try.f10) (by kernel_rfl) (by kernel_rfl) (by kernel_rfl) _ ?_
  intro ds hds
  obtain ⟨a, m, b, rfl, ha, ha8, hm, hm4, hb, hb4⟩ : ∃ a m b, ds = [num8 a, num4 m, num4 b] ∧ okw a ∧ a.length = 8 ∧ okw m ∧ m.length = 4 ∧ okw b ∧ b.length = 4 := by
    match ds, hds with
    | [d, e, f], h =>
      obtain ⟨a, rfl, h1, h2⟩ := wide_of h.1
      obtain ⟨m, rfl, h3, h4⟩ := num_of h.2.1
      obtain ⟨b, rfl, h5, h6⟩ := num_of h.2.2.1
      exact ⟨a, m, b, rfl, h1, h2, h3, h4, h5, h6⟩
  refine ⟨fun _ => rfl, fun _ => none, ?_⟩
  show owed c10 (fun _ => none) Try.f10 [num8 a, num4 m, num4 b] (bl true)
  rw [vc10]
  have eqs : ∀ a : List Int, eqB a a = true := fun a => eqB_iff.mpr rfl
  have p1 : ∃ (a_1 m_1 : List Int), [num8 a, num4 m] = [num8 a_1, num4 m_1] ∧ (okw a_1 ∧ a_1.length = 8) ∧ okw m_1 ∧ m_1.length = 4 := ⟨a, m, rfl, ⟨ha, ha8⟩, hm, hm4⟩
  have p2 : ∃ (l m_1 : List Int), [num4 m, num4 b] = [num4 l, num4 m_1] ∧ (okw l ∧ l.length = 4) ∧ okw m_1 ∧ m_1.length = 4 := ⟨m, b, rfl, ⟨hm, hm4⟩, hb, hb4⟩
  rw [wv_zero hm hm4]
  simp (decide := true) only [eq_self, true_and, and_true, ne_eq, not_false_eq_true, vl_dg]
  refine ⟨p1, p1, ?_⟩
  split
  · rename_i h
    have h : vB 18446744073709551616 m = 0 := of_decide_eq_true h
    have q1 : nB 18446744073709551616 8 (dvq (vB 18446744073709551616 a) (vB 18446744073709551616 m)) = [0, 0, 0, 0, 0, 0, 0, 0] := by
      rw [dvq, h, Nat.div_zero]
      rfl
    have m0 : m = nB 18446744073709551616 4 0 := by
      have := num4_nB hm hm4
      rw [h] at this
      exact this.symm
    have r1 : nB 18446744073709551616 4 (dvr (vB 18446744073709551616 a) (vB 18446744073709551616 m)) = m := by
      rw [dvr, if_pos h]
      exact m0.symm
    have e1 : dve (vB 18446744073709551616 m) = 1 := if_pos h
    have g1 : nB 18446744073709551616 4 (Nat.gcd (vB 18446744073709551616 m) (vB 18446744073709551616 b)) = b := by
      rw [h, Nat.gcd_zero_left, num4_nB hb hb4]
    rw [q1, r1, e1, g1]
    simp only [eqs, show (((1 : Nat) : Int) == 1) = true from rfl]
    exact ⟨p2, trivial⟩
  · rename_i h
    have h : ¬ vB 18446744073709551616 m = 0 := of_decide_eq_false h
    have e1 : dve (vB 18446744073709551616 m) = 0 := if_neg h
    have r1 : dvr (vB 18446744073709551616 a) (vB 18446744073709551616 m) = vB 18446744073709551616 a % vB 18446744073709551616 m := if_neg h
    have hA : vB 18446744073709551616 a < 65536 ^ 32 := by
      have := vB_lt (b := 18446744073709551616) ha
      rw [ha8] at this
      exact this
    have hM : vB 18446744073709551616 m < 65536 ^ 16 := by
      have := vB_lt (b := 18446744073709551616) hm
      rw [hm4] at this
      exact this
    have hB : vB 18446744073709551616 b < 65536 ^ 16 := by
      have := vB_lt (b := 18446744073709551616) hb
      rw [hb4] at this
      exact this
    rw [e1, r1]
    unfold dvq
    simp only [eqs, show (((0 : Nat) : Int) == 0) = true from rfl]
    have hQ : vB 18446744073709551616 a / vB 18446744073709551616 m < 65536 ^ 32 := Nat.lt_of_le_of_lt (Nat.div_le_self _ _) hA
    have hR : vB 18446744073709551616 a % vB 18446744073709551616 m < 65536 ^ 32 := Nat.lt_of_le_of_lt (Nat.mod_le _ _) hA
    have hG : Nat.gcd (vB 18446744073709551616 m) (vB 18446744073709551616 b) < 65536 ^ 16 := Nat.lt_of_le_of_lt (Nat.gcd_le_left _ (by omega)) hM
    exact ⟨⟨a, rfl, ha, ha8⟩, ⟨m, rfl, hm, hm4⟩, ⟨_, _, rfl, ⟨dg_ok _, (len_b hA (by decide)).1⟩, ⟨dg_ok _, (len_b hM (by decide)).1⟩, by rw [vl_dg]; exact h⟩, ⟨_, rfl, dg_ok _, (len_b hQ (by decide)).2⟩, ⟨_, rfl, dg_ok _, (len_b hR (by decide)).2⟩, p2,
      ⟨m, rfl, hm, hm4⟩, ⟨b, rfl, hb, hb4⟩, ⟨_, _, rfl, (len_b hM (by decide)).1, (len_b hB (by decide)).1⟩, ⟨_, rfl, dg_ok _, (len_b hG (by decide)).2⟩, trivial⟩

end Go.Proofs.Ytcdjhhepgkcabaa
