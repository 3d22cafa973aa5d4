/- PinPlays: the law is met. -/
import Derived.Test.YtkicjckhkefnpaaDoorZb13
namespace Go.Proofs.YtkicjckhkefnpaaDoor
open Go Go.Vg

theorem tyD_k (x : Ty3) : numOf (fldOf (tyD x) 0) = x.1 := rfl
theorem tyD_o (x : Ty3) : intsOf (fldOf (tyD x) 1) = x.2.1 := rfl
theorem tyD_q (x : Ty3) : intsOf (fldOf (tyD x) 2) = x.2.2 := rfl
theorem try_lf {s m : List Int} {n : Int} (p : List Int) (hn : lfOk n) : lfOk (tryN s m n p) := by
  unfold tryN
  unfold lfOk at hn ⊢
  split
  · omega
  · split <;> omega
theorem step_ok {s m : List Int} {n : Int} (k : Int) (o q : List Int) (hm : isM m) (hn : lfOk n) :
    (k = 2 → chE s m n o q = wnt s k o q m n ∧ chM s m n o q = mk2 s (wnt s k o q m n) k q m ∧ chN s m n o q = lf2 (wnt s k o q m n) k (nxt s k o q m n)) ∧
    (k = 3 → rpE q = wnt s k o q m n ∧ rpM s m q = mk2 s (wnt s k o q m n) k q m ∧ rpN n q = lf2 (wnt s k o q m n) k (nxt s k o q m n)) ∧
    (k ≤ 1 → tryE s m n o = wnt s k o q m n ∧ m = mk2 s (wnt s k o q m n) k q m ∧ tryN s m n o = lf2 (wnt s k o q m n) k (nxt s k o q m n)) ∧
    isM (mk2 s (wnt s k o q m n) k q m) ∧ lfOk (lf2 (wnt s k o q m n) k (nxt s k o q m n)) := by
  refine ⟨?_, ?_, ?_, ?_, ?_⟩
  · rintro rfl
    unfold chE chM chN wnt nxt mk2 lf2
    cases hr : rgt q <;> simp (decide := true)
  · rintro rfl
    unfold rpE rpM rpN wnt nxt mk2 lf2
    cases hr : rgt q <;> simp (decide := true)
  · intro hk
    have h1 : ¬ 1 < k := by omega
    have h3 : k < 3 := by omega
    unfold wnt nxt mk2 lf2
    simp [h1, h3]
  · unfold mk2
    split
    · exact strL_M _ _
    · exact hm
  · unfold lf2
    split
    · unfold lfOk; omega
    · unfold nxt
      split
      · exact hn
      · split
        · exact try_lf _ hn
        · exact hn

set_option maxRecDepth 100000 in
theorem m30 : Meets Tryd.prog 30 sp30 := by
  refine meets_of_owed (C := c0) ⟨tab_ok, fun f s h => by cases h⟩ (by kernel_rfl) (by kernel_rfl : Tryd.prog.funcs[30]? = some Tryd.f30) (by kernel_rfl) (by kernel_rfl) (by kernel_rfl) _ ?_
  rintro _ ⟨l, rfl⟩
  refine ⟨fun _ => rfl, fun _ => none, ?_⟩
  show owed c0 (fun _ => none) Tryd.f30 [.ints .u8 l] (.val (.bool (rgt l)))
  rw [vc30]
  unfold rgt
  split
  · rename_i h
    have h := of_decide_eq_true h
    rw [decide_eq_true (show 4 ≤ l.length by omega), Bool.true_and]
    simp only [true_and]
    congr 2
    by_cases h2 : l.length ≤ 16
    · rw [decide_eq_true h2, decide_eq_true (by omega)]
    · rw [decide_eq_false h2, decide_eq_false (by omega)]
  · rename_i h
    have h := of_decide_eq_false h
    rw [decide_eq_false (show ¬ 4 ≤ l.length by omega), Bool.false_and]
    simp only [true_and]

def okTy (L : List Ty3) : Prop := ∀ x ∈ L, isP x.2.1 ∧ isP x.2.2
def pre6 (ds : List D) : Prop := ∃ (s p : List Int) (L : List Ty3), ds = [.ints .u8 s, .ints .u8 p, .slc 3 (L.map tyD)] ∧ isP s ∧ isP p ∧ okTy L ∧ rgt p = true
def pre6b (ds : List D) : Prop := ∃ (s p : List Int) (L : List Ty3), ds = [.ints .u8 s, .ints .u8 p, .slc 3 (L.map tyD)] ∧ isP s ∧ isP p ∧ rgt p = false

set_option maxRecDepth 100000 in
theorem m6b : Meets Tryd.prog 6 ⟨pre6b, (lawSpec tab Tryd.f6.params.toList).f, true, Tryd.f6.params.toList⟩ := by
  refine meets_of_owed (C := c6b) ⟨tab_ok, lkS_ok ⟨m31b, m32, m28, m30, trivial⟩⟩ (by kernel_rfl) (by kernel_rfl : Tryd.prog.funcs[6]? = some Tryd.f6) (by kernel_rfl) (by kernel_rfl) (by kernel_rfl) _ ?_
  rintro _ ⟨s, p, L, rfl, hs, hp, hr⟩
  refine ⟨fun _ => rfl, fun _ => none, ?_⟩
  show owed c6b (fun _ => none) Tryd.f6 [.ints .u8 s, .ints .u8 p, .slc 3 (L.map tyD)] (.val (.bool true))
  rw [vc6b, eqB_refl, hr]
  simp (decide := true) only [Bool.not_true, Bool.not_false, eq_self, true_and, and_true, ne_eq, not_false_eq_true]
  split
  · first | rfl | trivial
  · refine ⟨⟨s, p, rfl, hs, hp, hr⟩, ⟨s, p, rfl, hs, hp⟩, hs.1, hp.1, ⟨s, p, rfl, hs, hp⟩, ⟨p, rfl⟩, ?_⟩
    first | rfl | trivial

set_option maxRecDepth 100000 in
theorem m6a : Meets Tryd.prog 6 ⟨pre6, (lawSpec tab Tryd.f6.params.toList).f, true, Tryd.f6.params.toList⟩ := by
  refine meets_of_owed (C := c6) ⟨tab_ok, lkS_ok ⟨m31, m32, m28, m30, m33, m34, m29, m26, m27, trivial⟩⟩ (by kernel_rfl) (by kernel_rfl : Tryd.prog.funcs[6]? = some Tryd.f6) (by kernel_rfl) (by kernel_rfl) (by kernel_rfl) _ ?_
  rintro _ ⟨s, p, L, rfl, hs, hp, hL, hr⟩
  refine ⟨fun _ => rfl, inv6 s p (L.map tyD), ?_⟩
  show owed c6 (inv6 s p (L.map tyD)) Tryd.f6 [.ints .u8 s, .ints .u8 p, .slc 3 (L.map tyD)] (.val (.bool true))
  rw [vc6, eqB_refl, hr]
  simp (decide := true) only [Bool.not_true, Bool.not_false, eq_self, true_and, and_true, ne_eq, not_false_eq_true, Int.toNat_natCast, true_implies]
  split
  · first | rfl | trivial
  rename_i h30
  have h30 := of_decide_eq_false h30
  rw [List.length_map] at h30
  refine ⟨⟨s, p, rfl, hs, hp, hr⟩, ⟨s, p, rfl, hs, hp⟩, hs.1, hp.1, ⟨s, p, rfl, hs, hp⟩, ⟨p, rfl⟩, hs.1, hp.1, ⟨s, p, rfl, hs, hp⟩, ?_, ?_⟩
  · refine ⟨by and_intros <;> first | rfl | trivial, Nat.zero_le _, strL_M _ _, by unfold lfOk; omega⟩
  rintro ⟨i, m, n⟩ ⟨hi, hm, hn⟩
  simp only at hi hm hn ⊢
  split
  case h_2 => first | rfl | trivial
  rename_i h
  have h := of_decide_eq_true h
  rw [List.length_map] at h hi
  obtain ⟨e, he, e1, e2⟩ := getD_map tyD L (i : Int) (by omega) h (D.val (.bool false))
  rw [Int.toNat_natCast] at e1
  obtain ⟨ho, hq⟩ := hL e he
  obtain ⟨k, o, q⟩ := e
  have hsk := step_ok (s := s) k o q hm hn
  obtain ⟨g2, g3, g1, gm, gn⟩ := hsk
  simp only [e1, tyD_k, tyD_o, tyD_q] at ho hq ⊢
  have hlt : i < L.length := by omega
  refine ⟨⟨by omega, by rw [List.length_map]; omega, rfl⟩, ?_⟩
  have hn2 := hn
  unfold lfOk at hn2
  have fork : k < 3 → (1 < k → rgt q = true) → (match n == 0 with
      | true => 11 = wnt s k o q m n ∧ n = nxt s k o q m n
      | false => isBytes s ∧ isBytes o ∧ (∃ k p, [D.str s, D.str o] = [D.str k, D.str p] ∧ isP k ∧ isP p) ∧
        match !eqB (strL s o) m with
        | true => 10 = wnt s k o q m n ∧ IntKind.i64.wrap (n - 1) = nxt s k o q m n
        | false => 0 = wnt s k o q m n ∧ 3 = nxt s k o q m n) := by
    intro hk3 hk1
    have hno : ¬ (1 < k ∧ rgt q = false) := fun h => by rw [hk1 h.1] at h; cases h.2
    unfold wnt nxt
    rw [if_neg hno, if_neg hno, if_pos hk3, if_pos hk3]
    unfold tryE tryN
    by_cases h0 : n = 0
    · rw [if_pos h0, if_pos h0, show (n == 0) = true from beq_iff_eq.2 h0]
      exact ⟨rfl, h0⟩
    · rw [if_neg h0, if_neg h0, show (n == 0) = false from beq_eq_false_iff_ne.2 h0]
      refine ⟨hs.1, ho.1, ⟨s, o, rfl, hs, ho⟩, ?_⟩
      by_cases hh : strL s o = m
      · rw [if_pos hh, if_pos hh, eqB_iff.2 hh]
        exact ⟨rfl, rfl⟩
      · rw [if_neg hh, if_neg hh, eqB_not.2 hh]
        exact ⟨rfl, wi (by omega) (by omega)⟩
  by_cases hk : 1 < k
  · rw [decide_eq_true (show k > 1 from hk)]
    refine ⟨⟨q, rfl⟩, ?_, ?_⟩
    · cases hrq : rgt q with
      | false =>
        have hyes : 1 < k ∧ rgt q = false := ⟨hk, hrq⟩
        simp only [Bool.not_false]
        unfold wnt nxt
        rw [if_pos hyes, if_pos hyes]
        exact ⟨rfl, rfl⟩
      | true =>
        simp only [Bool.not_true]
        by_cases hk3 : k < 3
        · rw [decide_eq_true hk3]
          exact fork hk3 (fun _ => hrq)
        · rw [decide_eq_false hk3]
          have hno : ¬ (1 < k ∧ rgt q = false) := fun h => by rw [hrq] at h; cases h.2
          unfold wnt nxt
          rw [if_neg hno, if_neg hno, if_neg hk3, if_neg hk3]
          exact ⟨rfl, rfl⟩
    · rintro ⟨w, m1, n1⟩ ⟨c1, c2, c3⟩
      simp only at c1 c2 c3 ⊢
      subst c1 c2 c3
      by_cases hw : wnt s k o q m1 n = 0
      · rw [show (wnt s k o q m1 n == 0) = true from beq_iff_eq.2 hw]
        refine ⟨?_, ?_⟩
        · refine ⟨hs.1, hq.1, ⟨s, q, rfl, hs, hq⟩, ?_, ?_⟩
          · unfold mk2; rw [if_pos ⟨hw, hk⟩]
          · unfold lf2; rw [if_pos ⟨hw, hk⟩]
        · rintro ⟨m2, n2⟩ ⟨d1, d2⟩
          simp only at d1 d2 ⊢
          subst d1 d2
          refine ⟨?_, ?_⟩
          · by_cases k2 : k = 2
            · obtain ⟨a1, a2, a3⟩ := g2 k2
              rw [show (k == 2) = true from beq_iff_eq.2 k2]
              exact ⟨⟨s, _, n, o, q, rfl, ⟨hs, hm, hn⟩, ho, hq⟩, a1, a2, a3⟩
            · rw [show (k == 2) = false from beq_eq_false_iff_ne.2 k2]
              by_cases k3 : k = 3
              · obtain ⟨a1, a2, a3⟩ := g3 k3
                rw [show (k == 3) = true from beq_iff_eq.2 k3]
                exact ⟨⟨s, _, n, q, rfl, ⟨hs, hm, hn⟩, hq⟩, a1, a2, a3⟩
              · rw [show (k == 3) = false from beq_eq_false_iff_ne.2 k3]
                by_cases k4 : k > 3
                · rw [decide_eq_true k4]
                  trivial
                · rw [decide_eq_false k4]
                  obtain ⟨a1, a2, a3⟩ := g1 (by omega)
                  exact ⟨⟨s, _, n, o, rfl, ⟨hs, hm, hn⟩, ho⟩, a1, a2, a3⟩
          · rintro ⟨w2, m3, n3⟩ ⟨f1, f2, f3⟩
            simp only at f1 f2 f3 ⊢
            subst f1 f2 f3
            have ei : IntKind.i64.wrap ((i : Int) + 1) = ((i + 1 : Nat) : Int) := by rw [wi (by omega) (by omega)]; omega
            simp only [bne_self_eq_false, eqB_refl, beq_self_eq_true, Bool.and_self, Bool.not_true, ei, Int.toNat_natCast]
            refine ⟨⟨s, _, _, rfl⟩, ⟨s, _, _, rfl⟩, ?_⟩
            rw [List.length_map]
            refine ⟨?_, ⟨?_, gm, gn⟩, ?_⟩ <;> (try and_intros) <;> first | rfl | trivial | omega
      · rw [show (wnt s k o q m1 n == 0) = false from beq_eq_false_iff_ne.2 hw]
        refine ⟨?_, ?_⟩
        · refine ⟨?_, ?_⟩
          · unfold mk2; rw [if_neg (fun h => hw h.1)]
          · unfold lf2; rw [if_neg (fun h => hw h.1)]
        · rintro ⟨m2, n2⟩ ⟨d1, d2⟩
          simp only at d1 d2 ⊢
          subst d1 d2
          refine ⟨?_, ?_⟩
          · by_cases k2 : k = 2
            · obtain ⟨a1, a2, a3⟩ := g2 k2
              rw [show (k == 2) = true from beq_iff_eq.2 k2]
              exact ⟨⟨s, _, n, o, q, rfl, ⟨hs, hm, hn⟩, ho, hq⟩, a1, a2, a3⟩
            · rw [show (k == 2) = false from beq_eq_false_iff_ne.2 k2]
              by_cases k3 : k = 3
              · obtain ⟨a1, a2, a3⟩ := g3 k3
                rw [show (k == 3) = true from beq_iff_eq.2 k3]
                exact ⟨⟨s, _, n, q, rfl, ⟨hs, hm, hn⟩, hq⟩, a1, a2, a3⟩
              · rw [show (k == 3) = false from beq_eq_false_iff_ne.2 k3]
                by_cases k4 : k > 3
                · rw [decide_eq_true k4]
                  trivial
                · rw [decide_eq_false k4]
                  obtain ⟨a1, a2, a3⟩ := g1 (by omega)
                  exact ⟨⟨s, _, n, o, rfl, ⟨hs, hm, hn⟩, ho⟩, a1, a2, a3⟩
          · rintro ⟨w2, m3, n3⟩ ⟨f1, f2, f3⟩
            simp only at f1 f2 f3 ⊢
            subst f1 f2 f3
            have ei : IntKind.i64.wrap ((i : Int) + 1) = ((i + 1 : Nat) : Int) := by rw [wi (by omega) (by omega)]; omega
            simp only [bne_self_eq_false, eqB_refl, beq_self_eq_true, Bool.and_self, Bool.not_true, ei, Int.toNat_natCast]
            refine ⟨⟨s, _, _, rfl⟩, ⟨s, _, _, rfl⟩, ?_⟩
            rw [List.length_map]
            refine ⟨?_, ⟨?_, gm, gn⟩, ?_⟩ <;> (try and_intros) <;> first | rfl | trivial | omega
  · rw [decide_eq_false (show ¬ k > 1 from hk)]
    have hk3 : k < 3 := by omega
    rw [decide_eq_true hk3]
    refine ⟨fork hk3 (fun h => absurd h hk), ?_⟩
    · rintro ⟨w, m1, n1⟩ ⟨c1, c2, c3⟩
      simp only at c1 c2 c3 ⊢
      subst c1 c2 c3
      by_cases hw : wnt s k o q m1 n = 0
      · rw [show (wnt s k o q m1 n == 0) = true from beq_iff_eq.2 hw]
        refine ⟨?_, ?_⟩
        · refine ⟨?_, ?_⟩
          · unfold mk2; rw [if_neg (fun h => hk h.2)]
          · unfold lf2; rw [if_neg (fun h => hk h.2)]
        · rintro ⟨m2, n2⟩ ⟨d1, d2⟩
          simp only at d1 d2 ⊢
          subst d1 d2
          refine ⟨?_, ?_⟩
          · by_cases k2 : k = 2
            · obtain ⟨a1, a2, a3⟩ := g2 k2
              rw [show (k == 2) = true from beq_iff_eq.2 k2]
              exact ⟨⟨s, _, n, o, q, rfl, ⟨hs, hm, hn⟩, ho, hq⟩, a1, a2, a3⟩
            · rw [show (k == 2) = false from beq_eq_false_iff_ne.2 k2]
              by_cases k3 : k = 3
              · obtain ⟨a1, a2, a3⟩ := g3 k3
                rw [show (k == 3) = true from beq_iff_eq.2 k3]
                exact ⟨⟨s, _, n, q, rfl, ⟨hs, hm, hn⟩, hq⟩, a1, a2, a3⟩
              · rw [show (k == 3) = false from beq_eq_false_iff_ne.2 k3]
                by_cases k4 : k > 3
                · rw [decide_eq_true k4]
                  trivial
                · rw [decide_eq_false k4]
                  obtain ⟨a1, a2, a3⟩ := g1 (by omega)
                  exact ⟨⟨s, _, n, o, rfl, ⟨hs, hm, hn⟩, ho⟩, a1, a2, a3⟩
          · rintro ⟨w2, m3, n3⟩ ⟨f1, f2, f3⟩
            simp only at f1 f2 f3 ⊢
            subst f1 f2 f3
            have ei : IntKind.i64.wrap ((i : Int) + 1) = ((i + 1 : Nat) : Int) := by rw [wi (by omega) (by omega)]; omega
            simp only [bne_self_eq_false, eqB_refl, beq_self_eq_true, Bool.and_self, Bool.not_true, ei, Int.toNat_natCast]
            refine ⟨⟨s, _, _, rfl⟩, ⟨s, _, _, rfl⟩, ?_⟩
            rw [List.length_map]
            refine ⟨?_, ⟨?_, gm, gn⟩, ?_⟩ <;> (try and_intros) <;> first | rfl | trivial | omega
      · rw [show (wnt s k o q m1 n == 0) = false from beq_eq_false_iff_ne.2 hw]
        refine ⟨?_, ?_⟩
        · refine ⟨?_, ?_⟩
          · unfold mk2; rw [if_neg (fun h => hw h.1)]
          · unfold lf2; rw [if_neg (fun h => hw h.1)]
        · rintro ⟨m2, n2⟩ ⟨d1, d2⟩
          simp only at d1 d2 ⊢
          subst d1 d2
          refine ⟨?_, ?_⟩
          · by_cases k2 : k = 2
            · obtain ⟨a1, a2, a3⟩ := g2 k2
              rw [show (k == 2) = true from beq_iff_eq.2 k2]
              exact ⟨⟨s, _, n, o, q, rfl, ⟨hs, hm, hn⟩, ho, hq⟩, a1, a2, a3⟩
            · rw [show (k == 2) = false from beq_eq_false_iff_ne.2 k2]
              by_cases k3 : k = 3
              · obtain ⟨a1, a2, a3⟩ := g3 k3
                rw [show (k == 3) = true from beq_iff_eq.2 k3]
                exact ⟨⟨s, _, n, q, rfl, ⟨hs, hm, hn⟩, hq⟩, a1, a2, a3⟩
              · rw [show (k == 3) = false from beq_eq_false_iff_ne.2 k3]
                by_cases k4 : k > 3
                · rw [decide_eq_true k4]
                  trivial
                · rw [decide_eq_false k4]
                  obtain ⟨a1, a2, a3⟩ := g1 (by omega)
                  exact ⟨⟨s, _, n, o, rfl, ⟨hs, hm, hn⟩, ho⟩, a1, a2, a3⟩
          · rintro ⟨w2, m3, n3⟩ ⟨f1, f2, f3⟩
            simp only at f1 f2 f3 ⊢
            subst f1 f2 f3
            have ei : IntKind.i64.wrap ((i : Int) + 1) = ((i + 1 : Nat) : Int) := by rw [wi (by omega) (by omega)]; omega
            simp only [bne_self_eq_false, eqB_refl, beq_self_eq_true, Bool.and_self, Bool.not_true, ei, Int.toNat_natCast]
            refine ⟨⟨s, _, _, rfl⟩, ⟨s, _, _, rfl⟩, ?_⟩
            rw [List.length_map]
            refine ⟨?_, ⟨?_, gm, gn⟩, ?_⟩ <;> (try and_intros) <;> first | rfl | trivial | omega

end Go.Proofs.YtkicjckhkefnpaaDoor
/- PinPlays: what the law is handed. -/
namespace Go.Proofs.YtkicjckhkefnpaaDoor
open Go Go.Vg
set_option maxRecDepth 100000 in
theorem ok51  (d : D)  :
    (OkT tab 8 51 d) = (
 ∃ (xs : List D), d = D.slc (3 : Nat) xs ∧ (∀ (y : D), y ∈ xs → ∃ (ds : List D), y = D.st ds ∧ OkL (OkT tab (6 : Nat)) [((0 : Nat), (3 : TypeId)), ((1 : Nat), (26 : TypeId)), ((2 : Nat), (26 : TypeId))] ds) ∧ xs.length ≤ (9223372036854775807 : Nat) ∧ xs.length * (56 : Nat) ≤ (140737488351232 : Nat)) := by kernel_rfl
set_option maxRecDepth 100000 in
theorem ok26t  (d : D)  :
    (OkT tab 6 26 d) = (
 ∃ (l : List Int), d = D.ints IntKind.u8 l ∧ (∀ (z : Int), z ∈ l → (0 : Int) ≤ z ∧ z ≤ IntKind.u8.max) ∧ l.length ≤ (9223372036854775807 : Nat) ∧ l.length * (1 : Nat) ≤ (140737488351232 : Nat)) := by kernel_rfl
set_option maxRecDepth 100000 in
theorem ok3t  (d : D)  :
    (OkT tab 6 3 d) = (
 ∃ (z : Int), d = D.val (Value.int IntKind.i64 z) ∧ -(2 : Int) ^ (63 : Nat) ≤ z ∧ z ≤ IntKind.i64.max) := by kernel_rfl

theorem bytes6 {d : D} (h : OkT tab 6 26 d) : ∃ l, d = .ints .u8 l ∧ isP l := by
  rw [ok26t] at h
  obtain ⟨l, rfl, h1, _, h2⟩ := h
  refine ⟨l, rfl, fun z hz => ?_, ?_⟩
  · have := h1 z hz
    have e : IntKind.u8.max = 255 := rfl
    rw [e] at this
    omega
  · omega

theorem step_of {y : D} (h : ∃ ds : List D, y = D.st ds ∧ OkL (OkT tab 6) [(0, (3 : TypeId)), (1, (26 : TypeId)), (2, (26 : TypeId))] ds) : ∃ x : Ty3, y = tyD x ∧ isP x.2.1 ∧ isP x.2.2 := by
  obtain ⟨ds, rfl, h⟩ := h
  rcases ds with _ | ⟨a, _ | ⟨b, _ | ⟨c, t⟩⟩⟩
  · exact h.elim
  · exact h.2.elim
  · exact h.2.2.elim
  · obtain ⟨h1, h2, h3, h4⟩ := h
    cases t with
    | cons _ _ => exact h4.elim
    | nil =>
      rw [ok3t] at h1
      obtain ⟨z, rfl, _⟩ := h1
      obtain ⟨p, rfl, hp⟩ := bytes6 h2
      obtain ⟨q, rfl, hq⟩ := bytes6 h3
      exact ⟨(z, p, q), rfl, hp, hq⟩

theorem steps_of : ∀ {xs : List D}, (∀ y : D, y ∈ xs → ∃ ds : List D, y = D.st ds ∧ OkL (OkT tab 6) [(0, (3 : TypeId)), (1, (26 : TypeId)), (2, (26 : TypeId))] ds) → ∃ L : List Ty3, xs = L.map tyD ∧ okTy L
  | [], _ => ⟨[], rfl, fun x hx => by cases hx⟩
  | y :: xs, h => by
    obtain ⟨x, rfl, hx⟩ := step_of (h y (List.mem_cons_self ..))
    obtain ⟨L, rfl, hL⟩ := steps_of fun z hz => h z (List.mem_cons_of_mem _ hz)
    refine ⟨x :: L, rfl, fun z hz => ?_⟩
    rcases List.mem_cons.1 hz with rfl | hz
    · exact hx
    · exact hL z hz

theorem m6 : Meets Tryd.prog 6 (lawSpec tab Tryd.f6.params.toList) := by
  refine meets_or pre6 pre6b m6a m6b ?_
  intro ds hds
  have hds : OkAll tab 8 [26, 26, 51] ds := hds
  obtain ⟨d, e, f, rfl, h1, h2, h3⟩ := okAll3 hds
  obtain ⟨s, rfl, hs⟩ := bytes_of h1 rfl
  obtain ⟨p, rfl, hp⟩ := bytes_of h2 rfl
  rw [ok51] at h3
  obtain ⟨xs, rfl, h3, _⟩ := h3
  obtain ⟨L, rfl, hL⟩ := steps_of h3
  by_cases hr : rgt p = true
  · exact .inl ⟨s, p, L, rfl, hs, hp, hL, hr⟩
  · exact .inr ⟨s, p, L, rfl, hs, hp, by simpa using hr⟩

end Go.Proofs.YtkicjckhkefnpaaDoor
