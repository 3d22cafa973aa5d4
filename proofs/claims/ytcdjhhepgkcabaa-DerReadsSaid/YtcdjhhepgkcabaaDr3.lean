import Derived.Test.YtcdjhhepgkcabaaDr2
/- DerReads, part 3: Read, and the law. -/
namespace Go.Proofs.Ytcdjhhepgkcabaa
open Go Go.Vg

theorem fst_ok {l : List Int} (h : okb l) : fT l < 256 ∧ okb (fB l) ∧ (fB l).length ≤ 4096 ∧ fN l ≤ l.length := by
  unfold fT fB fN
  have nil : okb [] := fun x hx => by cases hx
  by_cases hp : l.length = 0
  · rw [fs_len hp]
    exact ⟨by show 0 < 256; decide, nil, Nat.zero_le _, Nat.zero_le _⟩
  obtain ⟨n, a, e, hh⟩ : ∃ n a e, hd (l.drop 1) = (n, a, e) := ⟨_, _, _, rfl⟩
  by_cases he : e = 0
  · subst he
    by_cases hn : n > 4096
    · rw [fs_big hp hh hn]
      exact ⟨by show 0 < 256; decide, nil, Nat.zero_le _, Nat.zero_le _⟩
    · by_cases hs : n + (1 + a) > l.length
      · rw [fs_short hp hh hn hs]
        exact ⟨by show 0 < 256; decide, nil, Nat.zero_le _, Nat.zero_le _⟩
      · rw [fs_ok hp hh hn hs]
        refine ⟨(gB h 0).2, okb_take (okb_drop h _) _, ?_, ?_⟩
        · show (List.take n (List.drop (1 + a) l)).length ≤ 4096
          rw [List.length_take, List.length_drop]
          omega
        · show 1 + a + n ≤ l.length
          omega
  · rw [fs_err hp hh he]
    exact ⟨by show 0 < 256; decide, nil, Nat.zero_le _, Nat.zero_le _⟩

theorem itm_ok {l : List Int} (h : okb l) : isI (itm l) := by
  obtain ⟨h1, h2, h3, _⟩ := fst_ok h
  exact ⟨_, _, rfl, h1, h2, by unfold lenB; omega⟩
theorem isL_nil : isL [] := ⟨fun _ h => (by cases h), Nat.zero_le _⟩
theorem isL_snoc {l : List Int} {out : List D} (h : okb l) (ho : isL out) (hlen : out.length < 200) : isL (out ++ [itm l]) := by
  refine ⟨fun d hd => ?_, by rw [List.length_append, List.length_singleton]; omega⟩
  rcases List.mem_append.mp hd with h1 | h1
  · exact ho.1 d h1
  · rw [List.mem_singleton.mp h1]
    exact itm_ok h
theorem rd_ok : ∀ (k : Nat) (l : List Int) (out : List D), okb l → isL out → out.length + k ≤ 200 → isL (rd k l out).1
  | 0, l, out, _, ho, _ => by
    rw [rd]
    split
    · exact ho
    · exact isL_nil
  | k + 1, l, out, h, ho, hk => by
    rw [rd]
    split
    · exact ho
    · split
      · exact isL_nil
      · exact rd_ok k _ _ (okb_drop h _) (isL_snoc h ho (by omega)) (by rw [List.length_append, List.length_singleton]; omega)
theorem rL_ok {l : List Int} (h : okb l) : isL (rL l) := by
  unfold rL
  split
  · exact isL_nil
  · exact rd_ok 200 l [] h isL_nil (by decide)
theorem fin2 {l : List Int} {xs : List D} {e : Nat} (h : ¬ l.length > 65536) (hr : (xs, e) = rd 200 l []) : D.tup [D.slc 2 xs, D.val (Value.int IntKind.i64 ((e : Nat) : Int))] = D.tup [.slc 2 (rL l), i64n (rE l)] := by
  unfold rL rE
  rw [if_neg h, if_neg h, ← hr]
theorem fin2b {l : List Int} (h : l.length > 65536) : D.tup [D.slc 2 [], D.val (Value.int IntKind.i64 2)] = D.tup [.slc 2 (rL l), i64n (rE l)] := by
  unfold rL rE
  rw [if_pos h, if_pos h]
  rfl

set_option maxRecDepth 100000 in
theorem m47 : Meets Try.prog 47 sp47 := by
  refine meets_of_owed (C := c47) ⟨tab_ok, lkS_ok ⟨m49, trivial⟩⟩ (by kernel_rfl) (by kernel_rfl : Try.prog.funcs[47]? = some Try.f47) (by kernel_rfl) (by kernel_rfl) (by kernel_rfl) _ ?_
  rintro _ ⟨l, rfl, hl, hlen⟩
  refine ⟨fun h => (by cases h), inv47 l, ?_⟩
  show owed c47 (inv47 l) Try.f47 [bs l] (.tup [.slc 2 (rL l), i64n (rE l)])
  rw [vc47]
  simp (decide := true) only [eq_self, true_and, and_true, ne_eq, not_false_eq_true, Int.toNat_natCast, List.take_length, List.length_append, List.length_singleton]
  split
  · rename_i h
    have h := of_decide_eq_true h
    exact fin2b (by omega)
  rename_i h
  have h := of_decide_eq_false h
  have h65 : ¬ l.length > 65536 := by omega
  refine ⟨⟨⟨hl, by omega⟩, isL_nil⟩, ?_⟩
  rintro ⟨b, out⟩ ⟨⟨hb, hb2⟩, ⟨ho, ho2⟩, hr⟩
  simp only at hb hb2 ho ho2 hr ⊢
  obtain ⟨f1, f2, f3, f4⟩ := fst_ok hb
  split
  · rename_i h1
    have h1 := of_decide_eq_true h1
    have h1' : ¬ b.length = 0 := by omega
    split
    · rename_i h2
      have h2 : ((out.length : Nat) : Int) = 200 := by simpa using h2
      rw [show 200 - out.length = 0 by omega, rd, if_neg h1'] at hr
      exact fin2 h65 hr
    · rename_i h2
      have h2 : ¬ ((out.length : Nat) : Int) = 200 := by simpa using h2
      obtain ⟨k, hk⟩ : ∃ k, 200 - out.length = k + 1 := ⟨199 - out.length, by omega⟩
      rw [hk, rd, if_neg h1'] at hr
      refine ⟨⟨b, rfl, hb, by unfold lenB; omega⟩, ?_⟩
      split
      · rename_i h3
        have h3 : ¬ ((fE b : Nat) : Int) = 0 := by simpa using h3
        rw [if_pos (by omega)] at hr
        exact fin2 h65 hr
      · rename_i h3
        have h3 : ((fE b : Nat) : Int) = 0 := by simpa using h3
        rw [if_neg (by omega)] at hr
        have hs := isL_snoc hb ho (by omega)
        have hr2 : rd (200 - (out.length + 1)) (b.drop (fN b)) (out ++ [itm b]) = rd 200 l [] := by
          rw [show 200 - (out.length + 1) = k by omega]
          exact hr
        have hd2 := okb_drop hb (fN b)
        have hd3 : (b.drop (fN b)).length ≤ 65536 := by rw [List.length_drop]; omega
        and_intros <;> first | exact hr2 | exact hs.1 | exact hs.2 | exact hd2 | exact hd3 | omega
  · rename_i h1
    have h1 := of_decide_eq_false h1
    have h1' : b.length = 0 := by omega
    have e : rd (200 - out.length) b out = (out, 0) := by
      cases 200 - out.length with
      | zero => rw [rd, if_pos h1']
      | succ k => rw [rd, if_pos h1']
    rw [e] at hr
    exact fin2 h65 hr

set_option maxRecDepth 100000 in
theorem m48 : Meets Try.prog 48 sp48 := by
  refine meets_of_owed (C := c48) ⟨tab_ok, lkS_ok ⟨m50, trivial⟩⟩ (by kernel_rfl) (by kernel_rfl : Try.prog.funcs[48]? = some Try.f48) (by kernel_rfl) (by kernel_rfl) (by kernel_rfl) _ ?_
  rintro _ ⟨l, rfl, hl, hlen⟩
  refine ⟨fun h => (by cases h), inv48 l, ?_⟩
  show owed c48 (inv48 l) Try.f48 [.str l] (.tup [.slc 2 (rL l), i64n (rE l)])
  rw [vc48]
  simp (decide := true) only [eq_self, true_and, and_true, ne_eq, not_false_eq_true, Int.toNat_natCast, List.take_length, List.length_append, List.length_singleton]
  split
  · rename_i h
    have h := of_decide_eq_true h
    exact fin2b (by omega)
  rename_i h
  have h := of_decide_eq_false h
  have h65 : ¬ l.length > 65536 := by omega
  refine ⟨⟨⟨hl, by omega⟩, isL_nil⟩, ?_⟩
  rintro ⟨b, out⟩ ⟨⟨hb, hb2⟩, ⟨ho, ho2⟩, hr⟩
  simp only at hb hb2 ho ho2 hr ⊢
  obtain ⟨f1, f2, f3, f4⟩ := fst_ok hb
  split
  · rename_i h1
    have h1 := of_decide_eq_true h1
    have h1' : ¬ b.length = 0 := by omega
    split
    · rename_i h2
      have h2 : ((out.length : Nat) : Int) ≥ 200 := of_decide_eq_true h2
      rw [show 200 - out.length = 0 by omega, rd, if_neg h1'] at hr
      exact fin2 h65 hr
    · rename_i h2
      have h2 : ¬ ((out.length : Nat) : Int) ≥ 200 := of_decide_eq_false h2
      obtain ⟨k, hk⟩ : ∃ k, 200 - out.length = k + 1 := ⟨199 - out.length, by omega⟩
      rw [hk, rd, if_neg h1'] at hr
      refine ⟨⟨b, rfl, hb, by unfold lenB; omega⟩, ?_⟩
      split
      · rename_i h3
        have h3 : ¬ ((fE b : Nat) : Int) = 0 := by simpa using h3
        rw [if_pos (by omega)] at hr
        exact fin2 h65 hr
      · rename_i h3
        have h3 : ((fE b : Nat) : Int) = 0 := by simpa using h3
        rw [if_neg (by omega)] at hr
        have hs := isL_snoc hb ho (by omega)
        have hr2 : rd (200 - (out.length + 1)) (b.drop (fN b)) (out ++ [itm b]) = rd 200 l [] := by
          rw [show 200 - (out.length + 1) = k by omega]
          exact hr
        have hd2 := okb_drop hb (fN b)
        have hd3 : (b.drop (fN b)).length ≤ 65536 := by rw [List.length_drop]; omega
        and_intros <;> first | exact hr2 | exact hs.1 | exact hs.2 | exact hd2 | exact hd3 | omega
  · rename_i h1
    have h1 := of_decide_eq_false h1
    have h1' : b.length = 0 := by omega
    have e : rd (200 - out.length) b out = (out, 0) := by
      cases 200 - out.length with
      | zero => rw [rd, if_pos h1']
      | succ k => rw [rd, if_pos h1']
    rw [e] at hr
    exact fin2 h65 hr

theorem item_shape {d : D} (h : isI d) : D.st [D.val (Value.int IntKind.u8 (numOf (fldOf d 0))), D.ints IntKind.u8 (intsOf (fldOf d 1))] = d ∧ isBytes (intsOf (fldOf d 1)) := by
  obtain ⟨t, b, rfl, _, hb, _⟩ := h
  exact ⟨rfl, hb⟩

set_option maxRecDepth 100000 in
theorem m51 : Meets Try.prog 51 sp51 := by
  refine meets_of_owed (C := c0) ⟨tab_ok, fun f s h => by cases h⟩ (by kernel_rfl) (by kernel_rfl : Try.prog.funcs[51]? = some Try.f51) (by kernel_rfl) (by kernel_rfl) (by kernel_rfl) _ ?_
  rintro _ ⟨xs, rfl, hx, hlen⟩
  refine ⟨fun _ => rfl, inv51 xs, ?_⟩
  show owed c0 (inv51 xs) Try.f51 [.slc 2 xs, .slc 2 xs] (bl true)
  rw [vc51]
  have eqs : ∀ a : List Int, eqB a a = true := fun a => eqB_iff.mpr rfl
  simp (decide := true) only [eq_self, true_and, and_true, ne_eq, not_false_eq_true, Int.toNat_natCast, bne_self_eq_false, eqs, Bool.not_true]
  refine ⟨⟨rfl, Nat.zero_le _⟩, fun x hx2 => ?_⟩
  split
  · rename_i h
    have h := of_decide_eq_true h
    have hlt : x < xs.length := by omega
    have hm : xs.getD x (D.val (Value.bool false)) ∈ xs := by
      rw [List.getD_eq_getElem?_getD, List.getElem?_eq_getElem hlt]
      exact List.getElem_mem hlt
    obtain ⟨h1, h2⟩ := item_shape (hx _ hm)
    rw [show ((x : Int) + 1) = ((x + 1 : Nat) : Int) by omega, wNi (n := x + 1) (by omega)]
    simp only [Int.toNat_natCast]
    and_intros <;> first | exact h1 | exact h2 | omega | rfl | trivial
  · trivial

set_option maxRecDepth 100000 in
theorem m9 : Meets Try.prog 9 (lawSpec tab Try.f9.params.toList) := by
  refine meets_of_owed (C := c9) ⟨tab_ok, lkS_ok ⟨m47, m48, m49, m50, m51, trivial⟩⟩ (by kernel_rfl) (by kernel_rfl : Try.prog.funcs[9]? = some Try.f9) (by kernel_rfl) (by kernel_rfl) (by kernel_rfl) _ ?_
  intro ds hds
  obtain ⟨l, rfl, hl, hlen⟩ : ∃ l, ds = [bs l] ∧ okb l ∧ lenB l := by
    match ds, hds with
    | [d], h =>
      have h1 := h.1
      rw [ok28] at h1
      obtain ⟨l, rfl, h2, h3⟩ := h1
      exact ⟨l, rfl, fun x hx => ⟨(h2 x hx).1, Int.lt_of_le_of_lt (h2 x hx).2 (by decide)⟩, h3⟩
  refine ⟨fun _ => rfl, fun _ => none, ?_⟩
  show owed c9 (fun _ => none) Try.f9 [bs l] (bl true)
  rw [vc9]
  simp (decide := true) only [eq_self, true_and, and_true, ne_eq, not_false_eq_true, beq_self_eq_true]
  have hb : isBytes l := hl
  have hi : isL [itm l] := ⟨fun d hd => by rw [List.mem_singleton.mp hd]; exact itm_ok hl, by simp⟩
  exact ⟨⟨l, rfl, hl, hlen⟩, hb, ⟨l, rfl, hl, hlen⟩, ⟨l, rfl, hl, hlen⟩, hb, ⟨l, rfl, hl, hlen⟩, ⟨_, rfl, rL_ok hl⟩, ⟨_, rfl, hi⟩⟩

end Go.Proofs.Ytcdjhhepgkcabaa
