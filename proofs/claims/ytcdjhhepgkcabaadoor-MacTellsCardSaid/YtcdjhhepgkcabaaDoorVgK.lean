/- Vg, part K: a region, in whatever order. -/
import Derived.Test.YtcdjhhepgkcabaaDoorVgJ
namespace Go.Vg
open Go Go.RowKit

/-- A list of operations, one after the other. -/
noncomputable def foldI (C : Ctx) (ops : List Oper) : List Oper → St → Prop × St
  | [], s => (True, s)
  | o :: os, s => ((step1 C ops o s).1 ∧ (foldI C ops os (step1 C ops o s).2).1, (foldI C ops os (step1 C ops o s).2).2)

theorem yielded_sound {w0 : World} {F : Env} {σ : Sg} {s : St} {a : Act} {w : World} (r : Rel w0 F σ s a w) {ops : List Oper} {j : Nat} {b : Option Bool} (h : yA ops s.T j = some b) : yielded ops.toArray a.tmps j = b := by
  unfold yA dstOf at h
  unfold yielded
  rw [List.getElem?_toArray]
  cases hj : ops[j]? with
  | none => simp [hj] at h
  | some oj =>
    cases hd : oj.dst with
    | none => simp [hj, hd] at h
    | some d =>
      simp only [hj, Option.bind_some, hd] at h ⊢
      split at h
      · rename_i b' hT
        obtain rfl := Option.some.inj h
        rw [List.getD_eq_getElem?_getD] at hT
        cases hx : s.T[d]? with
        | none => simp [hx] at hT
        | some x =>
          simp only [hx, Option.getD_some] at hT
          subst hT
          obtain ⟨v, hv, ha⟩ := r.tmp d _ hx
          have ev := ar_val ha
          simp [hv, ev]
      · rename_i hT
        obtain rfl := Option.some.inj h
        rw [List.getD_eq_getElem?_getD] at hT
        cases hx : s.T[d]? with
        | none => simp [hx] at hT
        | some x =>
          simp only [hx, Option.getD_some] at hT
          subst hT
          obtain ⟨v, hv, vs, ev, _⟩ := r.tmp d _ hx
          simp [hv, ev]
      · cases h

theorem step1_sound {P : Program} {C : Ctx} {w0 : World} {F : Env} {σ : Sg} {s : St} {a : Act} {w : World} {ops : List Oper} {i : Nat} {o : Oper} (K : CtxOk P C) (r : Rel w0 F σ s a w) (hi : ops[i]? = some o) (hc : (step1 C ops o s).1) (Q : Exit → Act → World → Prop) :
    wpOp P ops.toArray Q i (fun a' w' => ∃ σ', Rel w0 F σ' (step1 C ops o s).2 a' w') a w := by
  unfold wpOp
  rw [List.getElem?_toArray, hi]
  simp only
  unfold step1 at hc ⊢
  cases hg : o.guard with
  | none =>
    rw [hg] at hc
    have hw : Region.wanted o (yielded ops.toArray a.tmps) = true := by unfold Region.wanted; rw [hg]
    simp only [hw, if_true]
    exact .inl (gstep_sound K r hc Q)
  | some g =>
    obtain ⟨j, want⟩ := g
    rw [hg] at hc
    simp only at hc ⊢
    cases hy : yA ops s.T j with
    | none => rw [hy] at hc; exact hc.elim
    | some t =>
      rw [hy] at hc
      simp only at hc ⊢
      have hyl := yielded_sound r hy
      have hw : Region.wanted o (yielded ops.toArray a.tmps) = (t == some want) := by
        unfold Region.wanted
        rw [hg]
        simp only [hyl]
      rw [hw]
      cases hq : (t == some want) with
      | true =>
        simp only [hq, cond_true] at hc
        simp only [if_true, cond_true]
        exact .inl (gstep_sound K r hc Q)
      | false =>
        simp only [Bool.false_eq_true, if_false, cond_false]
        exact ⟨σ, r.put o.dst ⟨[], rfl, .nil⟩⟩

/-- A region that draws no order. -/
theorem region_seq {P : Program} {C : Ctx} (K : CtxOk P C) {w0 : World} {F : Env} {ops : List Oper} {Q : Exit → Act → World → Prop} : ∀ (rest : List Oper) (k : Nat) (σ : Sg) (s : St) (a : Act) (w : World), (∀ j, rest[j]? = ops[k + j]?) → k + rest.length = ops.length →
    Rel w0 F σ s a w → (foldI C ops rest s).1 → (∀ σ' a' w', Rel w0 F σ' (foldI C ops rest s).2 a' w' → Q .normal a' w') → wpOps P ops.toArray Q (List.range' k rest.length) a w
  | [], k, σ, s, a, w, _, _, r, _, h => by
    simp only [List.length_nil, List.range'_zero, wpOps]
    exact h σ a w r
  | o :: rest, k, σ, s, a, w, hr, hl, r, hc, h => by
    simp only [List.length_cons, List.range'_succ, wpOps_cons]
    have hi : ops[k]? = some o := by have := hr 0; simpa using this.symm
    obtain ⟨h1, h2⟩ := hc
    refine wpOp_mono ?_ (step1_sound K r hi h1 Q)
    rintro a' w' ⟨σ', r'⟩
    exact region_seq K rest (k + 1) σ' _ a' w' (fun j => by have := hr (j + 1); simp only [List.getElem?_cons_succ] at this; rw [this]; congr 1; omega) (by simp at hl; omega) r' h2 h

/-- In a list of steps that succeed, one that changes places with all before it may be done first. -/
theorem bubble {C : Ctx} {ops : List Oper} {o : Oper} : ∀ (pre post : List Oper) (s : St), (∀ x ∈ pre, commOK C ops x o = true) → (foldI C ops (pre ++ o :: post) s).1 →
    (step1 C ops o s).1 ∧ (foldI C ops (pre ++ post) (step1 C ops o s).2).1 ∧ (foldI C ops (pre ++ post) (step1 C ops o s).2).2 = (foldI C ops (pre ++ o :: post) s).2
  | [], post, s, _, h => ⟨h.1, h.2, rfl⟩
  | x :: pre, post, s, hx, h => by
    simp only [List.cons_append, foldI] at h ⊢
    obtain ⟨h1, h2⟩ := h
    obtain ⟨b1, b2, b3⟩ := bubble pre post (step1 C ops x s).2 (fun y hy => hx y (by simp [hy])) h2
    obtain ⟨c1, c2, c3⟩ := comm (hx x (by simp)) h1 b1
    exact ⟨c1, ⟨c2, by rw [c3]; exact b2⟩, by rw [c3]; exact b3⟩

/-- What stands before an operation, through the edges: a mask. -/
def maskOf (acc : List Nat) (o : Oper) : Nat := o.after.toList.foldl (fun m e => bif Region.binds .any e then (m ||| 2 ^ e.on) ||| acc.getD e.on 0 else m) 0

def masks : List Oper → List Nat → List Nat
  | [], acc => acc
  | o :: os, acc => masks os (acc ++ [maskOf acc o])

theorem masks_len : ∀ (os : List Oper) (acc : List Nat), (masks os acc).length = acc.length + os.length
  | [], acc => by simp [masks]
  | o :: os, acc => by simp [masks, masks_len os]; omega

theorem masks_pre : ∀ (os : List Oper) (acc : List Nat) (i : Nat), i < acc.length → (masks os acc).getD i 0 = acc.getD i 0
  | [], acc, i, _ => rfl
  | o :: os, acc, i, h => by
    simp only [masks]
    rw [masks_pre os _ i (by simp; omega)]
    simp [List.getElem?_append_left h]

theorem masks_at : ∀ (os : List Oper) (acc : List Nat) (i : Nat) (o : Oper), os[i]? = some o → (masks os acc).getD (acc.length + i) 0 = maskOf ((masks os acc).take (acc.length + i)) o
  | [], acc, i, o, h => by simp at h
  | o :: os, acc, 0, o', h => by
    simp only [List.getElem?_cons_zero, Option.some.injEq] at h
    subst h
    simp only [masks, Nat.add_zero]
    rw [masks_pre os _ _ (by simp)]
    have e : (masks os (acc ++ [maskOf acc o])).take acc.length = acc := by
      have : ∀ (os : List Oper) (acc : List Nat), (masks os acc).take acc.length = acc := by
        intro os
        induction os with
        | nil => intro acc; simp [masks]
        | cons o os ih =>
          intro acc
          simp only [masks]
          have := congrArg (List.take acc.length) (ih (acc ++ [maskOf acc o]))
          rw [List.take_take] at this
          simp only [List.length_append, List.length_cons, List.length_nil] at this
          rw [Nat.min_eq_left (by omega)] at this
          rw [this]
          simp
      have h2 := congrArg (List.take acc.length) (this os (acc ++ [maskOf acc o]))
      rw [List.take_take] at h2
      simp only [List.length_append, List.length_cons, List.length_nil] at h2
      rw [Nat.min_eq_left (by omega)] at h2
      rw [h2]
      simp
    rw [e]
    simp
  | o :: os, acc, i + 1, o', h => by
    simp only [List.getElem?_cons_succ] at h
    simp only [masks]
    have := masks_at os (acc ++ [maskOf acc o]) i o' h
    simp only [List.length_append, List.length_cons, List.length_nil] at this
    rw [show acc.length + (i + 1) = acc.length + (0 + 1) + i from by omega]
    exact this

theorem fold_mask (acc : List Nat) (j : Nat) : ∀ (es : List Edge) (m : Nat), (es.foldl (fun m e => bif Region.binds .any e then (m ||| 2 ^ e.on) ||| acc.getD e.on 0 else m) m).testBit j = true →
    m.testBit j = true ∨ ∃ e ∈ es, Region.binds .any e = true ∧ (e.on = j ∨ (acc.getD e.on 0).testBit j = true)
  | [], m, h => .inl h
  | e :: es, m, h => by
    simp only [List.foldl_cons] at h
    rcases fold_mask acc j es _ h with h | ⟨e', he', hb⟩
    · cases hb : Region.binds .any e with
      | false => rw [hb] at h; exact .inl h
      | true =>
        rw [hb] at h
        simp only [cond_true, Nat.testBit_or, Bool.or_eq_true, Nat.testBit_two_pow, decide_eq_true_eq] at h
        rcases h with (h | h) | h
        · exact .inl h
        · exact .inr ⟨e, by simp, hb, .inl h⟩
        · exact .inr ⟨e, by simp, hb, .inr h⟩
    · exact .inr ⟨e', by simp [he'], hb⟩

/-- The check: each pair is ordered by the edges, or may change places; edges lead back. -/
def pairsOK (C : Ctx) (ops : List Oper) (ms : List Nat) : Bool :=
  (List.range ops.length).all fun i => match ops[i]? with
    | none => true
    | some oi => (oi.after.toList.all fun e => !Region.binds .any e || Nat.blt e.on i) &&
      (List.range i).all fun j => (ms.getD i 0).testBit j || (match ops[j]? with | some oj => commOK C ops oj oi | none => true)

def regionOK (C : Ctx) (ops : List Oper) : Bool := pairsOK C ops (masks ops [])

end Go.Vg
