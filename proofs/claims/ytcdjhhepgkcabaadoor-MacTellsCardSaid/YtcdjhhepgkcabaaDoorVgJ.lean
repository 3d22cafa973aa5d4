/- Vg, part J: steps under guards; steps that may change places. -/
import Derived.Test.YtcdjhhepgkcabaaDoorVgI
namespace Go.Vg
open Go Go.RowKit

def dstOf (ops : List Oper) (j : Nat) : Option Nat := (ops[j]?).bind (·.dst)

/-- What an operation that others hang on has yielded: some none, if it was left out itself. -/
def yA (ops : List Oper) (T : List AV) (j : Nat) : Option (Option Bool) :=
  match dstOf ops j with
  | some d => match T.getD d .any with
    | .d (.val (.bool b)) => some (some b)
    | .d (.tup []) => some none
    | _ => none
  | none => none

noncomputable def step1 (C : Ctx) (ops : List Oper) (o : Oper) (s : St) : Prop × St :=
  match o.guard with
  | none => gstep C o s
  | some (j, want) => match yA ops s.T j with
    | none => (False, s)
    | some t => bif t == some want then gstep C o s else (True, s.put o.dst (.d (.tup [])))

def tmpsOf (l : List Operand) : List Nat := l.filterMap fun | .tmp t => some t | _ => none

def looks (ops : List Oper) (o : Oper) : List Nat :=
  tmpsOf o.op.operands.toList ++ (match o.guard with | some (j, _) => (dstOf ops j).toList | none => [])

def nin (d : Option Nat) (l : List Nat) : Bool :=
  match d with
  | none => true
  | some d => !(l.any (Nat.beq d))

def neD : Option Nat → Option Nat → Bool
  | some a, some b => !Nat.beq a b
  | _, _ => true

def clsOK (a b : Nat) : Bool := (Nat.ble a 1 && Nat.ble b 1) || (Nat.beq a 0 && Nat.ble b 2) || (Nat.ble a 2 && Nat.beq b 0)

/-- A load from one told cell, then a store to another. -/
def lsOK (C : Ctx) (ops : List Oper) (x y : Oper) : Bool :=
  match x.op, x.guard, y.op, y.guard, y.dst with
  | .load _ (.tmp p), none, .store _ (.tmp q) _, none, none => C.frz.contains (p + 200000) && C.frz.contains (q + 200000) && !Nat.beq p q && nin x.dst (looks ops y)
  | _, _, _, _, _ => false

def commOK (C : Ctx) (ops : List Oper) (x y : Oper) : Bool :=
  (nin x.dst (looks ops y) && nin y.dst (looks ops x) && neD x.dst y.dst && clsOK (cls C x) (cls C y)) || lsOK C ops x y

theorem nin_spec {d : Option Nat} {l : List Nat} (h : nin d l = true) : ∀ e, d = some e → e ∉ l := by
  rintro e rfl he
  simp only [nin, Bool.not_eq_true', List.any_eq_false] at h
  exact absurd (Nat.beq_refl e) (by simpa using h e he)

theorem neD_spec {a b : Option Nat} (h : neD a b = true) : ∀ d, a = some d → b ≠ some d := by
  rintro d rfl rfl
  simp [neD] at h

/-- What a step does, by parts. -/
noncomputable def eff (C : Ctx) (ops : List Oper) (o : Oper) (T : List AV) (M : Mem) : Prop × AV × Mem :=
  match o.guard with
  | none => match act C o (evA T) M with | r => (r.c, r.v, r.M)
  | some (j, want) => match yA ops T j with
    | none => (False, .any, M)
    | some t => bif t == some want then (match act C o (evA T) M with | r => (r.c, r.v, r.M)) else (True, .d (.tup []), M)

theorem plain_gstep {C : Ctx} {o : Oper} (h : cls C o ≤ 2) (s : St) : gstep C o s = ((act C o (evA s.T) s.M).c, St.put ⟨s.T, (act C o (evA s.T) s.M).M⟩ o.dst (act C o (evA s.T) s.M).v) := by
  unfold gstep
  unfold cls at h
  split at h
  · rename_i hk; rw [hk]
  · omega

theorem step1_eff {C : Ctx} {ops : List Oper} {o : Oper} (h : cls C o ≤ 2) (s : St) : (step1 C ops o s).1 = (eff C ops o s.T s.M).1 ∧ ((step1 C ops o s).1 → (step1 C ops o s).2 = St.put ⟨s.T, (eff C ops o s.T s.M).2.2⟩ o.dst (eff C ops o s.T s.M).2.1) := by
  unfold step1 eff
  cases o.guard with
  | none => simp only [plain_gstep h]; exact ⟨trivial, fun _ => trivial⟩
  | some g =>
    obtain ⟨j, want⟩ := g
    simp only
    cases yA ops s.T j with
    | none => exact ⟨rfl, fun h => h.elim⟩
    | some t =>
      simp only
      generalize (t == some want) = q
      cases q
      · exact ⟨rfl, fun _ => rfl⟩
      · simp only [cond_true, plain_gstep h]; exact ⟨trivial, fun _ => trivial⟩

theorem evA_look {ops : List Oper} {o : Oper} {T : List AV} {M : Mem} {d : Option Nat} {v : AV} (h : ∀ e, d = some e → e ∉ looks ops o) : ∀ x ∈ o.op.operands.toList, evA (St.put ⟨T, M⟩ d v).T x = evA T x := by
  intro x hx
  refine evA_put (s := ⟨T, M⟩) fun e he hxe => h e he ?_
  unfold looks tmpsOf
  refine List.mem_append.2 (.inl (List.mem_filterMap.2 ⟨x, hx, ?_⟩))
  rw [hxe]

theorem yA_look {ops : List Oper} {o : Oper} {T : List AV} {M : Mem} {d : Option Nat} {v : AV} {j : Nat} {want : Bool} (hg : o.guard = some (j, want)) (h : ∀ e, d = some e → e ∉ looks ops o) : yA ops (St.put ⟨T, M⟩ d v).T j = yA ops T j := by
  cases d with
  | none => rfl
  | some d =>
    unfold yA
    cases hd : dstOf ops j with
    | none => rfl
    | some e =>
      have hne : e ≠ d := fun he => h d rfl (by
        unfold looks
        rw [hg]
        exact List.mem_append.2 (.inr (by simp [hd, he])))
      simp only [St.put, List.getD_eq_getElem?_getD, List.getElem?_set_ne (Ne.symm hne)]

/-- A slot that an operation does not look at does not matter to it. -/
theorem eff_put {C : Ctx} {ops : List Oper} {o : Oper} {T : List AV} {M M' : Mem} {d : Option Nat} {v : AV} (h : ∀ e, d = some e → e ∉ looks ops o) : eff C ops o (St.put ⟨T, M'⟩ d v).T M = eff C ops o T M := by
  have ha := act_congr (C := C) (M := M) (evA_look (ops := ops) (T := T) (M := M') (v := v) h)
  unfold eff
  cases hg : o.guard with
  | none => simp only [ha]
  | some g =>
    obtain ⟨j, want⟩ := g
    simp only [yA_look hg h, ha]

theorem eff_pure {C : Ctx} {ops : List Oper} {o : Oper} (h : cls C o = 0) (T : List AV) (M M' : Mem) : (eff C ops o T M).1 = (eff C ops o T M').1 ∧ (eff C ops o T M).2.1 = (eff C ops o T M').2.1 ∧ (eff C ops o T M).2.2 = M := by
  have hp := act_pure h (evA T) M M'
  unfold eff
  split
  · exact hp
  · split
    · exact ⟨rfl, rfl, rfl⟩
    · rename_i t _
      cases hw : (t == _)
      · exact ⟨rfl, rfl, rfl⟩
      · exact hp

theorem eff_read {C : Ctx} {ops : List Oper} {o : Oper} (h : cls C o ≤ 1) (T : List AV) (M : Mem) : (eff C ops o T M).2.2 = M := by
  have hp := act_read h (evA T) M
  unfold eff
  split
  · exact hp
  · split
    · rfl
    · rename_i t _
      cases hw : (t == _)
      · rfl
      · exact hp

theorem put_M (T : List AV) (M : Mem) (d : Option Nat) (v : AV) : (St.put ⟨T, M⟩ d v).M = M := by cases d <;> rfl

theorem St.ext' {s t : St} (h1 : s.T = t.T) (h2 : s.M = t.M) : s = t := by cases s; cases t; simp_all

theorem load_look {tab : Tab} {t : TypeId} {b : Nat} {p : List Nat} {M M' : Mem} (h : look M' b = look M b) : (aLoad tab t (.ptr b p) M').c = (aLoad tab t (.ptr b p) M).c ∧ (aLoad tab t (.ptr b p) M').v = (aLoad tab t (.ptr b p) M).v := by
  unfold aLoad
  simp only [h]
  split <;> exact ⟨rfl, rfl⟩

theorem store_look {tab : Tab} {t : TypeId} {b c : Nat} {p : List Nat} {v : AV} {M : Mem} (h : c ≠ b) : look (aStore tab t (.ptr b p) v M).M c = look M c := by
  unfold aStore
  split
  · rename_i b' p' y heq
    obtain ⟨rfl, rfl⟩ := AV.ptr.inj heq
    split
    · simp only [look_put, if_neg h]
    · rfl
  · rfl

theorem comm_ls {C : Ctx} {ops : List Oper} {x y : Oper} {s : St} (h : lsOK C ops x y = true) (h1 : (step1 C ops x s).1) (h2 : (step1 C ops y (step1 C ops x s).2).1) :
    (step1 C ops y s).1 ∧ (step1 C ops x (step1 C ops y s).2).1 ∧ (step1 C ops x (step1 C ops y s).2).2 = (step1 C ops y (step1 C ops x s).2).2 := by
  unfold lsOK at h
  split at h
  · rename_i t p t' q v hxo hxg hyo hyg hyd
    simp only [Bool.and_eq_true, Bool.not_eq_true'] at h
    obtain ⟨⟨⟨hp, hq⟩, hpq⟩, hnin⟩ := h
    have hne : p ≠ q := fun e => by rw [e, Nat.beq_refl] at hpq; cases hpq
    have hl := nin_spec hnin
    have kx : kindOf C x = .plain := by unfold kindOf; rw [hxo]
    have ky : kindOf C y = .plain := by unfold kindOf; rw [hyo]
    have gx : ∀ s : St, step1 C ops x s = ((isPtr p (evA s.T (.tmp p)) = true ∧ (aLoad C.tab t (unref (evA s.T (.tmp p))) s.M).c), St.put ⟨s.T, s.M⟩ x.dst (aLoad C.tab t (unref (evA s.T (.tmp p))) s.M).v) := by
      intro s
      unfold step1 gstep act
      rw [hxg]
      simp only [kx, hxo, cellR, hp, cond_true, aLoad_M]
    have gy : ∀ s : St, step1 C ops y s = ((isPtr q (evA s.T (.tmp q)) = true ∧ (aStore C.tab t' (evA s.T (.tmp q)) (evA s.T v) s.M).c), ⟨s.T, (aStore C.tab t' (evA s.T (.tmp q)) (evA s.T v) s.M).M⟩) := by
      intro s
      unfold step1 gstep act
      rw [hyg]
      simp only [ky, hyo, hyd, cellR, hq, cond_true, St.put]
    have ev : ∀ z ∈ y.op.operands.toList, ∀ (M : Mem) (u : AV), evA (St.put ⟨s.T, M⟩ x.dst u).T z = evA s.T z := fun z hz M u => evA_look (ops := ops) (T := s.T) (M := M) hl z hz
    have evq : ∀ (M : Mem) (u : AV), evA (St.put ⟨s.T, M⟩ x.dst u).T (.tmp q) = evA s.T (.tmp q) := fun M u => ev _ (by rw [hyo]; simp [Op.operands]) M u
    have evv : ∀ (M : Mem) (u : AV), evA (St.put ⟨s.T, M⟩ x.dst u).T v = evA s.T v := fun M u => ev _ (by rw [hyo]; simp [Op.operands]) M u
    rw [gx] at h1 h2 ⊢
    rw [gy] at h2
    simp only [evq, evv, put_M] at h1 h2
    obtain ⟨h1a, h1b⟩ := h1
    obtain ⟨h2a, h2b⟩ := h2
    have px : ∃ pp, evA s.T (.tmp p) = .ptr p pp := by
      cases he : evA s.T (.tmp p) with
      | ptr b pp => rw [he] at h1a; exact ⟨pp, by rw [Nat.eq_of_beq_eq_true h1a]⟩
      | _ => rw [he] at h1a; cases h1a
    have py : ∃ pp, evA s.T (.tmp q) = .ptr q pp := by
      cases he : evA s.T (.tmp q) with
      | ptr b pp => rw [he] at h2a; exact ⟨pp, by rw [Nat.eq_of_beq_eq_true h2a]⟩
      | _ => rw [he] at h2a; cases h2a
    obtain ⟨pp, epp⟩ := px
    obtain ⟨qq, eqq⟩ := py
    have hlook : look (aStore C.tab t' (evA s.T (.tmp q)) (evA s.T v) s.M).M p = look s.M p := by rw [eqq]; exact store_look hne
    obtain ⟨l1, l2⟩ := load_look (tab := C.tab) (t := t) (p := pp) hlook
    refine ⟨?_, ?_, ?_⟩
    · simp only [gy]
      exact ⟨h2a, h2b⟩
    · simp only [gx, gy]
      refine ⟨h1a, ?_⟩
      rw [epp] at h1b ⊢
      simp only [unref] at h1b ⊢
      rw [l1]
      exact h1b
    · simp only [gx, gy, evq, evv, put_M]
      rw [epp]
      simp only [unref]
      rw [l2]
      cases x.dst <;> rfl
  · cases h

/-- Two steps that do not touch each other: the later may be done first. -/
theorem comm {C : Ctx} {ops : List Oper} {x y : Oper} {s : St} (h0 : commOK C ops x y = true) (h1 : (step1 C ops x s).1) (h2 : (step1 C ops y (step1 C ops x s).2).1) :
    (step1 C ops y s).1 ∧ (step1 C ops x (step1 C ops y s).2).1 ∧ (step1 C ops x (step1 C ops y s).2).2 = (step1 C ops y (step1 C ops x s).2).2 := by
  unfold commOK at h0
  rcases Bool.or_eq_true_iff.1 h0 with h | h
  case inr => exact comm_ls h h1 h2
  simp only [Bool.and_eq_true] at h
  obtain ⟨⟨⟨hxy, hyx⟩, hne⟩, hcl⟩ := h
  have hxy' := nin_spec hxy
  have hyx' := nin_spec hyx
  have hne' := neD_spec hne
  have hc : cls C x ≤ 2 ∧ cls C y ≤ 2 ∧ ((cls C x ≤ 1 ∧ cls C y ≤ 1) ∨ cls C x = 0 ∨ cls C y = 0) := by
    unfold clsOK at hcl
    simp only [Bool.or_eq_true, Bool.and_eq_true, Nat.ble_eq, Nat.beq_eq] at hcl
    omega
  obtain ⟨hx2, hy2, hcase⟩ := hc
  obtain ⟨a1, a2⟩ := step1_eff (ops := ops) hx2 s
  have a2 := a2 h1
  rw [a1] at h1
  rw [a2] at h2 ⊢
  obtain ⟨b1, b2⟩ := step1_eff (ops := ops) hy2 (St.put ⟨s.T, (eff C ops x s.T s.M).2.2⟩ x.dst (eff C ops x s.T s.M).2.1)
  have b2 := b2 h2
  rw [b1, eff_put hxy', put_M] at h2
  rw [b2, eff_put hxy', put_M]
  obtain ⟨c1, c2⟩ := step1_eff (ops := ops) hy2 s
  have hy1 : (step1 C ops y s).1 := by
    rw [c1]
    rcases hcase with ⟨hx, hy⟩ | hx | hy
    · rwa [eff_read hx] at h2
    · rwa [(eff_pure hx s.T s.M s.M).2.2] at h2
    · rwa [(eff_pure hy s.T (eff C ops x s.T s.M).2.2 s.M).1] at h2
  have c2 := c2 hy1
  rw [c2]
  obtain ⟨d1, d2⟩ := step1_eff (ops := ops) hx2 (St.put ⟨s.T, (eff C ops y s.T s.M).2.2⟩ y.dst (eff C ops y s.T s.M).2.1)
  have hx1 : (step1 C ops x (St.put ⟨s.T, (eff C ops y s.T s.M).2.2⟩ y.dst (eff C ops y s.T s.M).2.1)).1 := by
    rw [d1, eff_put hyx', put_M]
    rcases hcase with ⟨hx, hy⟩ | hx | hy
    · rwa [eff_read hy]
    · rwa [(eff_pure hx s.T (eff C ops y s.T s.M).2.2 s.M).1]
    · rwa [(eff_pure hy s.T s.M s.M).2.2]
  have d2 := d2 hx1
  refine ⟨hy1, hx1, ?_⟩
  rw [d2, eff_put hyx', put_M]
  -- the two ends are one
  have key : ∀ (vx vy : AV) (Mx My N : Mem) (vx' vy' : AV), vx' = vx → vy' = vy → St.put ⟨(St.put ⟨s.T, My⟩ y.dst vy).T, N⟩ x.dst vx' = St.put ⟨(St.put ⟨s.T, Mx⟩ x.dst vx).T, N⟩ y.dst vy' := by
    intro vx vy Mx My N vx' vy' e1 e2
    subst e1 e2
    refine St.ext' ?_ (by rw [put_M, put_M])
    have := put_put (T := s.T) (M := Mx) (M' := My) (d1 := x.dst) (d2 := y.dst) (v1 := vx') (v2 := vy') hne'
    cases hxd : x.dst <;> cases hyd : y.dst <;> rw [hxd, hyd] at this <;> exact this.symm
  rcases hcase with ⟨hx, hy⟩ | hx | hy
  · rw [eff_read hx, eff_read hy, eff_read hx, eff_read hy]
    exact key _ _ _ _ _ _ _ rfl rfl
  · have p := eff_pure (ops := ops) hx s.T (eff C ops y s.T s.M).2.2 s.M
    have p0 := eff_pure (ops := ops) hx s.T s.M s.M
    rw [p.2.2, p0.2.2]
    exact key _ _ _ _ _ _ _ p.2.1 rfl
  · have p := eff_pure (ops := ops) hy s.T (eff C ops x s.T s.M).2.2 s.M
    have p0 := eff_pure (ops := ops) hy s.T s.M s.M
    rw [p.2.2, p0.2.2]
    exact key _ _ _ _ _ _ _ rfl p.2.1

end Go.Vg
