/- Vg, part E7: conversions, makes, literals, copy, calls. -/
import Derived.Test.YtpkcmjfmoemekaaZb4
import Derived.Lib.ConvBytes
import Derived.Laws.MakeOwn
namespace Go.Vg
open Go Go.RowKit
def UponCall (P : Program) (f : FuncId) (vs : Array Value) (w : World) (R : Value → World → Prop) : Prop :=
 match (callFunc f vs).run P w with
 | .ok (.value v) w' => R v w'
 | .ok (.enter g args) w' => Calls P g args w' fun e w'' => ∃ v, e = .returned v ∧ R v w''
 | _ => False
mutual
def flatD : D → Bool
 | .val _ => true
 | .arr _ _ _ => true
 | .str _ => true
 | .st fs => flatDs fs
 | .tup fs => flatDs fs
 | _ => false
def flatDs : List D → Bool
 | [] => true
 | d :: ds => flatD d && flatDs ds
end
mutual
theorem flat_CR {w w' : World} {X X' : Nat → Prop} : ∀ (d : D) (vs : List Value), flatD d = true → CR w X d vs → CR w' X' d vs
 | .val _, _, _, h => by simpa only [CR] using h
 | .arr _ _ _, _, _, h => by simpa only [CR] using h
 | .str _, _, _, h => by simpa only [CR] using h
 | .ref _, _, hf, _ => by simp [flatD] at hf
 | .clo _ _, _, hf, _ => by simp [flatD] at hf
 | .st fs, vs, hf, h => by
  simp only [CR] at h ⊢
  exact flat_CRs fs vs (by simpa [flatD] using hf) h
 | .tup _, _, _, h => by simp only [CR] at h
 | .ints _ _, _, hf, _ => by simp [flatD] at hf
 | .slc _ _, _, hf, _ => by simp [flatD] at hf
theorem flat_CRs {w w' : World} {X X' : Nat → Prop} : ∀ (ds : List D) (vs : List Value), flatDs ds = true → CRs w X ds vs → CRs w' X' ds vs
 | [], _, _, h => by simpa only [CRs] using h
 | d :: ds, _, hf, h => by
  simp only [CRs] at h ⊢
  simp only [flatDs, Bool.and_eq_true] at hf
  obtain ⟨v1, v2, e, h1, h2⟩ := h
  exact ⟨v1, v2, e, flat_CR d v1 hf.1 h1, flat_CRs ds v2 hf.2 h2⟩
end
theorem flat_VR1 {w w' : World} {X X' : Nat → Prop} {d : D} {v : Value} (hf : flatD d = true) (h : VR1 w X d v) : VR1 w' X' d v := by
 cases d with
 | arr k n l => exact h
 | st fs => obtain ⟨cs, e, hc⟩ := h; exact ⟨cs, e, flat_CRs fs cs (by simpa [flatD] using hf) hc⟩
 | val x => exact flat_CR (w := w) (X := X) _ _ hf h
 | ints k l => simp [flatD] at hf
 | slc sz xs => simp [flatD] at hf
 | tup ds => exact flat_CR (w := w) (X := X) _ _ hf h
 | str l => exact flat_CR (w := w) (X := X) _ _ hf h
 | ref x => simp [flatD] at hf
 | clo f xs => simp [flatD] at hf
theorem flat_VR {w w' : World} {X X' : Nat → Prop} {d : D} {v : Value} (hf : flatD d = true) (h : VR w X d v) : VR w' X' d v := by
 by_cases ht : d.isTup = true
 ·cases d <;> first | cases ht | skip
  rename_i ds
  obtain ⟨vs, e, hall⟩ := h
  refine ⟨vs, e, ?_⟩
  have hf' : flatDs ds = true := by simpa [flatD] using hf
  clear e hf
  induction hall with
  | nil => exact .nil
  | cons h1 _ ih =>
   simp only [flatDs, Bool.and_eq_true] at hf'
   exact .cons (flat_VR1 hf'.1 h1) (ih hf'.2)
 ·exact (flat_VR1 hf (VR.one h (by simpa using ht))).up
def Meets (P : Program) (f : FuncId) (s : Spec) : Prop :=
 ∀ ds, s.pre ds → (s.flat = true → flatD (s.f ds) = true) ∧ ∀ (X : Nat → Prop) (w : World) (vs : List Value), GW w X → All2 (VR w (fun β => X β ∧ β < w.heap.size)) ds vs →
  UponCall P f vs.toArray w fun v w' => Grow w w' ∧ VR w' (fun β => (X β ∨ w.heap.size ≤ β) ∧ β < w'.heap.size) (s.f ds) v
def MeetsF (P : Program) (f : FuncId) (s : Spec) : Prop :=
 ∀ ds, s.pre ds → ∀ (X : Nat → Prop) (w : World) (vs : List Value), GW w X → All2 (VR w (fun β => X β ∧ β < w.heap.size)) ds vs →
  UponCall P f vs.toArray w fun v w' => Grow w w' ∧ VR w' (fun β => w.heap.size ≤ β ∧ β < w'.heap.size) (s.f ds) v
def MeetsIo (P : Program) (f : FuncId) (s : Spec) : Prop :=
 ∀ x ds, s.pre (x :: ds) → ∀ (X : Nat → Prop) (w : World) (vs : List Value) (β : Nat) (cs : List Value) (e : TypeId), GW w X → (∀ g d, lookG gls g = some d → g ≠ β) →
  w.heap[β]? = some (.cells (List.toArray cs) e (0, 0)) → CR w (fun γ => X γ ∧ γ < w.heap.size ∧ γ ≠ β) x cs → All2 (VR w (fun γ => X γ ∧ γ < w.heap.size ∧ γ ≠ β)) ds vs →
  UponCall P f (Value.pointer (some ⟨β, 0, none⟩) :: vs).toArray w fun v w' => Frm (· = β) w w' ∧ ∃ r x' cs' e', s.f (x :: ds) = .tup [r, x'] ∧ sk x' = sk x ∧ w'.heap[β]? = some (.cells (List.toArray cs') e' (0, 0)) ∧
   CR w' (fun γ => (X γ ∨ w.heap.size ≤ γ) ∧ γ < w'.heap.size ∧ γ ≠ β) x' cs' ∧ VR w' (fun γ => (X γ ∨ w.heap.size ≤ γ) ∧ γ < w'.heap.size ∧ γ ≠ β) r v
def MeetsNew (P : Program) (f : FuncId) (s : Spec) : Prop :=
 ∀ ds, s.pre ds → ∀ (X : Nat → Prop) (w : World) (vs : List Value), GW w X → All2 (VR w (fun β => X β ∧ β < w.heap.size)) ds vs →
  UponCall P f vs.toArray w fun v w' => Grow w w' ∧ ∃ x rs β cs e us, s.f ds = .tup (x :: rs) ∧ w.heap.size ≤ β ∧ w'.heap[β]? = some (.cells (List.toArray cs) e (0, 0)) ∧
   CR w' (fun γ => (X γ ∨ w.heap.size ≤ γ) ∧ γ < w'.heap.size ∧ γ ≠ β) x cs ∧ All2 (VR w' (fun γ => (X γ ∨ w.heap.size ≤ γ) ∧ γ < w'.heap.size ∧ γ ≠ β)) rs us ∧
   v = (match rs with | [] => Value.pointer (some ⟨β, 0, none⟩) | _ => .tuple (Value.pointer (some ⟨β, 0, none⟩) :: us).toArray)
def MeetsRw (P : Program) (f : FuncId) (s : Spec) (e : TypeId) : Prop :=
 ∀ ds, s.pre ds → ∀ (X : Nat → Prop) (w : World) (vs : List Value), GW w X → All2 (VR w (fun β => X β ∧ β < w.heap.size)) ds vs →
  UponCall P f vs.toArray w fun v w' => Grow w w' ∧ ∃ x rs sz n cs u us, s.f ds = .tup (x :: rs) ∧ w'.ownsRow 0 e sz u n cs ∧ (∀ g, u.ownBlock = some g → w.heap.size ≤ g) ∧
   RowC w' (fun γ => (X γ ∨ w.heap.size ≤ γ) ∧ γ < w'.heap.size ∧ u.ownBlock ≠ some γ) x sz n cs ∧ All2 (VR w' (fun γ => (X γ ∨ w.heap.size ≤ γ) ∧ γ < w'.heap.size ∧ u.ownBlock ≠ some γ)) rs us ∧
   v = (match rs with | [] => u | _ => .tuple (u :: us).toArray)
def MeetsIoL (P : Program) (f : FuncId) (s : Spec) (i : Nat) (e : TypeId) : Prop :=
 ∀ fs ds, s.pre (.st fs :: ds) → i < fs.length → sk (fs.getD i default) = .one → ∀ (X : Nat → Prop) (w : World) (vs : List Value) (β : Nat) (cs : List Value) (et : TypeId) (u : Value) (sz n : Nat) (rcs : List Value), GW w X →
  (∀ g d, lookG gls g = some d → g ≠ β ∧ u.ownBlock ≠ some g) → u.ownBlock ≠ some β → isCell u = true →
  w.heap[β]? = some (.cells (List.toArray cs) et (0, 0)) → CR w (fun γ => X γ ∧ γ < w.heap.size ∧ γ ≠ β ∧ u.ownBlock ≠ some γ) (.st (fs.set i (.val u))) cs →
  w.ownsRow 0 e sz u n rcs → RowC w (fun γ => X γ ∧ γ < w.heap.size ∧ γ ≠ β ∧ u.ownBlock ≠ some γ) (fs.getD i default) sz n rcs →
  All2 (VR w (fun γ => X γ ∧ γ < w.heap.size ∧ γ ≠ β ∧ u.ownBlock ≠ some γ)) ds vs →
  UponCall P f (Value.pointer (some ⟨β, 0, none⟩) :: vs).toArray w fun v w' => Frm (fun k => k = β ∨ u.ownBlock = some k) w w' ∧ ∃ r fs' u' cs' et' sz' n' rcs', s.f (.st fs :: ds) = .tup [r, .st fs'] ∧
   sk (.st fs') = sk (.st fs) ∧ isCell u' = true ∧ w'.heap[β]? = some (.cells (List.toArray cs') et' (0, 0)) ∧ u'.ownBlock ≠ some β ∧ (∀ g, u'.ownBlock = some g → u.ownBlock = some g ∨ w.heap.size ≤ g) ∧
   CR w' (fun γ => (X γ ∨ w.heap.size ≤ γ) ∧ γ < w'.heap.size ∧ γ ≠ β ∧ u'.ownBlock ≠ some γ) (.st (fs'.set i (.val u'))) cs' ∧
   w'.ownsRow 0 e sz' u' n' rcs' ∧ RowC w' (fun γ => (X γ ∨ w.heap.size ≤ γ) ∧ γ < w'.heap.size ∧ γ ≠ β ∧ u'.ownBlock ≠ some γ) (fs'.getD i default) sz' n' rcs' ∧
   VR w' (fun γ => (X γ ∨ w.heap.size ≤ γ) ∧ γ < w'.heap.size ∧ γ ≠ β ∧ u'.ownBlock ≠ some γ) r v
def MeetsP (P : Program) (f : FuncId) (s : Spec) : Prop := match lnkF s.ps with
 | some (i, e) => MeetsIoL P f s i e
 | none => bif isIo s then MeetsIo P f s else match rwE s.ps with
  | some e => MeetsRw P f s e
  | none => MeetsNew P f s
def MeetsQ (P : Program) (f : FuncId) (s : Spec) : Prop := bif ioFlag s then MeetsP P f s else bif isFresh s then MeetsF P f s else Meets P f s
def CtxOk (P : Program) (C : Ctx) : Prop := TabOk P C.tab ∧ ∀ f s, C.G f = some s → MeetsQ P f s
section
variable {P : Program} {tab : Tab} {w0 : World} {F : Env} {σ : Sg} {s : St} {a : Act} {w : World} {o : Oper}
theorem all_toD (r : Rel w0 F σ s a w) : ∀ (avs : List AV) (vs : List Value), All2 (AR σ s.M w (Xs σ s.M w)) avs vs → ∀ (ts : List TypeId) (ds : List D), mapToD s.M tab avs ts = some ds →
  All2 (VR w (fun β => β < w.heap.size)) ds vs ∧ (allData avs = true → All2 (VR w (Xs σ s.M w)) ds vs)
 | _, _, .nil, ts, ds, h => by
  simp [mapToD] at h
  subst h
  exact ⟨.nil, fun _ => .nil⟩
 | _, _, .cons (a := y) (b := v) (as := avs) (bs := vs) hy hall, ts, ds, h => by
  simp only [mapToD] at h
  split at h
  ·cases h
  ·rename_i d hd
   split at h
   ·cases h
   ·rename_i ds' hds
    obtain rfl := Option.some.inj h
    have ih := all_toD r avs vs hall ts.tail ds' hds
    have hx := toD_sound r hy hd
    have cast : ∀ {X : Nat → Prop}, VR w X d v → VR w X (castD tab (ts.headD 0) d) v := fun {X} h => by
     by_cases ht : d.isTup = false
     ·exact (castD_sound (VR.one h ht)).up
     ·cases d <;> first | exact absurd rfl ht | exact h
    refine ⟨.cons (cast hx.1) ih.1, fun hall => ?_⟩
    cases y with
    | d y =>
     simp only [allData] at hall
     exact .cons (cast (hx.2 ⟨y, rfl⟩)) (ih.2 hall)
    | dat y =>
     simp only [allData] at hall
     obtain rfl := Option.some.inj hd
     exact .cons (cast (reref_sound hy)) (ih.2 hall)
    | _ => simp [allData] at hall
theorem all2_evs (r : Rel w0 F σ s a w) : ∀ (xs : List Operand), All2 (AR σ s.M w (Xs σ s.M w)) (xs.map (evA s.T)) (xs.map a.eval)
 | [] => .nil
 | x :: xs => .cons (ev_sound r x) (all2_evs r xs)
theorem all2_caps {X : Nat → Prop} {M : Mem} {σ : Sg} : ∀ {xs : List D} {ps : List Value}, All2 (VR w X) xs ps → All2 (AR σ M w X) (xs.map .d) ps
 | _, _, .nil => .nil
 | _, _, .cons h k => .cons h (all2_caps k)
theorem all2_app {α β : Type} {R : α → β → Prop} : ∀ {l m : List α} {l' m' : List β}, All2 R l l' → All2 R m m' → All2 R (l ++ m) (l' ++ m')
 | _, _, _, _, .nil, k => k
 | _, _, _, _, .cons h t, k => .cons h (all2_app t k)
theorem er_all2 {X : Nat → Prop} : ∀ (xs : List D) (ps : List Value), ER w X 1 xs ps → (∀ x ∈ xs, x.isAgg = false) → All2 (VR w X) xs ps
 | [], ps, h, _ => by
  simp only [ER] at h
  subst h
  exact .nil
 | x :: xs, ps, h, ha => by
  simp only [ER] at h
  obtain ⟨v1, v2, rfl, hl, h1, h2⟩ := h
  match v1, hl with
  | [v], _ => exact .cons (VR1.up (VR1.of_cell h1 (ha x (by simp)))) (er_all2 xs v2 h2 fun y hy => ha y (by simp [hy]))
theorem fnOf_eval (r : Rel w0 F σ s a w) {x : Operand} {f : FuncId} {xs : List D} (h : fnOf x (evA s.T x) = some (f, xs)) : ∃ ps : List Value, a.eval x = .func (.func f) #[] ps.toArray ∧ All2 (VR w (Xs σ s.M w)) xs ps := by
 have main : ∀ v, evA s.T x = v → (match v with
  | .d (.val (.func (.func f) a b)) => bif Nat.beq a.size 0 && Nat.beq b.size 0 then some (f, []) else none
  | .d (.clo f xs) => some (f, xs)
  | _ => none) = some (f, xs) → ∃ ps : List Value, a.eval x = .func (.func f) #[] ps.toArray ∧ All2 (VR w (Xs σ s.M w)) xs ps := by
  intro v hv h
  split at h
  ·rename_i g p q
   have hx := ev_sound r x
   rw [hv] at hx
   have hx : a.eval x = .func (.func g) p q := (show a.eval x = Value.func (Fn.func g) p q ∧ isCell (Value.func (Fn.func g) p q) = true by simpa [AR, VR, VR1, CR] using hx).1
   cases hb : (Nat.beq p.size 0 && Nat.beq q.size 0) <;> rw [hb] at h
   ·cases h
   ·simp only [cond_true, Option.some.injEq, Prod.mk.injEq] at h
    obtain ⟨rfl, rfl⟩ := h
    simp only [Bool.and_eq_true] at hb
    refine ⟨[], ?_, .nil⟩
    rw [hx, Array.eq_empty_of_size_eq_zero (Nat.eq_of_beq_eq_true hb.1), Array.eq_empty_of_size_eq_zero (Nat.eq_of_beq_eq_true hb.2)]
  ·rename_i g ys
   simp only [Option.some.injEq, Prod.mk.injEq] at h
   obtain ⟨rfl, rfl⟩ := h
   have hx := ev_sound r x
   rw [hv] at hx
   obtain ⟨ps, e, he, ha⟩ := (hx : CR w (Xs σ s.M w) (.clo g ys) [a.eval x])
   simp only [List.cons.injEq, and_true] at e
   exact ⟨ps, e, er_all2 ys ps he ha⟩
  ·cases h
 unfold fnOf at h
 split at h
 ·simp only [Option.some.injEq, Prod.mk.injEq] at h
  obtain ⟨rfl, rfl⟩ := h
  exact ⟨[], rfl, .nil⟩
 ·exact main _ rfl h
theorem call_sound {C : Ctx} (K : CtxOk P C) (r : Rel w0 F σ s a w) {c : Call} {f : FuncId} {x : Operand} {xs : List D} {ps : List Value} (ho : o.op = .call c) (hcal : c.callee = .value x) (hev : a.eval x = .func (.func f) #[] ps.toArray) (hps : All2 (VR w (Xs σ s.M w)) xs ps)
  (hc : (aCall C f (c.args.toList.map (evA s.T) ++ xs.map .d) s.M).c) : Good P w0 F o s a w (aCall C f (c.args.toList.map (evA s.T) ++ xs.map .d) s.M) := by
 have hav := all2_app (all2_evs r c.args.toList) (all2_caps (M := s.M) (σ := σ) hps)
 unfold aCall at hc ⊢
 split at hc
 ·exact hc.elim
 ·rename_i sp hsp
  have KM := K.2 f sp hsp
  unfold MeetsQ at KM
  cases hio : ioFlag sp with
  | true =>
   simp only [hio, cond_true] at hc
   exact hc.elim
  | false =>
  simp only [hio, cond_false] at hc KM ⊢
  by_cases hfa : (loose sp || allData (c.args.toList.map (evA s.T) ++ xs.map .d)) = true
  ·simp only [hfa, cond_true] at hc ⊢
   split at hc
   ·exact hc.elim
   ·rename_i ds hds
    obtain ⟨h1, h2⟩ := all_toD r _ _ hav sp.ps ds hds
    have hrun : (execOp a.eval o).run P w = (callFunc f (c.args.toList.map a.eval ++ ps).toArray).run P w := by
     unfold execOp
     simp only [ho, resolve, hcal, hev, Deferred.ofValue, Sem.run_bind, Sem.run_pure, Result.andThen_ok, invoke]
     congr 2
     apply Array.ext'
     simp
    have conc : UponCall P f (c.args.toList.map a.eval ++ ps).toArray w fun v w' => Grow w w' ∧ VR w' (Xs σ s.M w') (sp.f ds) v := by
     have mono : ∀ {R R' : Value → World → Prop}, (∀ v w', R v w' → R' v w') → UponCall P f (c.args.toList.map a.eval ++ ps).toArray w R → UponCall P f (c.args.toList.map a.eval ++ ps).toArray w R' := by
      intro R R' h hu
      unfold UponCall at hu ⊢
      split at hu
      ·exact h _ _ hu
      ·exact hu.mono fun e w' ⟨v, he, hr⟩ => ⟨v, he, h _ _ hr⟩
      ·exact hu.elim
     have newX : ∀ {w' : World} {β : Nat}, w.heap.size ≤ β → β < w'.heap.size → Xs σ s.M w' β := fun {w' β} hnew hlt =>
      ⟨hlt, r.okn.1 β (Nat.le_trans r.frm.size hnew), fun b x hb hσ => by have := r.blk_lt hb hσ; omega⟩
     cases hfr : isFresh sp with
     | true =>
      simp only [hfr, cond_true] at KM
      refine mono ?_ (KM ds hc (fun _ => True) w _ (r.gw.mono fun _ _ _ => trivial) (h1.mono fun d v hv => VR.mono (fun β hβ => ⟨⟨trivial, hβ⟩, rfl⟩) d v hv))
      rintro v w' ⟨hg, hv⟩
      exact ⟨hg, VR.mono (fun β hβ => ⟨newX hβ.1 hβ.2, rfl⟩) _ _ hv⟩
     | false =>
     simp only [hfr, cond_false] at KM
     have M := KM ds hc
     cases hall : allData (c.args.toList.map (evA s.T) ++ xs.map .d) with
     | true =>
      refine mono ?_ (M.2 (Xs σ s.M w) w _ r.gw ((h2 hall).mono fun d v hv => VR.mono (fun β hβ => ⟨⟨hβ, hβ.1⟩, rfl⟩) d v hv))
      rintro v w' ⟨hg, hv⟩
      refine ⟨hg, VR.mono (fun β hβ => ⟨?_, rfl⟩) _ _ hv⟩
      rcases hβ.1 with hX | hnew
      ·exact ((Xs.grow hg) β hX).1
      ·refine ⟨hβ.2, r.okn.1 β (Nat.le_trans r.frm.size hnew), fun b x hb hσ => ?_⟩
       have : β < w.heap.size := r.blk_lt hb hσ
       omega
     | false =>
      rw [hall, Bool.or_false] at hfa
      unfold loose at hfa
      rw [hfr, Bool.or_false] at hfa
      refine mono ?_ (M.2 (fun _ => True) w _ (r.gw.mono fun _ _ _ => trivial) (h1.mono fun d v hv => VR.mono (fun β hβ => ⟨⟨trivial, hβ⟩, rfl⟩) d v hv))
      rintro v w' ⟨hg, hv⟩
      exact ⟨hg, flat_VR (M.1 hfa) hv⟩
    intro Q
    unfold Oper.wp
    rw [hrun]
    unfold UponCall at conc
    generalize (callFunc f (c.args.toList.map a.eval ++ ps).toArray).run P w = res at conc
    cases res with
    | halt x w' => exact conc.elim
    | ok nx w' =>
     cases nx <;> first
      | exact conc.elim
      | exact ⟨σ, (r.grow conc.1).put o.dst conc.2⟩
      | skip
     rename_i g args
     refine Calls.mono conc fun e w'' ⟨v, he, hg, hv⟩ => ?_
     subst he
     exact ⟨σ, (r.grow hg).put o.dst hv⟩
  ·simp only [Bool.not_eq_true] at hfa
   simp only [hfa, cond_false] at hc
   exact hc.elim
theorem foldl_push (l : List Int) : ∀ (acc : List UInt8), l.foldl (fun (r : ByteArray) n => r.push (UInt8.ofNat n.toNat)) ⟨acc.toArray⟩ = ⟨(acc ++ l.map fun n => UInt8.ofNat n.toNat).toArray⟩ := by
 induction l with
 | nil => intro acc; simp
 | cons x l ih =>
  intro acc
  simp only [List.foldl_cons]
  have : (⟨acc.toArray⟩ : ByteArray).push (UInt8.ofNat x.toNat) = ⟨(acc ++ [UInt8.ofNat x.toNat]).toArray⟩ := by
   unfold ByteArray.push; simp
  rw [this, ih]
  simp
theorem conv_sound (T : TabOk P tab) (r : Rel w0 F σ s a w) {t u : TypeId} {x : Operand} (ho : o.op = .convert t u x) (hc : (aConv tab t u (evA s.T x) s.M).c) : Good P w0 F o s a w (aConv tab t u (evA s.T x) s.M) := by
 have hx := ev_sound r x
 have run : ∀ v w', (convert t u (a.eval x)).run P w = .ok v w' → (execOp a.eval o).run P w = .ok (.value v) w' := fun v w' h => by
  unfold execOp
  simp only [ho, Sem.run_bind, h, Result.andThen_ok, Sem.run_pure]
 unfold aConv at hc ⊢
 split at hc
 ·rename_i k hk
  have hu := (T u (tg_lt' (by rw [hk]; simp))).tint _ hk
  split at hc
  ·rename_i k' k'' n hk' heqx
   have ht := (T t (tg_lt' (by rw [hk']; simp))).tint _ hk'
   rw [heqx] at hx
   have ex := ar_int hx
   refine good_c (r := r) (v := .int k (k.wrap n)) (run _ _ ?_) (vr_of_int w (Xs σ s.M w) _ _)
   rw [ex]
   simp [convert, run_underlying ht, run_underlying hu, Conv.intToInt]
  ·exact hc.elim
 ·rename_i hk
  have hu := (T u (tg_lt' (by rw [hk]; simp))).tstr hk
  split at hc
  ·rename_i e hte
   have ht := (T t (tg_lt' (by rw [hte]; simp))).tslice _ hte
   split at hc
   ·rename_i hee
    have he := (T e (tg_lt' (by rw [hee]; simp))).tint _ hee
    split at hc
    ·rename_i l hd
     have hb : isBytes l := hc
     obtain ⟨ad, cp, hv, hlc, hat⟩ := (toD_sound r hx hd).1
     simp only [List.cons.injEq, and_true] at hv
     refine good_c (r := r) (v := .string (bstr l)) (run _ _ ?_) ⟨rfl, hb⟩
     rw [hv]
     cases ad with
     | none =>
      have hl0 : l = [] := by
       rcases hat with h | ⟨β, o', h, _⟩
       ·exact List.map_eq_nil_iff.1 h
       ·cases h
      subst hl0
      simp [convert, run_underlying ht, run_underlying hu, run_underlying he, Conv.bytesToString]
      rfl
     | some ad =>
      have hl : (loadCells ad l.length).run P w = .ok (l.map (Value.int .u8)).toArray w := by
       have := run_loadCells_list (P := P) w ad (l.map (Value.int .u8)) (fun j v hj => by
        rcases hat with h | ⟨β, o', h, hX, hcells⟩
        ·rw [h] at hj; simp at hj
        ·obtain rfl := Option.some.inj h
         rw [addr_add_none]
         exact hcells j v hj)
       rwa [List.length_map] at this
      have h2 := run_bytesToString (P := P) w ad l.length cp l hl
      have h3 := foldl_push l []
      simp only [List.nil_append] at h3
      rw [show ByteArray.empty = (⟨([] : List UInt8).toArray⟩ : ByteArray) from rfl, h3] at h2
      simp only [convert, Sem.run_bind, run_underlying ht, run_underlying hu, Result.andThen_ok, run_underlying he]
      exact h2
    ·rename_i hd
     have hv := vr_val (toD_sound r hx hd).1
     refine good_c (r := r) (v := .string (bstr [])) (run _ _ ?_) ⟨rfl, fun z hz => by cases hz⟩
     rw [hv]
     simp [convert, run_underlying ht, run_underlying hu, run_underlying he, Conv.bytesToString]
     rfl
    ·exact hc.elim
   ·exact hc.elim
  ·rename_i hte
   have ht := (T t (tg_lt' (by rw [hte]; simp))).tstr hte
   split at hc
   ·rename_i l heqx
    rw [heqx] at hx
    obtain ⟨ex, hb⟩ := ar_str hx
    refine good_c (r := r) (v := .string (bstr l)) (run _ _ ?_) ⟨rfl, hb⟩
    rw [ex]
    simp [convert, run_underlying ht, run_underlying hu]
   ·exact hc.elim
  ·exact hc.elim
 ·rename_i e hk
  have hu := (T u (tg_lt' (by rw [hk]; simp))).tslice _ hk
  split at hc
  ·rename_i hee hte
   have he := (T e (tg_lt' (by rw [hee]; simp))).tint _ hee
   have ht := (T t (tg_lt' (by rw [hte]; simp))).tstr hte
   split at hc
   ·rename_i l heqx
    rw [heqx] at hx
    obtain ⟨ex, hb⟩ := ar_str hx
    have hg : Grow w (Lib.bytesWorld w e (bstr l)) := ⟨by first | (simp [Lib.bytesWorld, World.freeze]; done) | (simp [Lib.bytesWorld, World.freeze]; rfl), by first | (simp [Lib.bytesWorld, World.freeze]; done) | (simp [Lib.bytesWorld, World.freeze]; rfl), by first | (simp [Lib.bytesWorld, World.freeze]; done) | (simp [Lib.bytesWorld, World.freeze]; rfl), by rw [Lib.bytesWorld_size]; omega, fun k hk => Lib.bytesWorld_at_old w e (bstr l) k hk⟩
    have hrun := run _ _ (by rw [ex]; exact Lib.run_convert_string_bytes (P := P) w t u e (bstr l) ht hu he)
    intro Q
    refine good_grow (P := P) (o := o) r hrun hg ?_ Q
    refine ⟨some ⟨w.heap.size, 0, none⟩, grownCap w (bstr l).size 0 e, by rw [bstr_size], ?_, .inr ⟨w.heap.size, 0, rfl, ⟨by rw [Lib.bytesWorld_size]; omega, r.okn.1 _ r.frm.size, fun b x hbx hσ => ?_⟩, fun j v hj => ?_⟩⟩
    ·have := grownCap_ge w (bstr l).size 0 e; rw [bstr_size] at this ⊢; exact this
    ·have := r.blk_lt hbx hσ
     omega
    ·have hj' : j < l.length := by
      rcases Nat.lt_or_ge j l.length with h | h
      ·exact h
      ·rw [List.getElem?_eq_none (by simpa using h)] at hj; cases hj
     have := Lib.bytesWorld_cell w e (bstr l) j (by rw [bstr_size]; exact hj')
     rw [Nat.zero_add, this]
     simp only [List.getElem?_map, List.getElem?_eq_getElem hj', Option.map_some, Option.some.injEq] at hj
     rw [← hj]
     have hbb := hb _ (List.getElem_mem hj')
     have e2 : (bstr l).data.toList.getD j 0 = UInt8.ofNat (l[j]).toNat := by
      unfold bstr
      simp [List.getElem?_eq_getElem hj']
     rw [e2, byte_back hbb]
   ·exact hc.elim
  ·exact hc.elim
 ·exact hc.elim
end
end Go.Vg
namespace Go.Vg
open Go Go.RowKit
theorem fold_set (off : Nat) : ∀ (vs : List Value) (k : Nat) (cs : Array Value), off + k + vs.length ≤ cs.size →
  ((vs.zipIdx k).foldl (fun (cs : Array Value) (p : Value × Nat) => cs.setIfInBounds (off + p.2) p.1) cs).toList = cs.toList.take (off + k) ++ vs ++ cs.toList.drop (off + k + vs.length)
 | [], k, cs, h => by simp
 | v :: vs, k, cs, h => by
  simp only [List.length_cons] at h
  have ih := fold_set off vs (k + 1) (cs.setIfInBounds (off + k) v) (by simp; omega)
  have st := list_seg_step cs.toList (off + k) v vs (by simp; omega)
  simp only [List.zipIdx_cons, List.foldl_cons, ih, Array.toList_setIfInBounds, List.length_cons]
  exact st
theorem fill_cons {place : Nat → Option (Nat × Nat)} {i off size : Nat} {v : Value} {rest : List (Nat × Value)} {c1 c2 c3 : List Value} {cs : List Value} (hp : place i = some (off, size)) (hs : v.cells.size = size)
  (hc : cs = c1 ++ c2 ++ c3) (h1 : c1.length = off) (h2 : c2.length = size) :
  Instr.fill place cs.toArray ((i, v) :: rest) = Instr.fill place (c1 ++ v.cells.toList ++ c3).toArray rest := by
 subst hc
 have hle : ¬ (off + v.cells.size > (c1 ++ c2 ++ c3).toArray.size) := by simp; omega
 simp only [Instr.fill, hp, hs, ne_eq, not_true_eq_false, decide_false, Bool.false_or, decide_eq_true_eq]
 rw [← hs, if_neg hle]
 congr 1
 have := fold_set off v.cells.toList 0 (c1 ++ c2 ++ c3).toArray (by simp; omega)
 apply Array.ext'
 rw [Nat.add_zero] at this
 have e : v.cells.zipIdx.toList = v.cells.toList.zipIdx 0 := by simp
 rw [← Array.foldl_toList, e, this]
 simp only [Array.length_toList]
 rw [List.append_assoc c1 c2 c3, List.take_left' h1, ← List.drop_drop, List.drop_left' h1, List.drop_left' (by omega)]
section
variable {P : Program} {tab : Tab} {w0 : World} {F : Env} {σ : Sg} {s : St} {a : Act} {w : World} {o : Oper}
theorem stP_cases {z x : D} {i : Nat} (h : stP z [i] x) : (∃ k n l, z = .arr k n l ∧ i < n ∧ isIntK k x = true) ∨ ∃ fs, z = .st fs ∧ i < fs.length ∧ sk x = sk (fs.getD i default) := by
 cases z with
 | arr k n l => exact .inl ⟨k, n, l, rfl, h.1, h.2.2⟩
 | st fs => exact .inr ⟨fs, rfl, h.1, h.2⟩
 | _ => exact h.elim
theorem okP_nil (x : D) : okP x [] := by cases x <;> exact True.intro
theorem stP_one {z x : D} {i : Nat} (h : stP z [i] x) : okP z [i] ∧ (∀ vs w X us, CR w X z vs → CR w X x us → us.length = (subS (sk z) [i]).size) := by
 rcases stP_cases h with ⟨k, n, l, rfl, h1, h2⟩ | ⟨fs, rfl, h1, h2⟩
 ·refine ⟨⟨h1, rfl⟩, fun vs w X us _ hx => ?_⟩
  rw [isIntK_eq h2] at hx
  simp only [CR] at hx
  simp [hx.1, sk, subS, Sk.size]
 ·refine ⟨⟨h1, okP_nil _⟩, fun vs w X us _ hx => ?_⟩
  rw [← CR.sklen hx, h2]
  simp only [sk, subS]
  rw [sks_getD fs i h1]
theorem parts_sound (r : Rel w0 F σ s a w) {place : Nat → Option (Nat × Nat)} {ty : Nat → TypeId} : ∀ (ps : List (Nat × Operand)) (z : D) (cs : List Value), CR w (Xs σ s.M w) z cs →
  (∀ i x, stP z [i] x → place i = some (offS (sk z) [i], (subS (sk z) [i]).size)) → (aParts tab ty z (ps.map fun p => (p.1, evA s.T p.2))).1 →
  ∃ cs', Instr.fill place cs.toArray (ps.map fun p => (p.1, a.eval p.2)) = some cs'.toArray ∧ CR w (Xs σ s.M w) (aParts tab ty z (ps.map fun p => (p.1, evA s.T p.2))).2 cs'
 | [], z, cs, hc, _, _ => ⟨cs, by simp [Instr.fill], by simpa [aParts] using hc⟩
 | (i, x) :: ps, z, cs, hc, hpl, h => by
  have hx := ev_sound r x
  simp only [List.map_cons] at h ⊢
  obtain ⟨y, hev⟩ : ∃ y, evA s.T x = .d y := by
   cases hev : evA s.T x with
   | d y => exact ⟨y, rfl⟩
   | _ => rw [hev] at h; exact h.elim
  rw [hev] at h hx ⊢
  simp only [aParts] at h ⊢
  obtain ⟨htup, hst, hrest⟩ := h
  have hy : VR1 w (Xs σ s.M w) (castD tab (ty i) y) (a.eval x) := castD_sound (VR.one hx htup)
  have hus := VR1.cells hy
  obtain ⟨v1, v2, v3, rfl, hl, hll, hnew⟩ := setP_reads [i] z _ cs _ hc hst hus
  have hsz := (stP_one hst).2 _ w (Xs σ s.M w) _ hc hus
  have ih := parts_sound (place := place) (ty := ty) r ps (setP z [i] (castD tab (ty i) y)) _ hnew (fun j x' hx' => by
   rw [sk_setP [i] z _ hst]
   have hok : okP z [j] := by
    have := (stP_one hx').1
    rw [okP_iff, sk_setP [i] z _ hst, ← okP_iff] at this
    exact this
   rcases stP_cases hst with ⟨k, n, l, rfl, _, _⟩ | ⟨fs, rfl, _, _⟩
   ·exact hpl j (.val (.int k 0)) ⟨hok.1, rfl, by simp [isIntK]⟩
   ·exact hpl j (fs.getD j default) ⟨hok.1, rfl⟩) hrest
  obtain ⟨cs', hf, hcr⟩ := ih
  refine ⟨cs', ?_, hcr⟩
  rw [fill_cons (hpl i _ hst) (by rw [← hsz]; simp) rfl hl (by rw [hll, ← hsz]), hf]
theorem parts_agg {ty : Nat → TypeId} : ∀ (ps : List (Nat × AV)) (z : D), z.isAgg = true → (aParts tab ty z ps).2.isAgg = true
 | [], z, h => h
 | (i, .d x) :: ps, z, h => by
  simp only [aParts]
  exact parts_agg ps _ (by cases z <;> first | rfl | exact h)
 | (_, .any) :: _, z, h => h
 | (_, .ptr _ _) :: _, z, h => h
 | (_, .own _ _ _ _ _) :: _, z, h => h
 | (_, .row _) :: _, z, h => h
 | (_, .dat _) :: _, z, h => h
 | (_, .rpt _ _ _) :: _, z, h => h
 | (_, .tpl _ _) :: _, z, h => h
 | (_, .tpr _ _) :: _, z, h => h
 | (_, .lp _ _) :: _, z, h => h
 | (_, .sub _ _ _ _) :: _, z, h => h
 | (_, .bq _ _) :: _, z, h => h
theorem subs_sound (r : Rel w0 F σ s a w) {place : Nat → Option (Nat × Nat)} {k : IntKind} {m n : Nat} : ∀ (ps : List (Nat × Operand)) (l : List Int), l.length = n →
  (∀ i, i * m + m ≤ n → place i = some (i * m, m)) → (aSubs k m n l (ps.map fun p => (p.1, evA s.T p.2))).1 →
  Instr.fill place (l.map (Value.int k)).toArray (ps.map fun p => (p.1, a.eval p.2)) = some (((aSubs k m n l (ps.map fun p => (p.1, evA s.T p.2))).2).map (Value.int k)).toArray ∧ ((aSubs k m n l (ps.map fun p => (p.1, evA s.T p.2))).2).length = n
 | [], l, hl, _, _ => ⟨by simp [Instr.fill, aSubs], by simpa [aSubs] using hl⟩
 | (i, x) :: ps, l, hl, hpl, h => by
  have hx := ev_sound r x
  simp only [List.map_cons] at h ⊢
  obtain ⟨k', m', y, hev⟩ : ∃ k' m' y, evA s.T x = .d (.arr k' m' y) := by
   cases hev : evA s.T x with
   | d z =>
    cases z with
    | arr k' m' y => exact ⟨k', m', y, rfl⟩
    | _ => rw [hev] at h; exact h.elim
   | _ => rw [hev] at h; exact h.elim
  rw [hev] at h hx ⊢
  simp only [aSubs] at h ⊢
  obtain ⟨rfl, rfl, hin, hrest⟩ := h
  obtain ⟨hy, hv⟩ := (hx : y.length = m' ∧ a.eval x = .agg (y.map (Value.int k')).toArray)
  have hcells : (a.eval x).cells = (y.map (Value.int k')).toArray := by rw [hv]; rfl
  have hlen : (spl l (i * m') m' y).length = n := by
   unfold spl
   simp only [List.length_append, List.length_take, List.length_drop]; omega
  have ih := subs_sound (place := place) r ps _ hlen hpl hrest
  refine ⟨?_, ih.2⟩
  rw [fill_cons (c1 := (l.take (i * m')).map (Value.int k')) (c2 := ((l.drop (i * m')).take m').map (Value.int k')) (c3 := (l.drop (i * m' + m')).map (Value.int k')) (hpl i hin) (by rw [hcells]; simp [hy]) ?_ (by simp only [List.length_map, List.length_take]; omega) (by simp only [List.length_map, List.length_take, List.length_drop]; omega)]
  ·rw [← ih.1, hcells]
   unfold spl
   simp
  ·rw [← List.map_append, ← List.map_append, ← List.drop_drop, List.append_assoc, List.take_append_drop, List.take_append_drop]
theorem mapM_fields (T : TabOk P tab) (fs : List Field) (h : ∀ f ∈ fs, (tg tab f.type).size ≠ 0) : fs.mapM (fun f => (P.info? f.type).map fun i => (f.offset, i.size)) = some (fs.map fun f => (f.offset, (tg tab f.type).size)) := by
 induction fs with
 | nil => rfl
 | cons f fs ih =>
  obtain ⟨i, z, hi, hsz, _⟩ := (T f.type (tg_lt (h f (by simp)))).info
  rw [List.mapM_cons, ih (fun g hg => h g (by simp [hg]))]
  simp [hi, hsz]
theorem build_sound (T : TabOk P tab) (r : Rel w0 F σ s a w) {t : TypeId} {ps : Array (Nat × Operand)} (ho : o.op = .build t ps) (hc : (aBuild tab t (ps.toList.map fun p => (p.1, evA s.T p.2)) s.M).c) :
  Good P w0 F o s a w (aBuild tab t (ps.toList.map fun p => (p.1, evA s.T p.2)) s.M) := by
 have run : ∀ cs : List Value, P.built t (ps.toList.map fun p => (p.1, a.eval p.2)) = some cs.toArray → (execOp a.eval o).run P w = .ok (.value (.agg cs.toArray)) w := fun cs h => by
  unfold execOp
  have h2 := run_build (P := P) w t (ps.map fun (i, x) => (i, a.eval x)) cs.toArray (by simpa using h)
  simp only [ho, Sem.run_bind, h2, Result.andThen_ok, Sem.run_pure]
 unfold aBuild at hc ⊢
 split at hc
 ·rename_i ts hty
  have R := T t (tg_lt' (by rw [hty]; simp))
  obtain ⟨i, zv, hi, hsz, _, hz, hzr⟩ := R.info
  obtain ⟨fa, zs, hu, hzz, hzl, hfa, hall⟩ := R.tst ts hty
  have hz0 := hzr w (Xs σ s.M w)
  have hz1 := VR1.cells hz0
  have hall' : ∀ f ∈ fa.toList, (tg tab f.type).size ≠ 0 := by
   intro f hf
   obtain ⟨j, hj, hjf⟩ := List.getElem_of_mem hf
   obtain ⟨fd, h1, h2, h3, h4, h5, h6⟩ := hall j (ts[j]'(by simpa [hfa] using hj)).1 (ts[j]'(by simpa [hfa] using hj)).2 (by rw [List.getElem?_eq_getElem])
   have : fa[j]? = some f := by rw [← Array.getElem?_toList, List.getElem?_eq_getElem hj, hjf]
   rw [this] at h1
   obtain rfl := Option.some.inj h1
   rw [h3]; exact h5
  have hmap := mapM_fields T fa.toList hall'
  obtain ⟨cs', hf, hcr⟩ := parts_sound r (place := fun x => ((fa.toList.map fun f => (f.offset, (tg tab f.type).size)).toArray[x]? : Option (Nat × Nat))) (tab := tab) (ty := fun i => (ts.getD i (0, 0)).2) ps.toList _ _ hz1 (fun j x hx => by
   rw [hzz] at hx ⊢
   have hj : j < zs.length := hx.1
   obtain ⟨fd, h1, h2, h3, h4, h5, h6⟩ := hall j (ts[j]'(by omega)).1 (ts[j]'(by omega)).2 (by rw [List.getElem?_eq_getElem])
   simp only [List.getElem?_toArray, List.getElem?_map, Array.getElem?_toList, h1, Option.map_some, Option.some.injEq, Prod.mk.injEq]
   refine ⟨?_, ?_⟩
   ·rw [h2, h4]; simp [sk, offS, offS_nil]
   ·rw [h3, ← h6]
    simp only [sk, subS]
    rw [sks_getD zs j hj]) hc
  refine good_c (r := r) (run cs' ?_) (VR1.up (VR1.of_agg hcr ?_))
  ·unfold Program.built
   simp only [hi, hu, hz, hmap]
   simpa using hf
  ·exact parts_agg _ _ (by rw [hzz]; rfl)
 ·rename_i n e k m l hty hzz
  split at hc
  ·rename_i ke me le hze
   obtain ⟨hs1, hme, hc⟩ := hc
   have R := T t (tg_lt' (by rw [hty]; simp))
   obtain ⟨i, zv, hi, hsz, _, hz, hzr⟩ := R.info
   have hu := R.tarr _ _ hty
   have hz0 := hzr w (Xs σ s.M w)
   rw [hzz] at hz0
   obtain ⟨hlm, hzv⟩ := (hz0 : l.length = m ∧ zv = .agg (l.map (Value.int k)).toArray)
   obtain ⟨ie, hie, hsze⟩ : ∃ ie, P.info? e = some ie ∧ (tg tab e).size = ie.size := by
    obtain ⟨ie, ze, hie, hsze, _, _, _⟩ := (T e (tg_lt (by omega))).info
    exact ⟨ie, hie, hsze.symm⟩
   obtain ⟨hf, hln⟩ := subs_sound r (place := fun i => some (i * ie.size, ie.size)) (k := k) (m := me) (n := m) ps.toList l hlm (fun j hj => by rw [← hsze, hs1]) hc
   have hb : P.built t (ps.toList.map fun p => (p.1, a.eval p.2)) = some ((aSubs k me m l (ps.toList.map fun p => (p.1, evA s.T p.2))).2.map (Value.int k)).toArray := by
    unfold Program.built
    simp only [hi, hu, hz, hie, hzv]
    exact hf
   have hcr : CR w (Xs σ s.M w) (.arr k m (aSubs k me m l (ps.toList.map fun p => (p.1, evA s.T p.2))).2) ((aSubs k me m l (ps.toList.map fun p => (p.1, evA s.T p.2))).2.map (Value.int k)) := by
    simp only [CR, hln, true_and]
   exact good_c (r := r) (run _ hb) (VR1.up (VR1.of_agg hcr rfl))
  obtain ⟨hs1, hc⟩ := hc
  have R := T t (tg_lt' (by rw [hty]; simp))
  obtain ⟨i, zv, hi, hsz, _, hz, hzr⟩ := R.info
  have hu := R.tarr _ _ hty
  obtain ⟨ie, ze, hie, hsze, _, _, _⟩ := (T e (tg_lt (by omega))).info
  have hz0 := hzr w (Xs σ s.M w)
  rw [hzz] at hz0
  have hz1 := VR1.cells hz0
  obtain ⟨cs', hf, hcr⟩ := parts_sound r (place := fun i => some (i * ie.size, ie.size)) (tab := tab) (ty := fun _ => e) ps.toList _ _ hz1 (fun j x hx => by
   simp only [sk, offS, subS, Sk.size, hsze, hs1, Nat.mul_one]) hc
  refine good_c (r := r) (run cs' ?_) (VR1.up (VR1.of_agg hcr ?_))
  ·unfold Program.built
   simp only [hi, hu, hz, hie]
   simpa using hf
  ·exact parts_agg _ _ rfl
 ·exact hc.elim
theorem zCs_nil : ∀ (fs : List D) (cs : List Value) (i : Nat), zCs fs = some cs → i < fs.length → emptyB (fs.getD i default) = true → zCs (fs.set i (.val (.slice none 0 0))) = some cs
 | [], _, _, _, h, _ => by simp at h
 | d :: fs, cs, i, h, hi, he => by
  simp only [zCs] at h
  split at h
  ·rename_i u v hu hv
   obtain rfl := Option.some.inj h
   cases i with
   | zero =>
    simp only [List.getD_cons_zero] at he
    simp only [List.set_cons_zero, zCs, hv]
    have : u = [.slice none 0 0] := by
     cases d <;> first | cases he | skip
     ·rename_i k l
      cases l with
      | nil => exact (Option.some.inj hu).symm
      | cons _ _ => cases he
     ·rename_i sz l
      cases l with
      | nil => exact (Option.some.inj hu).symm
      | cons _ _ => cases he
    rw [this]
    rfl
   | succ i =>
    simp only [List.getD_cons_succ] at he
    simp only [List.set_cons_succ, zCs, hu, zCs_nil fs v i hv (by simpa using hi) he]
  ·cases h
theorem sks_nil : ∀ (zs : List D) (i : Nat), i < zs.length → emptyB (zs.getD i default) = true → sks (zs.set i (.val (.slice none 0 0))) = sks zs
 | [], _, h, _ => by simp at h
 | d :: zs, 0, _, he => by
  simp only [List.getD_cons_zero] at he
  simp only [List.set_cons_zero, sks]
  congr 1
  cases d <;> first | rfl | cases he
 | d :: zs, i + 1, h, he => by
  simp only [List.getD_cons_succ] at he
  simp only [List.set_cons_succ, sks, sks_nil zs i (by simpa using h) he]
theorem buildL_sound (T : TabOk P tab) (r : Rel w0 F σ s a w) {t : TypeId} {j0 : Nat} {ps : Array (Nat × Operand)} (ho : o.op = .build t ps) (hc : (aBuildL tab t j0 (ps.toList.map fun p => (p.1, evA s.T p.2)) s.M).c) :
  Good P w0 F o s a w (aBuildL tab t j0 (ps.toList.map fun p => (p.1, evA s.T p.2)) s.M) := by
 have run : ∀ cs : List Value, P.built t (ps.toList.map fun p => (p.1, a.eval p.2)) = some cs.toArray → (execOp a.eval o).run P w = .ok (.value (.agg cs.toArray)) w := fun cs h => by
  unfold execOp
  have h2 := run_build (P := P) w t (ps.map fun (i, x) => (i, a.eval x)) cs.toArray (by simpa using h)
  simp only [ho, Sem.run_bind, h2, Result.andThen_ok, Sem.run_pure]
 unfold aBuildL at hc ⊢
 split at hc
 ·rename_i ts zs0 hty hzr0
  obtain ⟨hb0, hc⟩ := hc
  obtain ⟨hi0, hemp⟩ : j0 < zs0.length ∧ emptyB (zs0.getD j0 default) = true := by
   cases h : (Nat.blt j0 zs0.length && emptyB (zs0.getD j0 default)) with
   | false => rw [h] at hb0; exact hb0.elim
   | true =>
    simp only [Bool.and_eq_true, Nat.blt_eq] at h
    exact h
  have R := T t (tg_lt' (by rw [hty]; simp))
  obtain ⟨i, zv, hi, hsz, _, hz, hzr⟩ := R.info
  obtain ⟨fa, zs, hu, hzz, hzl, hfa, hall⟩ := R.tst ts hty
  obtain ⟨ii, z', hii, hz', hzc⟩ := R.zc
  obtain rfl : zv = z' := by
   rw [hi] at hii
   obtain rfl := Option.some.inj hii
   rw [hz] at hz'
   exact (by simpa using hz')
  rw [hzr0] at hzc
  have hz1 : CR w (Xs σ s.M w) (.st (zs0.set j0 (.val (.slice none 0 0)))) zv.cells.toList := by
   simp only [CR]
   exact zCs_CRs _ _ _ _ (zCs_nil zs0 _ j0 hzc hi0 hemp)
  obtain rfl : zs0 = zs := by rw [hzr0] at hzz; exact D.st.inj hzz
  have hsk : sks (zs0.set j0 (.val (.slice none 0 0))) = sks zs0 := sks_nil zs0 j0 hi0 hemp
  have ezs : zs0.length = zs0.length := rfl
  have hall' : ∀ f ∈ fa.toList, (tg tab f.type).size ≠ 0 := by
   intro f hf
   obtain ⟨j, hj, hjf⟩ := List.getElem_of_mem hf
   obtain ⟨fd, h1, h2, h3, h4, h5, h6⟩ := hall j (ts[j]'(by simpa [hfa] using hj)).1 (ts[j]'(by simpa [hfa] using hj)).2 (by rw [List.getElem?_eq_getElem])
   have : fa[j]? = some f := by rw [← Array.getElem?_toList, List.getElem?_eq_getElem hj, hjf]
   rw [this] at h1
   obtain rfl := Option.some.inj h1
   rw [h3]; exact h5
  have hmap := mapM_fields T fa.toList hall'
  obtain ⟨cs', hf, hcr⟩ := parts_sound r (place := fun x => ((fa.toList.map fun f => (f.offset, (tg tab f.type).size)).toArray[x]? : Option (Nat × Nat))) (tab := tab) (ty := fun i => (ts.getD i (0, 0)).2) ps.toList _ _ hz1 (fun j x hx => by
   have hj : j < zs0.length := by simpa using hx.1
   obtain ⟨fd, h1, h2, h3, h4, h5, h6⟩ := hall j (ts[j]'(by omega)).1 (ts[j]'(by omega)).2 (by rw [List.getElem?_eq_getElem])
   simp only [List.getElem?_toArray, List.getElem?_map, Array.getElem?_toList, h1, Option.map_some, Option.some.injEq, Prod.mk.injEq]
   refine ⟨?_, ?_⟩
   ·rw [h2, h4, ← hsk]; simp [sk, offS, offS_nil]
   ·rw [h3, ← h6]
    simp only [sk, subS]
    rw [hsk, sks_getD zs0 j hj]) hc
  refine good_c (r := r) (run cs' ?_) (VR1.up (VR1.of_agg hcr ?_))
  ·unfold Program.built
   simp only [hi, hu, hz, hmap]
   simpa using hf
  ·exact parts_agg _ _ rfl
 ·exact hc.elim
end
end Go.Vg
namespace Go.Vg
open Go Go.RowKit
theorem madeCells_succ (z : Array Value) (hz : 0 < z.size) (n : Nat) : (madeCells z ((n + 1) * z.size)).toList = z.toList ++ (madeCells z (n * z.size)).toList := by
 unfold madeCells
 simp only [Array.toList_map, Array.toList_range]
 rw [show (n + 1) * z.size = z.size + n * z.size from by rw [Nat.add_mul]; omega, List.range_add, List.map_append, List.map_map]
 congr 1
 ·apply List.ext_getElem
  ·simp
  ·intro i h1 h2
   simp only [List.length_map, List.length_range] at h1
   simp [Nat.mod_eq_of_lt h1, h1]
 ·apply List.map_congr_left
  intro i _
  simp
theorem ER.made {w : World} {X : Nat → Prop} {z : Array Value} {d : D} (hz : 0 < z.size) (hd : CR w X d z.toList) : ∀ n, ER w X z.size (List.replicate n d) (madeCells z (n * z.size)).toList
 | 0 => by simp [ER, madeCells]
 | n + 1 => by
  rw [List.replicate_succ, madeCells_succ z hz]
  simp only [ER]
  exact ⟨_, _, rfl, by simp, hd, ER.made hz hd n⟩
section
variable {P : Program} {tab : Tab} {w0 : World} {F : Env} {σ : Sg} {s : St} {a : Act} {w : World} {o : Oper}
theorem rb_new (r : Rel w0 F σ s a w) {b : Nat} {v : Value} {n c : Nat} (h : v = .slice (some ⟨w.heap.size, 0, none⟩) n c) : RB w0 F.F b v := by
 intro g hg
 subst h
 obtain rfl := Option.some.inj hg
 exact .inl r.frm.size
theorem new_at (r : Rel w0 F σ s a w) (cs : List Value) (e : TypeId) : At (w.alloc (.cells cs.toArray e)) (Xs σ s.M (w.alloc (.cells cs.toArray e))) (some ⟨w.heap.size, 0, none⟩) cs := by
 refine .inr ⟨w.heap.size, 0, rfl, ⟨by simp, r.okn.1 _ r.frm.size, fun b x hb hσ => ?_⟩, fun j v hv => ?_⟩
 ·have := r.blk_lt hb hσ
  omega
 ·rw [Nat.zero_add, cell_of_row _ w.heap.size j cs.toArray e (0, 0) (heap_alloc_new w _)]
  simpa using hv
theorem setInts_sound (r : Rel w0 F σ s a w) {k : IntKind} : ∀ (ps : List (Nat × Operand)) (l l' : List Int), setInts k l (ps.map fun p => (p.1, evA s.T p.2)) = some l' →
  Instr.fill (fun i => some (i * 1, 1)) (l.map (Value.int k)).toArray (ps.map fun p => (p.1, a.eval p.2)) = some (l'.map (Value.int k)).toArray ∧ l'.length = l.length
 | [], l, l', h => by
  simp [setInts] at h
  subst h
  exact ⟨by simp [Instr.fill], rfl⟩
 | (i, x) :: ps, l, l', h => by
  have hx := ev_sound r x
  simp only [List.map_cons] at h ⊢
  unfold setInts at h
  split at h
  ·rename_i heq; cases heq
  ·rename_i i' k' n rest heq
   obtain ⟨h1, h2⟩ := List.cons.inj heq
   obtain ⟨rfl, hev⟩ := Prod.mk.inj h1
   subst h2
   rw [hev] at hx
   have ex := ar_int hx
   by_cases hk : k' = k
   ·subst hk
    simp only [decide_true, cond_true] at h
    by_cases hi : i < l.length
    ·have hb : Nat.blt i l.length = true := by simpa [Nat.blt_eq] using hi
     simp only [hb, cond_true] at h
     have ih := setInts_sound r ps (l.set i n) l' h
     refine ⟨?_, by rw [ih.2, List.length_set]⟩
     have e : l.map (Value.int k') = (l.map (Value.int k')).take i ++ [(l.map (Value.int k'))[i]'(by simpa using hi)] ++ (l.map (Value.int k')).drop (i + 1) := by
      rw [List.append_assoc, List.singleton_append, List.getElem_cons_drop, List.take_append_drop]
     rw [fill_cons (c1 := (l.map (Value.int k')).take i) (c2 := [(l.map (Value.int k'))[i]'(by simpa using hi)]) (c3 := (l.map (Value.int k')).drop (i + 1)) rfl (by rw [ex]; rfl) e (by simp; omega) rfl]
     rw [ex, ← ih.1]
     congr 2
     rw [set_split l i n hi]
     simp [Value.cells, List.map_take, List.map_drop]
    ·have hb : Nat.blt i l.length = false := by
      cases hbb : Nat.blt i l.length with
      | false => rfl
      | true => exact absurd (by simpa [Nat.blt_eq] using hbb) hi
     simp only [hb, cond_false] at h
     cases h
   ·simp only [decide_eq_false hk, cond_false] at h
    cases h
  ·cases h
theorem setXs_sound (r : Rel w0 F σ s a w) {e : TypeId} : ∀ (ps : List (Nat × Operand)) (xs xs' : List D) (cs : List Value), ER w (Xs σ s.M w) (tg tab e).size xs cs → setXs tab e xs (ps.map fun p => (p.1, evA s.T p.2)) = some xs' →
  ∃ cs', Instr.fill (fun i => some (i * (tg tab e).size, (tg tab e).size)) cs.toArray (ps.map fun p => (p.1, a.eval p.2)) = some cs'.toArray ∧ ER w (Xs σ s.M w) (tg tab e).size xs' cs' ∧ xs'.length = xs.length
 | [], xs, xs', cs, hc, h => by
  simp [setXs] at h
  subst h
  exact ⟨cs, by simp [Instr.fill], hc, rfl⟩
 | (i, x) :: ps, xs, xs', cs, hc, h => by
  have hx := ev_sound r x
  simp only [List.map_cons] at h ⊢
  unfold setXs at h
  split at h
  ·rename_i heq; cases heq
  ·rename_i i' y rest heq
   obtain ⟨h1, h2⟩ := List.cons.inj heq
   obtain ⟨rfl, hev⟩ := Prod.mk.inj h1
   subst h2
   rw [hev] at hx
   cases hb : (Nat.blt i xs.length && Nat.beq (sk (castD tab e y)).size (tg tab e).size && !y.isTup) with
   | false => simp only [hb, cond_false] at h; cases h
   | true =>
    simp only [hb, cond_true] at h
    simp only [Bool.and_eq_true, Bool.not_eq_true'] at hb
    obtain ⟨⟨hi, hsz⟩, htup⟩ := hb
    have hi' : i < xs.length := by simpa [Nat.blt_eq] using hi
    have hsz' := Nat.eq_of_beq_eq_true hsz
    have hy : VR1 w (Xs σ s.M w) (castD tab e y) (a.eval x) := castD_sound (VR.one hx htup)
    have hus := VR1.cells hy
    have hlen : (a.eval x).cells.toList.length = (tg tab e).size := by rw [← CR.sklen hus, hsz']
    obtain ⟨v1, v2, v3, rfl, hl1, hl2, hset⟩ := ER.set xs cs i hc hi'
    obtain ⟨cs', hf, her, hl⟩ := setXs_sound r ps _ xs' _ (hset _ _ hus hlen) h
    refine ⟨cs', ?_, her, by rw [hl, List.length_set]⟩
    rw [fill_cons (c1 := v1) (c2 := v2) (c3 := v3) rfl (by rw [← hlen]; simp) rfl hl1 hl2, hf]
  ·cases h
theorem buildSlice_sound {C : Ctx} (T : TabOk P C.tab) (r : Rel w0 F σ s a w) {t : TypeId} {len : Nat} {ps : Array (Nat × Operand)} (ho : o.op = .buildSlice t len ps)
  (hc : (aBuildSlice C o.dst t len (ps.toList.map fun p => (p.1, evA s.T p.2)) s.M).c) : Good P w0 F o s a w (aBuildSlice C o.dst t len (ps.toList.map fun p => (p.1, evA s.T p.2)) s.M) := by
 have run : ∀ {e : TypeId} {sz : Nat} {zc : Array Value} {cs : List Value}, P.underlying t = some (.slice e) → (sizeOf e).run P w = .ok sz w → (∃ z, (zeroValue e).run P w = .ok z w ∧ z.cells = zc) → len * sz ≤ 16777216 →
   Instr.fill (fun i => some (i * sz, sz)) (madeCells zc (len * sz)) (ps.toList.map fun p => (p.1, a.eval p.2)) = some cs.toArray →
   (execOp a.eval o).run P w = .ok (.value (.slice (some ⟨w.heap.size, 0, none⟩) len len)) (w.alloc (.cells cs.toArray e)) := by
  intro e sz zc cs hu hs ⟨z, hz, hzc⟩ hle hf
  subst hzc
  have hpl : (ps.map fun x : Nat × Operand => (x.1, a.eval x.2)).toList = ps.toList.map fun p => (p.1, a.eval p.2) := by simp
  unfold execOp
  have hle' : ¬ (len * sz > 2 ^ 24) := by omega
  by_cases h0 : len * sz = 0
  ·have hmz : madeCells z.cells (len * sz) = #[] := by rw [h0]; simp [madeCells]
   rw [hmz] at hf
   have hr0 : ∀ f : Nat → Value, Array.map f (Array.range 0) = #[] := fun f => by simp
   simp only [ho, Instr.buildSlice, Sem.run_bind, run_underlying hu, Result.andThen_ok, hs, h0, if_true, Sem.run_pure, hr0]
   rw [if_neg (by decide)]
   simp only [Sem.run_bind, Sem.run_pure, Result.andThen_ok, hr0]
   rw [hpl, hf]
   simp [newRow, newObj, Sem.run]
  ·unfold madeCells at hf
   simp only [ho, Instr.buildSlice, Sem.run_bind, run_underlying hu, Result.andThen_ok, hs, if_neg hle', if_neg h0, hz, Sem.run_pure]
   rw [hpl, hf]
   simp [newRow, newObj, Sem.run]
 have zero : ∀ {e : TypeId}, (tg C.tab e).size ≠ 0 → ∃ z, (zeroValue e).run P w = .ok z w ∧ VR1 w (Xs σ s.M w) (tg C.tab e).zero z := by
  intro e he
  obtain ⟨i, z, hi, _, _, hz, hzr⟩ := (T e (tg_lt he)).info
  exact ⟨z, by simp [zeroValue, typeInfo, program, Sem.run, hi, hz], hzr _ _⟩
 unfold aBuildSlice at hc ⊢
 split at hc
 ·rename_i e hty
  have ht := (T t (tg_lt' (by rw [hty]; simp))).tslice _ hty
  split at hc
  ·rename_i k hte
   split at hc
   ·rename_i l hset
    have R := T e (tg_lt' (by rw [hte]; simp))
    have hz0 := R.tint0 k hte
    obtain ⟨hfill, hll⟩ := setInts_sound r ps.toList _ _ hset
    have hlen : l.length = len := by rw [hll, List.length_replicate]
    have go : (tg C.tab e).size = 1 ∧ len ≤ 4096 → (execOp a.eval o).run P w = .ok (.value (.slice (some ⟨w.heap.size, 0, none⟩) len len)) (w.alloc (.cells (l.map (Value.int k)).toArray e)) := by
     rintro ⟨hs1, hle⟩
     obtain ⟨z, hz, hzr⟩ := zero (e := e) (by omega)
     rw [hz0] at hzr
     have ez := vr_val (VR1.up hzr)
     refine run (sz := 1) (zc := #[.int k 0]) ht (by rw [← hs1]; exact index_add w T (by omega)) ⟨z, hz, by rw [ez]; rfl⟩ (by omega) ?_
     have e1 : madeCells #[Value.int k 0] (len * 1) = ((List.replicate len (0 : Int)).map (Value.int k)).toArray := by
      apply Array.ext'
      rw [Nat.mul_one, toList_madeCells_one]
      simp
     rw [e1]
     exact hfill
    have data : (tg C.tab e).size = 1 ∧ len ≤ 4096 → Good P w0 F o s a w (okIf ((tg C.tab e).size = 1 ∧ len ≤ 4096) (.ints k l) s.M) := by
     intro hcc Q
     have hg := Grow.alloc w (.cells (l.map (Value.int k)).toArray e)
     refine good_grow (P := P) (o := o) r (go hcc) hg ?_ Q
     exact ⟨some ⟨w.heap.size, 0, none⟩, len, by rw [hlen], by omega, new_at r _ e⟩
    split at hc
    ·rename_i d hdst
     cases hrow : C.rows.contains d with
     | false => simp only [hrow, cond_false] at hc ⊢; exact data hc
     | true =>
      simp only [hrow, cond_true] at hc ⊢
      split at hc
      ·rename_i hlook
       have hs1 := hc.1
       have hle := hc.2
       have hrun := go hc
       have hg := Grow.alloc w (.cells (l.map (Value.int k)).toArray e)
       have own := World.ownsRow_lit (base := 0) (e := e) (size := 1) w (l.map (Value.int k)).toArray len (Nat.zero_le _) (by unfold maxLen; omega) (by simp [hlen])
       have R' := r.new (k := .row e (.ints k l)) (v := .slice (some ⟨w.heap.size, 0, none⟩) len len) hlook (r.lkp hlook rfl) hg (by simp) (fun σ' hk h0 h1 h2 _ =>
        ⟨l.map (Value.int k), 1, len, by rw [h1, h2]; rfl, by rw [h2]; simpa using own, ⟨rfl, hlen.symm, rfl⟩, rb_new r h2⟩)
       intro Q
       unfold Oper.wp
       rw [hrun]
       refine ⟨_, R'.put o.dst ?_⟩
       exact ⟨e, .ints k l, by rw [look_put, if_pos rfl], (if_pos rfl).symm⟩
      ·exact hc.elim
    ·exact hc.elim
   ·exact hc.elim
  ·split at hc
   ·rename_i hne xs hset
    split at hc
    ·rename_i d hdst
     have main : len ≤ 4096 ∧ (tg C.tab e).size ≤ 256 ∧ (tg C.tab e).size ≠ 0 → ∃ cs', ER w (Xs σ s.M w) (tg C.tab e).size xs cs' ∧ xs.length = len ∧
       (execOp a.eval o).run P w = .ok (.value (.slice (some ⟨w.heap.size, 0, none⟩) len len)) (w.alloc (.cells cs'.toArray e)) := by
      rintro ⟨hle, hle2, hs0⟩
      obtain ⟨z, hz, hzr⟩ := zero (e := e) hs0
      have hzc := VR1.cells hzr
      have hzs : z.cells.size = (tg C.tab e).size := by
       have := CR.sklen hzc
       rw [(T e (tg_lt hs0)).sksz] at this
       simpa using this.symm
      have hm := ER.made (w := w) (X := Xs σ s.M w) (d := (tg C.tab e).zero) (z := z.cells) (by omega) hzc len
      rw [hzs] at hm
      obtain ⟨cs', hf, her, hxl⟩ := setXs_sound r ps.toList _ xs _ hm hset
      have hlen : xs.length = len := by rw [hxl, List.length_replicate]
      have hmul : len * (tg C.tab e).size ≤ 4096 * 256 := Nat.mul_le_mul hle hle2
      exact ⟨cs', her, hlen, run (sz := (tg C.tab e).size) (zc := z.cells) (cs := cs') ht (index_add w T hs0) ⟨z, hz, rfl⟩ (by omega) (by simpa using hf)⟩
     cases hrow : C.rows.contains d with
     | false =>
      simp only [hrow, cond_false] at hc ⊢
      obtain ⟨cs', her, hlen, hrun⟩ := main hc
      have hg := Grow.alloc w (.cells cs'.toArray e)
      intro Q
      refine good_grow (P := P) (o := o) r hrun hg ?_ Q
      exact ⟨some ⟨w.heap.size, 0, none⟩, len, cs', by rw [hlen], by omega, new_at r _ e, ER.mono (Xs.grow hg) _ _ _ her⟩
     | true =>
      simp only [hrow, cond_true] at hc ⊢
      split at hc
      ·rename_i hlook
       have hle := hc.1
       have hs0 := hc.2.2
       obtain ⟨cs', her, hlen, hrun⟩ := main hc
       have hg := Grow.alloc w (.cells cs'.toArray e)
       have hcl := ER.len xs cs' her
       have own := World.ownsRow_lit (base := 0) (e := e) (size := (tg C.tab e).size) w cs'.toArray len (Nat.zero_le _) (by unfold maxLen; omega) (by rw [List.size_toArray, hcl, hlen])
       have R' := r.new (k := .row e (.slc (tg C.tab e).size xs)) (v := .slice (some ⟨w.heap.size, 0, none⟩) len len) hlook (r.lkp hlook rfl) hg (by simp) (fun σ' hk h0 h1 h2 _ =>
        ⟨cs', (tg C.tab e).size, len, by rw [h1, h2]; rfl, by rw [h2]; exact own, ⟨rfl, by omega, hlen.symm, ER.mono (Xs_new hlook hg h0 h1 hk) _ _ _ her⟩, rb_new r h2⟩)
       intro Q
       unfold Oper.wp
       rw [hrun]
       refine ⟨_, R'.put o.dst ?_⟩
       exact ⟨e, .slc (tg C.tab e).size xs, by rw [look_put, if_pos rfl], (if_pos rfl).symm⟩
      ·exact hc.elim
    ·exact hc.elim
   ·exact hc.elim
 ·exact hc.elim
end
end Go.Vg
namespace Go.Vg
open Go Go.RowKit
section
variable {P : Program} {tab : Tab} {w0 : World} {F : Env} {σ : Sg} {s : St} {a : Act} {w : World} {o : Oper}
theorem make_agg (T : TabOk P tab) (r : Rel w0 F σ s a w) {t e : TypeId} {x y : Operand} {d : Nat} {k k' : IntKind} {n c : Int}
  (run : ∀ v w', (Instr.makeSlice t (a.eval x) (a.eval y)).run P w = .ok v w' → (execOp a.eval o).run P w = .ok (.value v) w')
  (ex : a.eval x = .int k n) (ey : a.eval y = .int k' c) (ht : P.underlying t = some (.slice e)) (hlook : look s.M d = none)
  (hn0 : 0 ≤ n) (hnc : n ≤ c) (hc1 : c ≤ 281474976710656) (hc2 : ((tg tab e).bytes : Int) * c ≤ 281474976710656) (hs1 : (tg tab e).size ≠ 0) (hdst : o.dst = some d) :
  Good P w0 F o s a w ⟨0 ≤ n ∧ n ≤ c ∧ c ≤ 281474976710656 ∧ ((tg tab e).bytes : Int) * c ≤ 281474976710656 ∧ (tg tab e).size ≠ 0, .row d, putM s.M d (.row e (.slc (tg tab e).size (List.replicate n.toNat (tg tab e).zero)))⟩ := by
 have R := T e (tg_lt hs1)
 obtain ⟨i, z, hi, hsz, hby, hz, hzr⟩ := R.info
 have hzc := VR1.cells (hzr w (Xs σ s.M w))
 have hzs : z.cells.size = (tg tab e).size := by
  have := CR.sklen hzc
  rw [R.sksz] at this
  simpa using this.symm
 have hc0 : 0 ≤ c := by omega
 have hm := run_make (P := P) w t e i z ht hi hz k k' n c hn0 hnc (by rw [hby]; exact hc2) (by omega)
 have hrun := run _ _ (by rw [ex, ey]; exact hm)
 have hg := Grow.alloc w (.cells (madeCells z.cells (c.toNat * i.size)) e)
 have hmade := ER.made (w := w) (X := Xs σ s.M w) (d := (tg tab e).zero) (z := z.cells) (by omega) hzc c.toNat
 rw [hzs] at hmade
 have hcut := (ER.cut n.toNat _ _ hmade).2
 rw [List.take_replicate, Nat.min_eq_left (by omega)] at hcut
 have hml : (madeCells z.cells (c.toNat * (tg tab e).size)).toList.length = c.toNat * (tg tab e).size := by rw [Array.length_toList, size_madeCells]
 have hle : n.toNat * (tg tab e).size ≤ c.toNat * (tg tab e).size := Nat.mul_le_mul_right _ (by omega)
 have own : (w.alloc (.cells (madeCells z.cells (c.toNat * i.size)) e)).ownsRow 0 e (tg tab e).size (.slice (some ⟨w.heap.size, 0, none⟩) n.toNat c.toNat) n.toNat ((madeCells z.cells (c.toNat * (tg tab e).size)).toList.take (n.toNat * (tg tab e).size)) := by
  refine ⟨by rw [List.length_take, hml]; omega, .inr ⟨w.heap.size, c.toNat, _, rfl, Nat.zero_le _, heap_alloc_new w _, by omega, by unfold maxLen; omega, by rw [size_madeCells, hsz], ?_⟩⟩
  rw [hsz]
 have R' := r.new (k := .row e (.slc (tg tab e).size (List.replicate n.toNat (tg tab e).zero))) (v := .slice (some ⟨w.heap.size, 0, none⟩) n.toNat c.toNat) hlook (r.lkp hlook rfl) hg (by simp) (fun σ' hk q0 q1 q2 _ =>
  ⟨_, (tg tab e).size, n.toNat, by rw [q1, q2]; rfl, by rw [q2]; exact own, ⟨rfl, by omega, by simp, ER.mono (Xs_new hlook hg q0 q1 hk) _ _ _ hcut⟩, rb_new r q2⟩)
 intro Q
 unfold Oper.wp
 rw [hrun]
 refine ⟨_, R'.put o.dst ?_⟩
 exact ⟨e, .slc (tg tab e).size (List.replicate n.toNat (tg tab e).zero), by rw [look_put, if_pos rfl], (if_pos rfl).symm⟩
theorem make_sound (T : TabOk P tab) (r : Rel w0 F σ s a w) {rows : List Nat} {t : TypeId} {x y : Operand} (ho : o.op = .makeSlice t x y) (hc : (aMake tab rows t o.dst (evA s.T x) (evA s.T y) s.M).c) :
  Good P w0 F o s a w (aMake tab rows t o.dst (evA s.T x) (evA s.T y) s.M) := by
 have hx := ev_sound r x
 have hy := ev_sound r y
 have run : ∀ v w', (Instr.makeSlice t (a.eval x) (a.eval y)).run P w = .ok v w' → (execOp a.eval o).run P w = .ok (.value v) w' := fun v w' h => by
  unfold execOp
  simp only [ho, Sem.run_bind, h, Result.andThen_ok, Sem.run_pure]
 unfold aMake at hc ⊢
 split at hc
 ·rename_i k n k' c d e hevx hevy hdst hty
  rw [hevx] at hx
  rw [hevy] at hy
  have ex := ar_int hx
  have ey := ar_int hy
  have ht := (T t (tg_lt' (by rw [hty]; simp))).tslice _ hty
  split at hc
  ·rename_i hte hlook hzero
   have R := T e (tg_lt' (by rw [hte]; simp))
   obtain ⟨i, z, hi, hsz, hby, hz, hzr⟩ := R.info
   have hzz := hzr w (Xs σ s.M w)
   rw [hzero] at hzz
   have ez : z = .string (bstr []) := by
    have := (show CR w (Xs σ s.M w) (.str []) [z] from hzz)
    simp only [CR] at this
    simpa using this.1
   cases h0 : rows.contains d with
   | true =>
    simp only [h0, cond_true] at hc ⊢
    obtain ⟨hn0, hnc, hc1, hc2, hs1⟩ := hc
    have hc0 : 0 ≤ c := by omega
    have hm := run_make (P := P) w t e i z ht hi hz k k' n c hn0 hnc (by rw [hby]; exact hc2) (by omega)
    have hrun := run _ _ (by rw [ex, ey]; exact hm)
    have hg := Grow.alloc w (.cells (madeCells z.cells (c.toNat * i.size)) e)
    have hcells : (madeCells z.cells (c.toNat * i.size)).toList = List.replicate c.toNat (Value.string (bstr [])) := by
     rw [hsz, hs1, Nat.mul_one, ez]
     rw [show (Value.string (bstr [])).cells = #[Value.string (bstr [])] from rfl, toList_madeCells_one]
    have own : (w.alloc (.cells (madeCells z.cells (c.toNat * i.size)) e)).ownsRow 0 e 1 (.slice (some ⟨w.heap.size, 0, none⟩) n.toNat c.toNat) n.toNat (List.replicate n.toNat (Value.string (bstr []))) := by
     refine ⟨by simp, .inr ⟨w.heap.size, c.toNat, _, rfl, Nat.zero_le _, heap_alloc_new w _, by omega, by unfold maxLen; omega, by rw [size_madeCells, hsz, hs1], ?_⟩⟩
     rw [hcells, Nat.mul_one, List.take_replicate, Nat.min_eq_left (by omega)]
    have her : ∀ (w' : World) (X : Nat → Prop) (m : Nat), ER w' X 1 (List.replicate m (.str [])) (List.replicate m (Value.string (bstr []))) := by
     intro w' X m
     induction m with
     | zero => simp [ER]
     | succ m ih =>
      simp only [List.replicate_succ, ER]
      exact ⟨[_], _, rfl, rfl, by simp [CR, isBytes], ih⟩
    have R' := r.new (k := .row e (.slc 1 (List.replicate n.toNat (.str [])))) (v := .slice (some ⟨w.heap.size, 0, none⟩) n.toNat c.toNat) hlook (r.lkp hlook rfl) hg (by simp) (fun σ' hk q0 q1 q2 _ =>
     ⟨_, 1, n.toNat, by rw [q1, q2]; rfl, by rw [q2]; exact own, ⟨rfl, by omega, by simp, her _ _ _⟩, rb_new r q2⟩)
    intro Q
    unfold Oper.wp
    rw [hrun]
    refine ⟨_, R'.put o.dst ?_⟩
    exact ⟨e, .slc 1 (List.replicate n.toNat (.str [])), by rw [look_put, if_pos rfl], (if_pos rfl).symm⟩
   | false =>
    simp only [h0, cond_false] at hc
    exact hc.elim
  ·rename_i e2 kz hte hlook hzero
   have R := T e (tg_lt' (by rw [hte]; simp))
   obtain ⟨i, z, hi, hsz, hby, hz, hzr⟩ := R.info
   have hzz := hzr w (Xs σ s.M w)
   rw [hzero] at hzz
   obtain ⟨zad, zcap, ez⟩ : ∃ ad c, z = .slice ad 0 c := by
    have := (show CR w (Xs σ s.M w) (.ints kz []) [z] from hzz)
    simp only [CR] at this
    obtain ⟨ad, cp, hv0, _⟩ := this
    exact ⟨ad, cp, by simpa using hv0⟩
   cases h0 : rows.contains d with
   | true =>
    simp only [h0, cond_true] at hc ⊢
    obtain ⟨hn0, hnc, hc1, hc2, hs1⟩ := hc
    have hc0 : 0 ≤ c := by omega
    have hm := run_make (P := P) w t e i z ht hi hz k k' n c hn0 hnc (by rw [hby]; exact hc2) (by omega)
    have hrun := run _ _ (by rw [ex, ey]; exact hm)
    have hg := Grow.alloc w (.cells (madeCells z.cells (c.toNat * i.size)) e)
    have hcells : (madeCells z.cells (c.toNat * i.size)).toList = List.replicate c.toNat (Value.slice zad 0 zcap) := by
     rw [hsz, hs1, Nat.mul_one, ez]
     rw [show (Value.slice zad 0 zcap).cells = #[Value.slice zad 0 zcap] from rfl, toList_madeCells_one]
    have own : (w.alloc (.cells (madeCells z.cells (c.toNat * i.size)) e)).ownsRow 0 e 1 (.slice (some ⟨w.heap.size, 0, none⟩) n.toNat c.toNat) n.toNat (List.replicate n.toNat (Value.slice zad 0 zcap)) := by
     refine ⟨by simp, .inr ⟨w.heap.size, c.toNat, _, rfl, Nat.zero_le _, heap_alloc_new w _, by omega, by unfold maxLen; omega, by rw [size_madeCells, hsz, hs1], ?_⟩⟩
     rw [hcells, Nat.mul_one, List.take_replicate, Nat.min_eq_left (by omega)]
    have her : ∀ (w' : World) (X : Nat → Prop) (m : Nat), ER w' X 1 (List.replicate m (.ints kz [])) (List.replicate m (Value.slice zad 0 zcap)) := by
     intro w' X m
     induction m with
     | zero => simp [ER]
     | succ m ih =>
      simp only [List.replicate_succ, ER]
      exact ⟨[_], _, rfl, rfl, ⟨zad, zcap, rfl, Nat.zero_le _, .inl rfl⟩, ih⟩
    have R' := r.new (k := .row e (.slc 1 (List.replicate n.toNat (.ints kz [])))) (v := .slice (some ⟨w.heap.size, 0, none⟩) n.toNat c.toNat) hlook (r.lkp hlook rfl) hg (by simp) (fun σ' hk q0 q1 q2 _ =>
     ⟨_, 1, n.toNat, by rw [q1, q2]; rfl, by rw [q2]; exact own, ⟨rfl, by omega, by simp, her _ _ _⟩, rb_new r q2⟩)
    intro Q
    unfold Oper.wp
    rw [hrun]
    refine ⟨_, R'.put o.dst ?_⟩
    exact ⟨e, .slc 1 (List.replicate n.toNat (.ints kz [])), by rw [look_put, if_pos rfl], (if_pos rfl).symm⟩
   | false =>
    simp only [h0, cond_false] at hc
    exact hc.elim
  ·rename_i ke hte hlook
   have R := T e (tg_lt' (by rw [hte]; simp))
   obtain ⟨i, z, hi, hsz, hby, hz, hzr⟩ := R.info
   have hzz := hzr w (Xs σ s.M w)
   rw [R.tint0 ke hte] at hzz
   have ez := vr_val (VR1.up hzz)
   cases h0 : rows.contains d with
   | true =>
    simp only [h0, cond_true] at hc ⊢
    obtain ⟨hn0, hnc, hc1, hc2, hs1⟩ := hc
    have hc0 : 0 ≤ c := by omega
    have hm := run_make (P := P) w t e i z ht hi hz k k' n c hn0 hnc (by rw [hby]; exact hc2) (by omega)
    have hrun := run _ _ (by rw [ex, ey]; exact hm)
    have hg := Grow.alloc w (.cells (madeCells z.cells (c.toNat * i.size)) e)
    have hcells : (madeCells z.cells (c.toNat * i.size)).toList = List.replicate c.toNat (Value.int ke 0) := by
     rw [hsz, hs1, Nat.mul_one, ez]
     rw [show (Value.int ke 0).cells = #[Value.int ke 0] from rfl, toList_madeCells_one]
    have own : (w.alloc (.cells (madeCells z.cells (c.toNat * i.size)) e)).ownsRow 0 e 1 (.slice (some ⟨w.heap.size, 0, none⟩) n.toNat c.toNat) n.toNat ((List.replicate n.toNat (0 : Int)).map (Value.int ke)) := by
     refine ⟨by simp, .inr ⟨w.heap.size, c.toNat, _, rfl, Nat.zero_le _, heap_alloc_new w _, by omega, by unfold maxLen; omega, by rw [size_madeCells, hsz, hs1], ?_⟩⟩
     rw [hcells, Nat.mul_one, List.take_replicate, Nat.min_eq_left (by omega), List.map_replicate]
    have R' := r.new (k := .row e (.ints ke (List.replicate n.toNat 0))) (v := .slice (some ⟨w.heap.size, 0, none⟩) n.toNat c.toNat) hlook (r.lkp hlook rfl) hg (by simp) (fun σ' hk q0 q1 q2 _ =>
     ⟨_, 1, n.toNat, by rw [q1, q2]; rfl, by rw [q2]; exact own, ⟨rfl, by simp, rfl⟩, rb_new r q2⟩)
    intro Q
    unfold Oper.wp
    rw [hrun]
    refine ⟨_, R'.put o.dst ?_⟩
    exact ⟨e, .ints ke (List.replicate n.toNat 0), by rw [look_put, if_pos rfl], (if_pos rfl).symm⟩
   | false =>
    simp only [h0, cond_false] at hc ⊢
    obtain ⟨hn00, rfl, hn1, hn2, hs1⟩ := hc
    obtain ⟨h1000, hn0⟩ : d < 1000 ∧ 0 ≤ c := by
     rcases blt_spec d 1000 with ⟨h, h2⟩ | ⟨h, h2⟩ <;> rw [h] at hn00
     ·exact ⟨h2, hn00⟩
     ·exact hn00.elim
    have hm := run_make (P := P) w t e i z ht hi hz k k' c c hn0 (Int.le_refl _) (by rw [hby]; exact hn2) (by omega)
    have hrun := run _ _ (by rw [ex, ey]; exact hm)
    have hg := Grow.alloc w (.cells (madeCells z.cells (c.toNat * i.size)) e)
    have hcells : (madeCells z.cells (c.toNat * i.size)) = ((List.replicate c.toNat (0 : Int)).map (Value.int ke)).toArray := by
     apply Array.ext'
     rw [hsz, hs1, Nat.mul_one, ez]
     rw [show (Value.int ke 0).cells = #[Value.int ke 0] from rfl, toList_madeCells_one]
     simp
    have R' := r.new (k := .fix (.arr ke c.toNat (List.replicate c.toNat 0))) (v := .nilFunc) hlook (r.lkp hlook rfl) hg (by simp) (fun σ' hk q0 q1 q2 _ =>
     ⟨w.heap.size, (List.replicate c.toNat (0 : Int)).map (Value.int ke), e, q1, .inl ⟨h1000, r.frm.size⟩, by rw [heap_alloc_new, hcells], by simp, rfl⟩)
    intro Q
    unfold Oper.wp
    rw [hrun]
    refine ⟨_, R'.put o.dst ?_⟩
    exact ⟨.arr ke c.toNat (List.replicate c.toNat 0), w.heap.size, ke, c.toNat, List.replicate c.toNat 0, _, by rw [look_put, if_pos rfl], if_pos rfl, okP_nil _, rfl, by omega, Nat.le_refl _, rfl, fun _ => by rw [offS_nil]⟩
  ·rename_i ts zs hte hlook hzero
   cases h0 : rows.contains d with
   | true =>
    simp only [h0, cond_true] at hc ⊢
    obtain ⟨hn0, hnc, hc1, hc2, hs1⟩ := hc
    rw [← hzero]
    exact make_agg T r run ex ey ht hlook hn0 hnc hc1 hc2 hs1 hdst
   | false =>
    simp only [h0, cond_false] at hc
    exact hc.elim
  ·rename_i an ae ka ma la hte hlook hzero
   cases h0 : rows.contains d with
   | true =>
    simp only [h0, cond_true] at hc ⊢
    obtain ⟨hn0, hnc, hc1, hc2, hs1⟩ := hc
    rw [← hzero]
    exact make_agg T r run ex ey ht hlook hn0 hnc hc1 hc2 hs1 hdst
   | false =>
    simp only [h0, cond_false] at hc
    exact hc.elim
  ·exact hc.elim
 ·exact hc.elim
theorem stP_arr : ∀ (p : List Nat) (x : D) (k k' : IntKind) (n : Nat) (l l' : List Int), okP x p → getP x p = .arr k n l → stP x p (.arr k' n l')
 | [], x, k, k', n, l, l', _, h => by
  have h' : x = .arr k n l := by simpa [getP] using h
  subst h'
  exact rfl
 | i :: p, .st fs, k, k', n, l, l', hok, h => ⟨hok.1, stP_arr p _ k k' n l l' hok.2 (by simpa [getP] using h)⟩
 | i :: p, .arr k0 m l0, k, k', n, l, l', hok, h => by simp [getP] at h
 | i :: p, .val _, _, _, _, _, _, hok, _ => hok.elim
 | i :: p, .ints _ _, _, _, _, _, _, hok, _ => hok.elim
 | i :: p, .slc _ _, _, _, _, _, _, hok, _ => hok.elim
 | i :: p, .tup _, _, _, _, _, _, hok, _ => hok.elim
 | i :: p, .str _, _, _, _, _, _, hok, _ => hok.elim
 | i :: p, .ref _, _, _, _, _, _, hok, _ => hok.elim
 | i :: p, .clo _ _, _, _, _, _, _, hok, _ => hok.elim
theorem copy_row (T : TabOk P tab) (r : Rel w0 F σ s a w) {c : Call} {t e er : TypeId} {x y : Operand} {b1 off len cc : Nat} {α : Option Addr} {k : IntKind} {l m : List Int} (e2 : c.argTypes[0]? = some t)
  (run : ∀ v w', (Builtin.copy_ c.argTypes o.type #[a.eval x, a.eval y]).run P w = .ok v w' → (execOp a.eval o).run P w = .ok (.value v) w') (hty : (tg tab t).ty = .slice e) (hs1 : (tg tab e).size = 1)
  (hv : a.eval x = .slice α len cc) (hb : look s.M b1 = some (.row er (.ints k l))) (hα : len ≠ 0 → ∃ g n cap, σ.rv b1 = .slice (some ⟨g, 0, none⟩) n cap ∧ off + len ≤ n ∧ α = some ⟨g, off, none⟩)
  (hd : toD s.M (evA s.T y) = some (.ints k m)) {N : Nat} (hN : Nat.min m.length len = N) {cnd : Prop} :
  Good P w0 F o s a w ⟨cnd, .d (.val (.int .i64 N)), putM s.M b1 (.row er (.ints k (l.take off ++ m.take N ++ l.drop (off + N))))⟩ := by
 have hy := ev_sound r y
 have ht := (T t (tg_lt' (by rw [hty]; simp))).tslice _ hty
 obtain ⟨ad, cp, hvy, hmc, hatc⟩ := (toD_sound r hy hd).1
 simp only [List.cons.injEq, and_true] at hvy
 have hNm : N ≤ m.length := by rw [← hN]; exact Nat.min_le_left _ _
 have hNl : N ≤ len := by rw [← hN]; exact Nat.min_le_right _ _
 have hfirst : (Builtin.firstCells 1 N (a.eval y)).run P w = .ok ((m.take N).map (Value.int k)).toArray w := by
  rw [hvy]
  cases ad with
  | none =>
   have hm0 : m = [] := by
    rcases hatc with h | ⟨_, _, h, _⟩
    ·exact List.map_eq_nil_iff.1 h
    ·cases h
   simp [Builtin.firstCells, hm0]
  | some ad =>
   have hl := run_loadCells_list (P := P) w ad ((m.take N).map (Value.int k)) (fun j v hj => by
    rcases hatc with h | ⟨_, o', h, hX, hcells⟩
    ·have hm0 := List.map_eq_nil_iff.1 h
     subst hm0
     simp at hj
    ·obtain rfl := Option.some.inj h
     rw [addr_add_none]
     refine hcells j v ?_
     rw [List.map_take, List.getElem?_take] at hj
     split at hj
     ·exact hj
     ·cases hj)
   have hlen : ((m.take N).map (Value.int k)).length = N := by simp; omega
   rw [hlen] at hl
   simp only [Builtin.firstCells, Nat.mul_one, hl]
 have hl2 : (Builtin.lenOf (a.eval y)).run P w = .ok m.length w := by rw [hvy]; rfl
 have fin : ∀ w', (match α with | some q => storeCells q ((m.take N).map (Value.int k)) | none => (pure () : Sem Unit)).run P w = .ok () w' → (execOp a.eval o).run P w = .ok (.value (goInt N)) w' := by
  intro w' hst
  refine run _ _ ?_
  rw [hv]
  simp only [Builtin.copy_, e2]
  simp only [show (#[Value.slice α len cc, a.eval y] : Array Value)[0]? = some (.slice α len cc) from rfl, show (#[Value.slice α len cc, a.eval y] : Array Value)[1]? = some (a.eval y) from rfl]
  simp only [Sem.run_bind, run_underlying ht, Result.andThen_ok, hl2, index_add w T (show (tg tab e).size ≠ 0 by omega), hs1, hN, hfirst]
  cases α with
  | none => simp only [Sem.run_pure] at hst ⊢; injection hst with _ h; rw [h]
  | some q => simp only at hst ⊢; simp only [Sem.run_bind, hst, Result.andThen_ok, Sem.run_pure]
 obtain ⟨cs, sz, n, q1, q2, q3, q4⟩ := r.mem b1 _ hb
 obtain ⟨rfl, rfl, rfl⟩ := q3
 by_cases hlen : len = 0
 ·have hN0 : N = 0 := by omega
  subst hN0
  have hrun := fin w (by cases α <;> rfl)
  intro Q
  unfold Oper.wp
  rw [hrun]
  refine ⟨σ, Rel.put (s := ⟨s.T, _⟩) (r.congrM fun c => ?_) o.dst ⟨rfl, rfl⟩⟩
  rw [look_put]
  split
  ·rename_i h
   rw [h, hb]
   simp
  ·rfl
 ·obtain ⟨g, n0, cap, hrv, hle, rfl⟩ := hα hlen
  have hσ : σ.blk b1 = some g := by rw [q1, hrv]; rfl
  rcases q2.2 with ⟨h0, _⟩ | ⟨g', cap', cur, hv', hg0, hh, hnc, hcm, hcs, htake⟩
  ·rw [hrv] at h0; cases h0
  rw [hrv] at hv'
  injection hv' with h1 h2 h3
  injection h1 with h1
  injection h1 with h1
  subst h1 h2 h3
  rw [Nat.mul_one] at hcs htake
  have hL : cur.toList = l.map (Value.int k) ++ cur.toList.drop l.length := by rw [← htake, List.take_append_drop]
  generalize hrest : cur.toList.drop l.length = rest at hL
  have hcl : cur.size = l.length + rest.length := by rw [← Array.length_toList, hL]; simp
  have hst := run_storeCells_at P g off er ((m.take N).map (Value.int k)) 0 cur w hh (by simp; omega) (fun v hv => by
   obtain ⟨_, _, rfl⟩ := List.mem_map.1 hv; rfl)
  have hrun := fin _ hst
  intro Q
  unfold Oper.wp
  rw [hrun]
  have hnew : List.take (off + 0) cur.toList ++ (m.take N).map (Value.int k) ++ List.drop (off + 0 + ((m.take N).map (Value.int k)).length) cur.toList = (l.take off ++ m.take N ++ l.drop (off + N)).map (Value.int k) ++ rest := by
   have e4 : ((m.take N).map (Value.int k)).length = N := by simp; omega
   rw [e4, Nat.add_zero, hL, List.take_append_of_le_length (by simp; omega), List.drop_append_of_le_length (by simp; omega)]
   simp [List.map_take, List.map_drop]
  rw [hnew]
  have hll : (l.take off ++ m.take N ++ l.drop (off + N)).length = l.length := by simp; omega
  have R' := r.writeRow (w' := w.setRow g ((l.take off ++ m.take N ++ l.drop (off + N)).map (Value.int k) ++ rest).toArray) hb hσ rfl rfl rfl (by simp) (fun j hj => setRow_other w g j _ hj) hll ?_
  ·exact ⟨σ, R'.put o.dst ⟨rfl, rfl⟩⟩
  refine ⟨by simp; omega, .inr ⟨g, cap, _, hrv, hg0, setRow_heap w g _ _ er _ hh, hnc, hcm, ?_, ?_⟩⟩
  ·rw [List.size_toArray, List.length_append, List.length_map, hll, ← hcl]; omega
  ·rw [Nat.mul_one, List.toList_toArray, ← hll]
   rw [List.take_left' (by simp)]
theorem copy_sound (T : TabOk P tab) (r : Rel w0 F σ s a w) {c : Call} {t : TypeId} {ts : List TypeId} {x y : Operand} (ho : o.op = .call c) (hcal : c.callee = .builtin .copy) (hargs : c.args.toList = [x, y]) (hat : c.argTypes.toList = t :: ts)
  (hc : (aCopy tab t (evA s.T x) (evA s.T y) s.M).c) : Good P w0 F o s a w (aCopy tab t (evA s.T x) (evA s.T y) s.M) := by
 have hx := ev_sound r x
 have hy := ev_sound r y
 have e1 : c.args = #[x, y] := by rw [← Array.toList_inj, hargs]
 have e2 : c.argTypes[0]? = some t := by rw [← Array.getElem?_toList, hat]; rfl
 have run : ∀ v w', (Builtin.copy_ c.argTypes o.type #[a.eval x, a.eval y]).run P w = .ok v w' → (execOp a.eval o).run P w = .ok (.value v) w' := fun v w' h => by
  unfold execOp
  simp only [ho, resolve, hcal, e1, Sem.run_bind, Sem.run_pure, Result.andThen_ok, invoke, builtin, List.map_toArray, List.map_cons, List.map_nil, h]
 unfold aCopy at hc ⊢
 simp only [cpL]
 split at hc
 ·rename_i b1 p off len cap e hevx hty
  rw [hevx] at hx
  have ht := (T t (tg_lt' (by rw [hty]; simp))).tslice _ hty
  split at hc
  ·rename_i x0 k m hb hd
   split at hc
   ·rename_i k' n l hg
    obtain ⟨rfl, hs1⟩ := hc
    obtain ⟨z, β, k2, n2, l2, α, hb2, hσ, hp, hg2, hn, hlc, hv, hα⟩ := hx
    rw [hb] at hb2
    obtain rfl := Blk.fix.inj (Option.some.inj hb2)
    rw [hg] at hg2
    obtain ⟨rfl, rfl, rfl⟩ := D.arr.inj hg2
    obtain ⟨ad, cp, hvy, hmc, hatc⟩ := (toD_sound r hy hd).1
    simp only [List.cons.injEq, and_true] at hvy
    obtain ⟨β', cs, e', hσ', _, hh, hcr⟩ := r.mem b1 _ hb
    rw [hσ] at hσ'
    obtain rfl := Option.some.inj hσ'
    have hu := getP_reads p x0 cs hcr hp
    rw [hg] at hu
    obtain ⟨q1, q2, q3, hcs, hq1, hq2⟩ := hu
    simp only [CR] at hq2
    obtain ⟨hll, rfl⟩ := hq2
    -- what is copied
    generalize hN : Nat.min m.length len = N
    have hNm : N ≤ m.length := by rw [← hN]; exact Nat.min_le_left _ _
    have hNl : N ≤ len := by rw [← hN]; exact Nat.min_le_right _ _
    have hfirst : (Builtin.firstCells 1 N (a.eval y)).run P w = .ok ((m.take N).map (Value.int k')).toArray w := by
     rw [hvy]
     cases ad with
     | none =>
      have hm0 : m = [] := by
       rcases hatc with h | ⟨_, _, h, _⟩
       ·exact List.map_eq_nil_iff.1 h
       ·cases h
      simp [Builtin.firstCells, hm0]
     | some ad =>
      have hl := run_loadCells_list (P := P) w ad ((m.take N).map (Value.int k')) (fun j v hj => by
       rcases hatc with h | ⟨_, o', h, hX, hcells⟩
       ·have hm0 := List.map_eq_nil_iff.1 h
        subst hm0
        simp at hj
       ·obtain rfl := Option.some.inj h
        rw [addr_add_none]
        refine hcells j v ?_
        rw [List.map_take, List.getElem?_take] at hj
        split at hj
        ·exact hj
        ·cases hj)
      have hlen : ((m.take N).map (Value.int k')).length = N := by simp; omega
      rw [hlen] at hl
      simp only [Builtin.firstCells, Nat.mul_one, hl]
    have hst := stP_arr p x0 k' k' n l (l.take off ++ m.take N ++ l.drop (off + N)) hp hg
    have hnl : (l.take off ++ m.take N ++ l.drop (off + N)).length = n := by simp; omega
    have hset := setP_reads p x0 (.arr k' n (l.take off ++ m.take N ++ l.drop (off + N))) cs _ hcr hst ⟨hnl, rfl⟩
    obtain ⟨v1, v2, v3, hcs', hv1, hv2, hnew⟩ := hset
    have hv1q : v1 = q1 := by
     have h1 : (v1 ++ v2 ++ v3).take v1.length = (q1 ++ l.map (Value.int k') ++ q3).take v1.length := by rw [← hcs', ← hcs]
     rw [List.append_assoc, List.take_left' rfl, List.append_assoc, List.take_left' (by omega)] at h1
     exact h1
    subst hv1q
    have hv23 : v2 ++ v3 = l.map (Value.int k') ++ q3 := by
     have := hcs'.symm.trans hcs
     rw [List.append_assoc, List.append_assoc] at this
     exact List.append_cancel_left this
    have hlen2 : v2.length = (l.map (Value.int k')).length := by rw [hv2]; simp; omega
    obtain ⟨hv2q, hv3q⟩ := List.append_inj hv23 hlen2
    subst hv2q hv3q
    have key : ∃ w', (storeCells α ((m.take N).map (Value.int k')) : Sem Unit).run P w = .ok () w' ∧ w'.os = w.os ∧ w'.tape = w.tape ∧ w'.output = w.output ∧ w'.heap.size = w.heap.size ∧ (∀ g, g ≠ β → w'.heap[g]? = w.heap[g]?) ∧
      w'.heap[β]? = some (.cells (v1 ++ (l.take off ++ m.take N ++ l.drop (off + N)).map (Value.int k') ++ v3).toArray e' (0, 0)) := by
     by_cases hN0 : N = 0
     ·refine ⟨w, by rw [hN0]; rfl, rfl, rfl, rfl, rfl, fun _ _ => rfl, ?_⟩
      rw [hh, hcs, hN0]
      simp
     ·have hα' := hα (by omega)
      rw [hα']
      have hrun := run_storeCells_at P β (offS (sk x0) p + off) e' ((m.take N).map (Value.int k')) 0 cs.toArray w hh (by
       rw [hcs]; simp; omega) (fun v hv => by
        obtain ⟨_, _, rfl⟩ := List.mem_map.1 hv; rfl)
      refine ⟨_, hrun, rfl, rfl, rfl, by simp, fun g hg => setRow_other w β g _ hg, ?_⟩
      rw [setRow_heap w β _ _ e' _ hh]
      congr 3
      rw [hcs, ← hv1, Nat.add_zero]
      simp only [List.toList_toArray, List.length_map, List.length_take]
      rw [show min N m.length = N from by omega]
      rw [List.append_assoc v1, ← List.drop_drop, List.take_length_add_append]
      rw [show List.drop (v1.length + off) (v1 ++ (l.map (Value.int k') ++ v3)) = List.drop off (l.map (Value.int k') ++ v3) from by rw [← List.drop_drop, List.drop_left' rfl]]
      rw [List.take_append_of_le_length (by simp; omega), List.drop_drop, List.drop_append_of_le_length (by simp; omega)]
      simp [List.map_take, List.map_drop]
    obtain ⟨w', hrun, k1, k2, k3, k4, k5, k6⟩ := key
    have hcopy : (Builtin.copy_ c.argTypes o.type #[a.eval x, a.eval y]).run P w = .ok (goInt N) w' := by
     have hl2 : (Builtin.lenOf (a.eval y)).run P w = .ok m.length w := by rw [hvy]; rfl
     rw [hv]
     simp only [Builtin.copy_, e2]
     simp only [show (#[Value.slice (some α) len cap, a.eval y] : Array Value)[0]? = some (.slice (some α) len cap) from rfl, show (#[Value.slice (some α) len cap, a.eval y] : Array Value)[1]? = some (a.eval y) from rfl]
     simp only [Sem.run_bind, run_underlying ht, Result.andThen_ok, hl2, index_add w T (show (tg tab e).size ≠ 0 by omega), hs1, hN, hfirst, hrun, Sem.run_pure]
    intro Q
    unfold Oper.wp
    rw [run _ _ hcopy]
    have R' := r.write hb hσ (sk_setP p x0 _ hst) k1 k2 k3 k4 k5 k6 (CR.mono (fun g hg => ⟨hg, k5 g (fun h => hg.2.2 b1 _ hb (by rw [h]; exact hσ))⟩) _ _ hnew)
    exact ⟨σ, R'.put o.dst ⟨rfl, rfl⟩⟩
   ·exact hc.elim
  ·exact hc.elim
 ·rename_i b1 e hevx hty
  rw [hevx] at hx
  split at hc
  ·rename_i er k' l k m hb hd
   obtain ⟨rfl, hs1⟩ := hc
   obtain ⟨e', x', hb', hv⟩ := hx
   rw [hb] at hb'
   obtain ⟨-, rfl⟩ := Blk.row.inj (Option.some.inj hb')
   obtain ⟨cs, sz, n, q1, q2, q3, q4⟩ := r.mem b1 _ hb
   obtain ⟨_, rfl, _⟩ := q3
   obtain ⟨α, cc, hrv, hα⟩ : ∃ α cc, σ.rv b1 = .slice α l.length cc ∧ (l.length ≠ 0 → ∃ g n cap, σ.rv b1 = .slice (some ⟨g, 0, none⟩) n cap ∧ 0 + l.length ≤ n ∧ α = some ⟨g, 0, none⟩) := by
    rcases q2.2 with ⟨h, h0⟩ | ⟨g, cap, cur, h, _⟩
    ·exact ⟨none, 0, by rw [h, h0], fun h => absurd h0 h⟩
    ·exact ⟨_, _, h, fun _ => ⟨g, _, cap, h, by omega, rfl⟩⟩
   exact copy_row T r e2 run hty hs1 (hv.trans hrv) hb hα hd rfl
  ·exact hc.elim
 ·rename_i b1 off len e hevx hty
  rw [hevx] at hx
  split at hc
  ·rename_i er k' l k m hb hd
   obtain ⟨rfl, hs1⟩ := hc
   obtain ⟨e', x', hb', α, cc, hv, hlc, hα⟩ := hx
   rw [hb] at hb'
   obtain ⟨-, rfl⟩ := Blk.row.inj (Option.some.inj hb')
   simp only [rsz, Nat.mul_one] at hα
   exact copy_row T r e2 run hty hs1 hv hb hα hd rfl
  ·exact hc.elim
 ·exact hc.elim
theorem assign_sound {C : Ctx} (T : TabOk P C.tab) (r : Rel w0 F σ s a w) {x : Operand} (ho : o.op = .assign x) (hc : (aAssign C o.dst o.type (evA s.T x) s.M).c) :
  Good P w0 F o s a w (aAssign C o.dst o.type (evA s.T x) s.M) := by
 have hx := ev_sound r x
 have hrun : (execOp a.eval o).run P w = .ok (.value (a.eval x)) w := by unfold execOp; simp only [ho]; rfl
 have plain : Good P w0 F o s a w ⟨True, evA s.T x, s.M⟩ := good_c (r := r) hrun hx
 unfold aAssign at hc ⊢
 split
 ·exact plain
 ·rename_i d hdst
  simp only [hdst] at hc
  cases hrow : C.rows.contains d with
  | false => simp only [cond_false]; exact plain
  | true =>
   simp only [hrow, cond_true] at hc ⊢
   split at hc
   ·rename_i hev
    rw [hev] at hx
    have ex := ar_val hx
    split at hc
    ·rename_i e hty hlook
     have hs0 : (tg C.tab e).size ≠ 0 := hc
     intro Q
     unfold Oper.wp
     rw [hrun]
     have R' := r.new' (k := .row e (castD C.tab o.type (.val (.slice none 0 0)))) hlook rfl (fun σ' h1 h2 => by
      refine ⟨[], (match castD C.tab o.type (.val (.slice none 0 0)) with | .slc s _ => s | _ => 1), 0, by rw [h1, h2]; rfl, by rw [h2]; exact World.ownsRow_nil _ _ _ _, ?_, fun g hg => by rw [h2] at hg; cases hg⟩
      unfold castD
      simp only [hty]
      split
      ·exact ⟨rfl, rfl, rfl⟩
      ·exact ⟨rfl, Nat.pos_of_ne_zero hs0, rfl, rfl⟩)
     refine ⟨_, R'.put o.dst ?_⟩
     exact ⟨e, _, by rw [look_put, if_pos rfl], by rw [ex]; exact (if_pos rfl).symm⟩
    ·exact hc.elim
   ·exact plain
end
end Go.Vg
