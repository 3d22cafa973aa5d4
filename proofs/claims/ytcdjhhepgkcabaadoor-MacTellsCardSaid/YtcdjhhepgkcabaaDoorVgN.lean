/- Vg, part N: from what is owed for its text to a function's meaning. -/
import Derived.Test.YtcdjhhepgkcabaaDoorVgM
namespace Go.Vg
open Go Go.RowKit

def resAV (s : St) : ResultVar → AV
  | .tmp i => s.T.getD i .any
  | .cell _ _ => .any

/-- A result: what must hold, and what it reads as. -/
def resV (tab : Tab) (s : St) (t : TypeId) : ResultVar → Prop × D
  | .tmp i => match reref (s.T.getD i .any) with
    | .d x => (x.isTup = false, castD tab t x)
    | _ => (False, default)
  | .cell i ty => match s.T.getD i .any with
    | .ptr b p => match look s.M b with
      | some (.fix x) => ((tg tab ty).size ≠ 0 ∧ (sk (getP x p)).size = (tg tab ty).size ∧ (getP x p).isAgg = (tg tab ty).ty.agg, getP x p)
      | _ => (False, default)
    | _ => (False, default)

def resAll (tab : Tab) (s : St) : List ResultVar → List TypeId → Prop × List D
  | [], _ => (True, [])
  | r :: rs, ts => ((resV tab s (ts.headD 0) r).1 ∧ (resAll tab s rs ts.tail).1, (resV tab s (ts.headD 0) r).2 :: (resAll tab s rs ts.tail).2)

def mkD : List D → D
  | [d] => d
  | ds => .tup ds

/-- What is owed where the function returns. -/
def post (C : Ctx) (rs : List ResultVar) (ts : List TypeId) (want : D) (s : St) : Prop :=
  match frzArgs (rs.map (resAV s)) s with
  | s' => match resAll C.tab s' rs ts with
    | (c, ds) => c ∧ mkD ds = want

def fin (C : Ctx) (rs : List ResultVar) (ts : List TypeId) (want : D) : Ex → St → Prop
  | .normal, s => post C rs ts want s
  | .ret, s => post C rs ts want s
  | .exit _, _ => False

section
variable {P : Program} {C : Ctx} {w0 : World} {F : Env} {σ : Sg} {s : St} {a : Act} {w : World}

theorem resV_sound (T : TabOk P C.tab) (r : Rel w0 F σ s a w) {t : TypeId} {rv : ResultVar} (h : (resV C.tab s t rv).1) :
    ∃ v, ((match rv with
      | .tmp i => pure (a.tmps.getD i undef)
      | .cell i ty => do loadVar ty (← asAddr (a.tmps.getD i undef)) : Sem Value)).run P w = .ok v w ∧ VR1 w (Xs σ s.M w) (resV C.tab s t rv).2 v := by
  cases rv with
  | tmp i =>
    have hx := ev_sound r (.tmp i)
    simp only [resV] at h ⊢
    simp only [evA, Act.eval] at hx
    have hx := reref_sound hx
    split at h
    · rename_i x hT
      rw [hT] at hx
      exact ⟨_, rfl, castD_sound (VR.one hx h)⟩
    · exact h.elim
  | cell i ty =>
    have hx := ev_sound r (.tmp i)
    simp only [resV] at h ⊢
    simp only [evA, Act.eval] at hx
    split at h
    · rename_i b p hT
      rw [hT] at hx
      obtain ⟨x, β, hb, hσ, hp, hv⟩ := hx
      simp only [hb] at h ⊢
      obtain ⟨hs0, hs, ha⟩ := h
      obtain ⟨β', cs, e, hσ', _, hh, hcr⟩ := r.mem b _ hb
      rw [hσ] at hσ'
      obtain rfl := Option.some.inj hσ'
      obtain ⟨us, hu, hcells⟩ := ptr_cells hh hcr hp
      obtain ⟨v, hrun, hvr⟩ := run_load T hs0 hs ha hu hcells
      refine ⟨v, ?_, hvr⟩
      simp only [hv, asAddr, Sem.run_bind, Sem.run_pure, Result.andThen_ok, hrun]
    · exact h.elim

theorem resAll_sound (T : TabOk P C.tab) (r : Rel w0 F σ s a w) : ∀ (rs : List ResultVar) (ts : List TypeId), (resAll C.tab s rs ts).1 →
    ∃ vs : List Value, (∀ g : ResultVar → Sem Value, (∀ i, g (.tmp i) = pure (a.tmps.getD i undef)) → (∀ i ty, g (.cell i ty) = (do loadVar ty (← asAddr (a.tmps.getD i undef)))) → (rs.mapM g).run P w = .ok vs w) ∧
      All2 (VR1 w (Xs σ s.M w)) (resAll C.tab s rs ts).2 vs
  | [], ts, _ => ⟨[], fun g _ _ => by simp, .nil⟩
  | rv :: rs, ts, h => by
    simp only [resAll] at h ⊢
    obtain ⟨v, h1, h2⟩ := resV_sound T r h.1
    obtain ⟨vs, h3, h4⟩ := resAll_sound T r rs ts.tail h.2
    refine ⟨v :: vs, fun g g1 g2 => ?_, .cons h2 h4⟩
    have h3 := h3 g g1 g2
    rw [List.mapM_cons]
    have h1' : (g rv).run P w = .ok v w := by
      cases rv with
      | tmp i => rw [g1]; exact h1
      | cell i ty => rw [g2]; exact h1
    simp only [Sem.run_bind, h1', Result.andThen_ok, h3, Sem.run_pure]

theorem post_sound {fn : Func} {ts : List TypeId} {want : D} (T : TabOk P C.tab) (r : Rel w0 F σ s a w) (h : post C fn.results.toList ts want s) :
    ∃ v, (results fn a.tmps).run P w = .ok v w ∧ VR w (fun β => F.ok β ∧ β < w.heap.size) want v := by
  unfold post at h
  have r' := r.frzArgs (fn.results.toList.map (resAV s))
  obtain ⟨h1, h2⟩ := h
  obtain ⟨vs, hrun, hall⟩ := resAll_sound T r' _ _ h1
  have hX : ∀ β, Xs σ (frzArgs (fn.results.toList.map (resAV s)) s).M w β → (F.ok β ∧ β < w.heap.size) ∧ w.heap[β]? = w.heap[β]? := fun β hβ => ⟨⟨by rw [← r.okn.2.1]; exact hβ.2.1, hβ.1⟩, rfl⟩
  have hall' := hall.mono fun d v hv => VR1.mono hX d v hv
  refine ⟨if h : vs.toArray.size = 1 then vs.toArray[0] else .tuple vs.toArray, ?_, ?_⟩
  · unfold results
    rw [Array.mapM_eq_mapM_toList]
    simp only [Sem.run_bind, map_eq_pure_bind]
    rw [hrun _ (fun _ => rfl) (fun _ _ => rfl)]
    simp only [Result.andThen_ok, Sem.run_pure]
  · generalize (resAll C.tab (frzArgs (fn.results.toList.map (resAV s)) s) fn.results.toList ts).2 = ds at h2 hall'
    rw [← h2]
    cases hall' with
    | nil => exact ⟨[], rfl, .nil⟩
    | cons q1 q2 =>
      cases q2 with
      | nil => exact VR1.up q1
      | cons q2 q3 => exact ⟨_, rfl, .cons q1 (.cons q2 q3)⟩

end

/-- A function's meaning, out of what is owed for its text. -/
theorem meets_of_vc {P : Program} {C : Ctx} (K : CtxOk P C) (hm : P.follows .mixedOrders = true) {f : FuncId} {fn : Func} {c : Code} (hf : P.funcs[f]? = some fn) (hb : fn.body = some c) (hname : (fn.name == "runtime.NumGoroutine") = false)
    (hst : statOK C c = true) (sp : Spec) (inv : List D → Nat → Option Inv)
    (h : ∀ ds, sp.pre ds → (sp.flat = true → flatD (sp.f ds) = true) ∧ vc C (inv ds) c (fin C fn.results.toList fn.resultTypes.toList (sp.f ds)) ⟨ds.map .d ++ List.replicate (fn.ntmps - ds.length) .any, []⟩) : Meets P f sp := by
  intro ds hpre
  obtain ⟨h1, h2⟩ := h ds hpre
  refine ⟨h1, fun X w vs hgw hvs => ?_⟩
  have hlen := hvs.len
  unfold UponCall
  have hcall : (callFunc f vs.toArray).run P w = .ok (.enter f vs.toArray) w := by
    have hn : ¬ fn.name = "runtime.NumGoroutine" := by simpa using hname
    simp [callFunc, program, Sem.run, hf, hn, hb]
  rw [hcall]
  simp only
  refine calls_of_wp hf hb ?_
  let F : Env := ⟨fun _ => False, fun β => X β ∨ w.heap.size ≤ β⟩
  have r0 : Rel w F ⟨fun _ => none, fun _ => undef, F.ok⟩ ⟨ds.map .d ++ List.replicate (fn.ntmps - ds.length) .any, []⟩ { tmps := vs.toArray ++ Array.replicate (fn.ntmps - vs.toArray.size) undef, defers := [] } w := by
    refine ⟨rfl, by simp [hlen], fun i x hx => ?_, fun b k hk => by simp [look] at hk, fun b b' k k' β h1 => by simp [look] at h1, Frm.refl _ w, fun β hβ => .inr hβ, rfl, hgw.mono fun _ h _ => .inl h, fun _ _ _ h => h⟩
    simp only at hx ⊢
    rcases Nat.lt_or_ge i ds.length with hi | hi
    · rw [List.getElem?_append_left (by simpa using hi)] at hx
      simp only [List.getElem?_map, Option.map_eq_some_iff] at hx
      obtain ⟨d, hd, rfl⟩ := hx
      obtain ⟨v, hv, hvr⟩ := hvs.get i d hd
      refine ⟨v, ?_, VR.mono (fun β hβ => ⟨⟨hβ.2, .inl hβ.1, fun b x hb => by simp [look] at hb⟩, rfl⟩) d v hvr⟩
      rw [Array.getElem?_append_left (by simp; omega)]
      simpa using hv
    · rw [List.getElem?_append_right (by simpa using hi), List.getElem?_replicate] at hx
      split at hx
      · rename_i hlt
        obtain rfl := Option.some.inj hx
        refine ⟨undef, ?_, trivial⟩
        rw [Array.getElem?_append_right (by simp; omega), Array.getElem?_replicate, if_pos (by simp only [List.length_map] at hlt; simp; omega)]
      · cases hx
  refine vc_sound K hm c _ _ _ _ _ _ hst r0 h2 ?_
  intro e s' σ' a' w' r' hk
  have go : post C fn.results.toList fn.resultTypes.toList (sp.f ds) s' → a'.defers = [] ∧ ∃ v, (results fn a'.tmps).run P w' = .ok v w' ∧ ∃ u, Ending.returned v = .returned u ∧ Grow w w' ∧ VR w' (fun β => (X β ∨ w.heap.size ≤ β) ∧ β < w'.heap.size) (sp.f ds) u := by
    intro hp
    obtain ⟨v, hrun, hvr⟩ := post_sound K.1 r' hp
    exact ⟨r'.defs, v, hrun, v, rfl, ⟨r'.frm.os, r'.frm.tape, r'.frm.output, r'.frm.size, fun k hk => r'.frm.block k hk (fun h => h)⟩, hvr⟩
  cases e with
  | normal => exact go hk
  | ret => exact go hk
  | exit id => exact hk.elim

end Go.Vg
