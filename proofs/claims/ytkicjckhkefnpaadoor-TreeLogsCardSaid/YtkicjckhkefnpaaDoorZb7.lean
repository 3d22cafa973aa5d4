/- Vg, part N: from what is owed for its text to a function's meaning. -/
import Derived.Test.YtkicjckhkefnpaaDoorZb6
namespace Go.Vg
open Go Go.RowKit

def resAV (s : St) : ResultVar → AV
  | .tmp i => s.T.getD i .any
  | .cell _ _ => .any

/-- A result: what must hold, and what it reads as. -/
def resV (tab : Tab) (s : St) (t : TypeId) : ResultVar → Prop × D
  | .tmp i => match reref (s.T.getD i .any) with
    | .d x => (x.isTup = false, castD tab t x)
    | _ => (False, default)
  | .cell i ty => match s.T.getD i .any with
    | .ptr b p => match look s.M b with
      | some (.fix x) => ((tg tab ty).size ≠ 0 ∧ (sk (getP x p)).size = (tg tab ty).size ∧ (getP x p).isAgg = (tg tab ty).ty.agg, getP x p)
      | _ => (False, default)
    | _ => (False, default)

def resAll (tab : Tab) (s : St) : List ResultVar → List TypeId → Prop × List D
  | [], _ => (True, [])
  | r :: rs, ts => ((resV tab s (ts.headD 0) r).1 ∧ (resAll tab s rs ts.tail).1, (resV tab s (ts.headD 0) r).2 :: (resAll tab s rs ts.tail).2)

def mkD : List D → D
  | [d] => d
  | ds => .tup ds

/-- What is owed where the function returns. -/
def post (C : Ctx) (rs : List ResultVar) (ts : List TypeId) (want : D) (s : St) : Prop :=
  match frzArgs (rs.map (resAV s)) s with
  | s' => match resAll C.tab s' rs ts with
    | (c, ds) => c ∧ mkD ds = want

def fin (C : Ctx) (rs : List ResultVar) (ts : List TypeId) (want : D) : Ex → St → Prop
  | .normal, s => post C rs ts want s
  | .ret, s => post C rs ts want s
  | .exit _, _ => False

section
variable {P : Program} {C : Ctx} {w0 : World} {F : Env} {σ : Sg} {s : St} {a : Act} {w : World}

theorem resV_sound (T : TabOk P C.tab) (r : Rel w0 F σ s a w) {t : TypeId} {rv : ResultVar} (h : (resV C.tab s t rv).1) :
    ∃ v, ((match rv with
      | .tmp i => pure (a.tmps.getD i undef)
      | .cell i ty => do loadVar ty (← asAddr (a.tmps.getD i undef)) : Sem Value)).run P w = .ok v w ∧ VR1 w (Xs σ s.M w) (resV C.tab s t rv).2 v := by
  cases rv with
  | tmp i =>
    have hx := ev_sound r (.tmp i)
    simp only [resV] at h ⊢
    simp only [evA, Act.eval] at hx
    have hx := reref_sound hx
    split at h
    · rename_i x hT
      rw [hT] at hx
      exact ⟨_, rfl, castD_sound (VR.one hx h)⟩
    · exact h.elim
  | cell i ty =>
    have hx := ev_sound r (.tmp i)
    simp only [resV] at h ⊢
    simp only [evA, Act.eval] at hx
    split at h
    · rename_i b p hT
      rw [hT] at hx
      obtain ⟨x, β, hb, hσ, hp, hv⟩ := hx
      simp only [hb] at h ⊢
      obtain ⟨hs0, hs, ha⟩ := h
      obtain ⟨β', cs, e, hσ', _, hh, hcr⟩ := r.mem b _ hb
      rw [hσ] at hσ'
      obtain rfl := Option.some.inj hσ'
      obtain ⟨us, hu, hcells⟩ := ptr_cells hh hcr hp
      obtain ⟨v, hrun, hvr⟩ := run_load T hs0 hs ha hu hcells
      refine ⟨v, ?_, hvr⟩
      simp only [hv, asAddr, Sem.run_bind, Sem.run_pure, Result.andThen_ok, hrun]
    · exact h.elim

theorem resAll_sound (T : TabOk P C.tab) (r : Rel w0 F σ s a w) : ∀ (rs : List ResultVar) (ts : List TypeId), (resAll C.tab s rs ts).1 →
    ∃ vs : List Value, (∀ g : ResultVar → Sem Value, (∀ i, g (.tmp i) = pure (a.tmps.getD i undef)) → (∀ i ty, g (.cell i ty) = (do loadVar ty (← asAddr (a.tmps.getD i undef)))) → (rs.mapM g).run P w = .ok vs w) ∧
      All2 (VR1 w (Xs σ s.M w)) (resAll C.tab s rs ts).2 vs
  | [], ts, _ => ⟨[], fun g _ _ => by simp, .nil⟩
  | rv :: rs, ts, h => by
    simp only [resAll] at h ⊢
    obtain ⟨v, h1, h2⟩ := resV_sound T r h.1
    obtain ⟨vs, h3, h4⟩ := resAll_sound T r rs ts.tail h.2
    refine ⟨v :: vs, fun g g1 g2 => ?_, .cons h2 h4⟩
    have h3 := h3 g g1 g2
    rw [List.mapM_cons]
    have h1' : (g rv).run P w = .ok v w := by
      cases rv with
      | tmp i => rw [g1]; exact h1
      | cell i ty => rw [g2]; exact h1
    simp only [Sem.run_bind, h1', Result.andThen_ok, h3, Sem.run_pure]

theorem post_sound {fn : Func} {ts : List TypeId} {want : D} (T : TabOk P C.tab) (r : Rel w0 F σ s a w) (h : post C fn.results.toList ts want s) :
    ∃ v, (results fn a.tmps).run P w = .ok v w ∧ VR w (fun β => F.ok β ∧ β < w.heap.size) want v := by
  unfold post at h
  have r' := r.frzArgs (fn.results.toList.map (resAV s))
  obtain ⟨h1, h2⟩ := h
  obtain ⟨vs, hrun, hall⟩ := resAll_sound T r' _ _ h1
  have hX : ∀ β, Xs σ (frzArgs (fn.results.toList.map (resAV s)) s).M w β → (F.ok β ∧ β < w.heap.size) ∧ w.heap[β]? = w.heap[β]? := fun β hβ => ⟨⟨by rw [← r.okn.2.1]; exact hβ.2.1, hβ.1⟩, rfl⟩
  have hall' := hall.mono fun d v hv => VR1.mono hX d v hv
  refine ⟨if h : vs.toArray.size = 1 then vs.toArray[0] else .tuple vs.toArray, ?_, ?_⟩
  · unfold results
    rw [Array.mapM_eq_mapM_toList]
    simp only [Sem.run_bind, map_eq_pure_bind]
    rw [hrun _ (fun _ => rfl) (fun _ _ => rfl)]
    simp only [Result.andThen_ok, Sem.run_pure]
  · generalize (resAll C.tab (frzArgs (fn.results.toList.map (resAV s)) s) fn.results.toList ts).2 = ds at h2 hall'
    rw [← h2]
    cases hall' with
    | nil => exact ⟨[], rfl, .nil⟩
    | cons q1 q2 =>
      cases q2 with
      | nil => exact VR1.up q1
      | cons q2 q3 => exact ⟨_, rfl, .cons q1 (.cons q2 q3)⟩

end

/-- A function's meaning, out of what is owed for its text. -/
theorem meets_of_vc {P : Program} {C : Ctx} (K : CtxOk P C) (hm : P.follows .mixedOrders = true) {f : FuncId} {fn : Func} {c : Code} (hf : P.funcs[f]? = some fn) (hb : fn.body = some c) (hname : (fn.name == "runtime.NumGoroutine") = false)
    (hst : statOK C c = true) (sp : Spec) (inv : List D → Nat → Option Inv)
    (h : ∀ ds, sp.pre ds → (sp.flat = true → flatD (sp.f ds) = true) ∧ vc C (inv ds) c (fin C fn.results.toList fn.resultTypes.toList (sp.f ds)) ⟨ds.map .d ++ List.replicate (fn.ntmps - ds.length) .any, []⟩) : Meets P f sp := by
  intro ds hpre
  obtain ⟨h1, h2⟩ := h ds hpre
  refine ⟨h1, fun X w vs hgw hvs => ?_⟩
  have hlen := hvs.len
  unfold UponCall
  have hcall : (callFunc f vs.toArray).run P w = .ok (.enter f vs.toArray) w := by
    have hn : ¬ fn.name = "runtime.NumGoroutine" := by simpa using hname
    simp [callFunc, program, Sem.run, hf, hn, hb]
  rw [hcall]
  simp only
  refine calls_of_wp hf hb ?_
  let F : Env := ⟨fun _ _ => False, fun β => X β ∨ w.heap.size ≤ β⟩
  have r0 : Rel w F ⟨fun _ => none, fun _ => undef, F.ok⟩ ⟨ds.map .d ++ List.replicate (fn.ntmps - ds.length) .any, []⟩ { tmps := vs.toArray ++ Array.replicate (fn.ntmps - vs.toArray.size) undef, defers := [] } w := by
    refine ⟨rfl, by simp [hlen], fun i x hx => ?_, fun b k hk => by simp [look] at hk, fun b b' k k' β h1 => by simp [look] at h1, fun b fs i r h => by simp [look] at h, Frm.refl _ w, fun β hβ => .inr hβ, rfl, hgw.mono fun _ h _ => .inl h, fun _ _ _ _ h => h⟩
    simp only at hx ⊢
    rcases Nat.lt_or_ge i ds.length with hi | hi
    · rw [List.getElem?_append_left (by simpa using hi)] at hx
      simp only [List.getElem?_map, Option.map_eq_some_iff] at hx
      obtain ⟨d, hd, rfl⟩ := hx
      obtain ⟨v, hv, hvr⟩ := hvs.get i d hd
      refine ⟨v, ?_, VR.mono (fun β hβ => ⟨⟨hβ.2, .inl hβ.1, fun b x hb => by simp [look] at hb⟩, rfl⟩) d v hvr⟩
      rw [Array.getElem?_append_left (by simp; omega)]
      simpa using hv
    · rw [List.getElem?_append_right (by simpa using hi), List.getElem?_replicate] at hx
      split at hx
      · rename_i hlt
        obtain rfl := Option.some.inj hx
        refine ⟨undef, ?_, trivial⟩
        rw [Array.getElem?_append_right (by simp; omega), Array.getElem?_replicate, if_pos (by simp only [List.length_map] at hlt; simp; omega)]
      · cases hx
  refine vc_sound K hm c _ _ _ _ _ _ hst r0 h2 ?_
  intro e s' σ' a' w' r' hk
  have go : post C fn.results.toList fn.resultTypes.toList (sp.f ds) s' → a'.defers = [] ∧ ∃ v, (results fn a'.tmps).run P w' = .ok v w' ∧ ∃ u, Ending.returned v = .returned u ∧ Grow w w' ∧ VR w' (fun β => (X β ∨ w.heap.size ≤ β) ∧ β < w'.heap.size) (sp.f ds) u := by
    intro hp
    obtain ⟨v, hrun, hvr⟩ := post_sound K.1 r' hp
    exact ⟨r'.defs, v, hrun, v, rfl, ⟨r'.frm.os, r'.frm.tape, r'.frm.output, r'.frm.size, fun k hk => r'.frm.block k hk (fun ⟨_, h⟩ => h)⟩, hvr⟩
  cases e with
  | normal => exact go hk
  | ret => exact go hk
  | exit id => exact hk.elim

end Go.Vg
/- Vg, part O: the check of a types' table against the program's. -/
namespace Go.Vg
open Go Go.RowKit

def vEq : Value → Value → Bool
  | .bool a, .bool b => a == b
  | .int k a, .int k' b => decide (k = k') && decide (a = b)
  | .float k a, .float k' b => decide (k = k') && Nat.beq a b
  | .string s, .string t => decide (s.data.toList = t.data.toList)
  | .pointer none, .pointer none => true
  | .slice none a b, .slice none c d => Nat.beq a c && Nat.beq b d
  | .map none, .map none => true
  | .chan none, .chan none => true
  | .nilFunc, .nilFunc => true
  | .nilIface, .nilIface => true
  | _, _ => false

theorem vEq_eq {a b : Value} (h : vEq a b = true) : a = b := by
  unfold vEq at h
  split at h <;> first
    | rfl
    | cases h
    | (simp only [Bool.and_eq_true, decide_eq_true_eq, beq_iff_eq, Nat.beq_eq] at h; first | (obtain ⟨h1, h2⟩ := h; rw [h1, h2]) | rw [h])
    | skip
  rename_i s t
  have h' := of_decide_eq_true h
  congr 1
  apply ByteArray.ext
  exact Array.toList_inj.1 h'

def vsEq : List Value → List Value → Bool
  | [], [] => true
  | a :: as, b :: bs => vEq a b && vsEq as bs
  | _, _ => false

theorem vsEq_eq : ∀ {as bs : List Value}, vsEq as bs = true → as = bs
  | [], [], _ => rfl
  | [], _ :: _, h => by cases h
  | _ :: _, [], h => by cases h
  | a :: as, b :: bs, h => by
    simp only [vsEq, Bool.and_eq_true] at h
    rw [vEq_eq h.1, vsEq_eq h.2]

def zeroB (d : D) (z : Value) : Bool :=
  match zC d with
  | none => false
  | some vs => match z with
    | .agg cs => d.isAgg && vsEq vs cs.toList
    | v => !d.isAgg && vsEq vs [v]

theorem zeroB_VR {d : D} {z : Value} (h : zeroB d z = true) (w : World) (X : Nat → Prop) : VR1 w X d z := by
  unfold zeroB at h
  split at h
  · cases h
  · rename_i vs hz
    have hc := zC_CR w X d vs hz
    split at h
    · rename_i cs
      simp only [Bool.and_eq_true] at h
      have := vsEq_eq h.2
      have e : cs = vs.toArray := by rw [this]
      rw [e]
      exact VR1.of_agg hc h.1
    · simp only [Bool.and_eq_true, Bool.not_eq_true'] at h
      rw [vsEq_eq h.2] at hc
      exact VR1.of_cell hc h.1

theorem zeroB_cells {d : D} {z : Value} (h : zeroB d z = true) : zC d = some z.cells.toList := by
  unfold zeroB at h
  split at h
  · cases h
  · rename_i vs hz
    split at h
    · rename_i cs
      simp only [Bool.and_eq_true] at h
      have := vsEq_eq h.2
      rw [hz, this]
      rfl
    · simp only [Bool.and_eq_true, Bool.not_eq_true'] at h
      rename_i hn
      rw [hz, vsEq_eq h.2]
      congr 1
      cases z <;> first | rfl | exact absurd rfl (hn _)

def fieldsB (tab : Tab) (zs : List D) : Nat → List (Nat × TypeId) → List Field → Bool
  | _, [], [] => true
  | i, (o, t) :: ts, f :: fs => Nat.beq f.offset o && Nat.beq f.type t && Nat.beq o (Sk.sizes ((sks zs).take i)) && !Nat.beq (tg tab t).size 0 && Nat.beq (sk (zs.getD i default)).size (tg tab t).size && fieldsB tab zs (i + 1) ts fs
  | _, _, _ => false

def descB (tab : Tab) (ti : TI) : Option TypeDesc → Bool
  | some (.int k) => (match ti.ty with | .int k' => decide (k' = k) && (match ti.zero with | .val (.int k2 n) => decide (k2 = k) && decide (n = 0) | _ => false) | _ => false)
  | some .bool => (match ti.ty with | .bool => true | _ => false)
  | some .string => (match ti.ty with | .str => true | _ => false)
  | some (.slice e) => (match ti.ty with | .slice e' => Nat.beq e' e | _ => false)
  | some (.array n e) => (match ti.ty with | .arr n' e' => Nat.beq n' n && Nat.beq e' e | _ => false)
  | some (.struct fa) => (match ti.ty with | .st ts => (match ti.zero with | .st zs => Nat.beq zs.length ts.length && fieldsB tab zs 0 ts fa.toList | _ => false) | _ => false)
  | some (.pointer e) => (match ti.ty with | .ptr e' => Nat.beq e' e | .other => true | _ => false)
  | some _ => (match ti.ty with | .other => true | _ => false)
  | none => false

def eqTB (P : Program) (t : TypeId) : Bool :=
  !P.stoodInHeld t && !P.eqGuardType P.depth t && (match P.underlying t with | some (.struct fa) => fa.toList.all fun f => !(f.name == "_") | _ => false)

def rowB (P : Program) (tab : Tab) (t : TypeId) : Bool :=
  match P.info? t with
  | none => false
  | some i => match i.zero with
    | none => false
    | some z => Nat.beq i.size (tg tab t).size && Nat.beq i.bytes (tg tab t).bytes && zeroB (tg tab t).zero z && Nat.beq (sk (tg tab t).zero).size (tg tab t).size && descB tab (tg tab t) (P.underlying t) && (!(tg tab t).eq || eqTB P t)

def hasB (ti : TI) : Bool := !Nat.beq ti.size 0 || (match ti.ty with | .other => false | _ => true)

def tabB (P : Program) (tab : Tab) : Bool := (List.range tab.length).all fun t => !hasB (tg tab t) || rowB P tab t

theorem fieldsB_get {tab : Tab} {zs : List D} : ∀ (ts : List (Nat × TypeId)) (fs : List Field) (k : Nat), fieldsB tab zs k ts fs = true → fs.length = ts.length ∧ ∀ i o t', ts[i]? = some (o, t') → ∃ f, fs[i]? = some f ∧ f.offset = o ∧ f.type = t' ∧ o = Sk.sizes ((sks zs).take (k + i)) ∧ (tg tab t').size ≠ 0 ∧ (sk (zs.getD (k + i) default)).size = (tg tab t').size
  | [], [], k, _ => ⟨rfl, fun i o t' h => by simp at h⟩
  | [], _ :: _, k, h => by cases h
  | _ :: _, [], k, h => by cases h
  | (o, t) :: ts, f :: fs, k, h => by
    simp only [fieldsB, Bool.and_eq_true, Nat.beq_eq, Bool.not_eq_true'] at h
    obtain ⟨⟨⟨⟨⟨h1, h2⟩, h3⟩, h4⟩, h5⟩, h6⟩ := h
    obtain ⟨hl, hg⟩ := fieldsB_get ts fs (k + 1) h6
    refine ⟨by simp [hl], fun i o' t' hi => ?_⟩
    cases i with
    | zero =>
      simp only [List.getElem?_cons_zero, Option.some.injEq, Prod.mk.injEq] at hi
      obtain ⟨rfl, rfl⟩ := hi
      exact ⟨f, rfl, h1, h2, by simpa using h3, fun h0 => by rw [h0] at h4; simp at h4, by simpa using h5⟩
    | succ i =>
      have := hg i o' t' (by simpa using hi)
      rw [show k + 1 + i = k + (i + 1) from by omega] at this
      simpa using this

theorem rowB_ok {P : Program} {tab : Tab} {t : TypeId} (h : rowB P tab t = true) : RowOk P tab t := by
  unfold rowB at h
  split at h
  · cases h
  · rename_i i hi
    split at h
    · cases h
    · rename_i z hz
      simp only [Bool.and_eq_true, Nat.beq_eq] at h
      obtain ⟨⟨⟨⟨⟨h1, h2⟩, h3⟩, h4⟩, h5⟩, h6⟩ := h
      have hu : ∃ d, P.underlying t = some d := by
        cases hd : P.underlying t with
        | none => rw [hd] at h5; cases h5
        | some d => exact ⟨d, rfl⟩
      obtain ⟨d, hd⟩ := hu
      rw [hd] at h5
      refine ⟨⟨i, z, hi, h1, h2, hz, fun w X => zeroB_VR h3 w X⟩, ⟨i, z, hi, hz, zeroB_cells h3⟩, h4, ?_, ?_, ?_, ?_, ?_, ?_, ?_, ?_, ?_, ?_⟩
      · intro k hk
        cases d <;> simp [descB, hk] at h5
        rw [hd, h5.1]
      · intro k hk
        cases d <;> simp only [descB, hk] at h5 <;> first | cases h5 | skip
        simp only [Bool.and_eq_true, decide_eq_true_eq] at h5
        obtain ⟨rfl, h5⟩ := h5
        split at h5
        · rename_i k2 n hzz
          simp only [Bool.and_eq_true, decide_eq_true_eq] at h5
          rw [hzz, h5.1, h5.2]
        · cases h5
      · intro hk
        cases d <;> simp [descB, hk] at h5
        exact hd
      · intro hk
        cases d <;> simp [descB, hk] at h5
        exact hd
      · intro e hk
        cases d <;> simp [descB, hk] at h5
        rw [hd, h5]
      · intro n e hk
        cases d <;> simp [descB, hk] at h5
        rw [hd, h5.1, h5.2]
      · intro ts hk
        cases d <;> simp only [descB, hk] at h5 <;> first | cases h5 | skip
        rename_i fa
        split at h5
        · rename_i zs hzz
          simp only [Bool.and_eq_true, Nat.beq_eq] at h5
          obtain ⟨hl, hg⟩ := fieldsB_get ts fa.toList 0 h5.2
          refine ⟨fa, zs, hd, hzz, h5.1, by simpa using hl, fun i o t' hi' => ?_⟩
          obtain ⟨f, hf, rest⟩ := hg i o t' hi'
          rw [Nat.zero_add] at rest
          exact ⟨f, by simpa using hf, rest⟩
        · cases h5
      · intro e hk
        cases d <;> simp [descB, hk] at h5
        rw [hd, h5]
      · intro he
        rw [he] at h6
        simp only [Bool.not_true, Bool.false_or, eqTB, Bool.and_eq_true, Bool.not_eq_true'] at h6
        refine ⟨h6.1.1, h6.1.2, fun fa hfa f hf => ?_⟩
        have h7 := h6.2
        rw [hfa] at h7
        simp only [List.all_eq_true] at h7
        have := h7 f hf
        intro e
        rw [e] at this
        simp at this
      · refine ⟨d, hd, ?_⟩
        cases hty : (tg tab t).ty <;> cases d <;> first | rfl | (simp [descB, hty] at h5; done) | skip

theorem tabB_ok {P : Program} {tab : Tab} (h : tabB P tab = true) : TabOk P tab := by
  intro t ht
  have hlt : t < tab.length := by
    rcases Nat.lt_or_ge t tab.length with h' | h'
    · exact h'
    · have e : tg tab t = ⟨.other, 0, 0, default, false⟩ := by unfold tg; rw [List.getD_eq_getElem?_getD, List.getElem?_eq_none h']; rfl
      rcases ht with h0 | h0
      · rw [e] at h0; exact absurd rfl h0
      · rw [e] at h0; exact absurd rfl h0
  have hb : hasB (tg tab t) = true := by
    unfold hasB
    rcases ht with h0 | h0
    · have : Nat.beq (tg tab t).size 0 = false := by
        rcases beq_cases (tg tab t).size 0 with ⟨_, hb⟩ | ⟨hb, _⟩
        · exact absurd hb h0
        · exact hb
      simp [this]
    · cases hty : (tg tab t).ty <;> first | exact absurd hty h0 | simp
  unfold tabB at h
  rw [List.all_eq_true] at h
  have := h t (List.mem_range.2 hlt)
  rw [hb] at this
  exact rowB_ok (by simpa using this)

end Go.Vg
