/- Vg, part R: a law's row, out of its meaning. -/
import Derived.Test.YtkicjckhkefnpaaDoorZb8
import Derived.SizedLaws
import Derived.WalkKit
import Derived.ShutString
import Derived.ChangeOld
import Derived.Test.YtkicjckhkefnpaaDoorZb7
namespace Go.Vg
open Go Go.RowKit
def OkAll (tab : Tab) (n : Nat) : List TypeId → List D → Prop
 | [], [] => True
 | t :: ts, d :: ds => OkT tab n t d ∧ OkAll tab n ts ds
 | _, _ => False
def supAll (tab : Tab) (n : Nat) (ts : List TypeId) : Bool := ts.all (supB tab n)
def lawSpec (tab : Tab) (ts : List TypeId) : Spec := ⟨OkAll tab 8 ts, fun _ => .val (.bool true), true, ts⟩
theorem args_D {H : Type} {enc : TypeId × Value → H} {P : Program} {tab : Tab} (T : TabOk P tab) {n : Nat} {w : World} {sp : Nat → Bool} {held : Bool} {r : Reach} {b0 : Nat} : ∀ (ts : List TypeId) (vs : List Value) (ds : List (DataW H)) (ps : List MemPlace), supAll tab n ts = true →
  (∀ (j : Nat) t v, ts[j]? = some t → vs[j]? = some v → Value.okWide P w r b0 t v) → DataW.TrodAll enc P w 0 sp held ts vs ds ps → Sz (DataW.weightsEach P ts ds) → ∃ xs, All2 (VR w (fun β => True ∧ β < w.heap.size)) xs vs ∧ OkAll tab n ts xs
 | [], [], [], _, _, _, _, _ => ⟨[], .nil, trivial⟩
 | t :: ts, v :: vs, d :: ds, ps, hs, hval, h, hw => by
  simp only [DataW.weightsEach] at hw
  obtain ⟨p, q, h1, h2, _⟩ := h
  simp only [supAll, List.all_cons, Bool.and_eq_true] at hs
  obtain ⟨x, g1, g2⟩ := arg_D T hs.1 (hval 0 t v rfl rfl) h1 (fun k hk => hw k (List.mem_append.2 (.inl hk)))
  obtain ⟨xs, g3, g4⟩ := args_D T ts vs ds q hs.2 (fun j t' v' ht hv => hval (j + 1) t' v' (by simpa using ht) (by simpa using hv)) h2 (fun k hk => hw k (List.mem_append.2 (.inr hk)))
  exact ⟨x :: xs, .cons (VR.mono (fun β hβ => ⟨⟨trivial, hβ⟩, rfl⟩) _ _ g1) g3, ⟨g2, g4⟩⟩
 | [], _ :: _, _, _, _, _, h, _ => h.elim
 | [], [], _ :: _, _, _, _, h, _ => h.elim
 | _ :: _, [], _, _, _, _, h, _ => h.elim
 | _ :: _, _ :: _, [], _, _, _, h, _ => h.elim
theorem weights_app {H : Type} {P : Program} : ∀ (ts ts' : List TypeId) (ds ds' : List (DataW H)) (n : Nat), n ∈ DataW.weightsEach P ts ds → n ∈ DataW.weightsEach P (ts ++ ts') (ds ++ ds')
 | [], _, _, _, n, h => by simp [DataW.weightsEach] at h
 | _ :: _, _, [], _, n, h => by simp [DataW.weightsEach] at h
 | t :: ts, ts', d :: ds, ds', n, h => by
  simp only [DataW.weightsEach, List.mem_append, List.cons_append] at h ⊢
  exact h.imp id fun h => weights_app ts ts' ds ds' n h
theorem law_sz {H : Type} {P : Program} {ts ts' : List TypeId} {ds ds' : List (DataW H)} (h : (DataW.weightsEach P (ts ++ ts') (ds ++ ds')).all (· ≤ reachBytes) = true) : (DataW.weightsEach P ts ds).all (· ≤ reachBytes) = true :=
 List.all_eq_true.2 fun n hn => List.all_eq_true.1 h n (weights_app ts ts' ds ds' n hn)
theorem law_calls {H : Type} {enc : TypeId × Value → H} {P : Program} {tab : Tab} (T : TabOk P tab) {f : FuncId} {fn : Func} (hf : P.funcs[f]? = some fn) (hb : fn.body.isSome = true) (hname : (fn.name == "runtime.NumGoroutine") = false) (hsup : supAll tab 8 fn.params.toList = true)
  (M : Meets P f (lawSpec tab fn.params.toList)) (W : World) (base : Nat) (args : Array Value) (ds : List (DataW H)) (p : List MemPlace) (hval : ∀ (j : Nat) t v, fn.params[j]? = some t → args[j]? = some v → Value.okWide P W .any base t v)
  (hA : DataW.TrodAll enc P W 0 (fun _ => true) true fn.params.toList args.toList ds p) (hw : (DataW.weightsEach P fn.params.toList ds).all (· ≤ reachBytes) = true) (hgw : GW W fun _ => True) : Calls P f args W fun e w' => e = .returned (.bool true) ∧ Below W.heap.size W w' := by
 obtain ⟨xs, h1, h2⟩ := args_D T fn.params.toList args.toList ds p hsup (fun j t v ht hv => hval j t v (by simpa using ht) (by simpa using hv)) hA (fun n hn => show n ≤ reachBytes by simpa using List.all_eq_true.1 hw n hn)
 have hu := (M xs h2).2 (fun _ => True) W args.toList hgw h1
 unfold UponCall at hu
 obtain ⟨c, hc⟩ := Option.isSome_iff_exists.1 hb
 have hn : ¬ fn.name = "runtime.NumGoroutine" := by simpa using hname
 have hcall : (callFunc f args.toList.toArray).run P W = .ok (.enter f args) W := by
  simp [callFunc, program, Sem.run, hf, hn, hc]
 rw [hcall] at hu
 refine Calls.mono hu ?_
 rintro e w' ⟨v, rfl, hg, hv⟩
 have ev := vr_val (X := fun β => (True ∨ W.heap.size ≤ β) ∧ β < w'.heap.size) hv
 subst ev
 exact ⟨rfl, hg.os, hg.tape, hg.output, hg.size, hg.block⟩
end Go.Vg
namespace Go.Vg
open Go Go.RowKit
def postRw (C : Ctx) (rs : List ResultVar) (ts : List TypeId) (e : TypeId) (want : D) (s : St) : Prop :=
 match frzArgs (rs.tail.map (resAV s)) s with
 | s' => match rs with
  | .tmp i :: rs => match s'.T.getD i .any, resAll C.tab s' rs ts.tail with
   | .row b, (c, ds) => match look s'.M b with
    | some (.row e' x) => c ∧ e' = e ∧ (match Nat.blt b 1000 with | true => True | false => False) ∧ D.tup (x :: ds) = want
    | _ => False
   | .d (.val (.slice none 0 0)), (c, ds) => c ∧ emptyB (castD C.tab (ts.headD 0) (.val (.slice none 0 0))) = true ∧ D.tup (castD C.tab (ts.headD 0) (.val (.slice none 0 0)) :: ds) = want
   | _, _ => False
  | _ => False
def finRw (C : Ctx) (rs : List ResultVar) (ts : List TypeId) (e : TypeId) (want : D) : Ex → St → Prop
 | .normal, s => postRw C rs ts e want s
 | .ret, s => postRw C rs ts e want s
 | .exit _, _ => False
def postIoL (C : Ctx) (rs : List ResultVar) (ts : List TypeId) (i : Nat) (e : TypeId) (fs0 : List D) (want : D) (s : St) : Prop :=
 match frzArgs (rs.map (resAV s)) s with
 | s' => match resAll C.tab s' rs ts, look s'.M 1000 with
  | (c, ds), some (.lnk fs j (some q)) => match look s'.M q with
   | some (.row e' z) => c ∧ j = i ∧ e' = e ∧ sk (.st (fs.set i z)) = sk (.st fs0) ∧ D.tup [mkD ds, .st (fs.set i z)] = want
   | _ => False
  | _, _ => False
def finIoL (C : Ctx) (rs : List ResultVar) (ts : List TypeId) (i : Nat) (e : TypeId) (fs0 : List D) (want : D) : Ex → St → Prop
 | .normal, s => postIoL C rs ts i e fs0 want s
 | .ret, s => postIoL C rs ts i e fs0 want s
 | .exit _, _ => False
section
variable {P : Program} {C : Ctx} {w0 : World} {F : Env} {σ : Sg} {s : St} {a : Act} {w : World}
theorem all2_up {X : Nat → Prop} {ds : List D} {vs : List Value} (h : All2 (VR1 w X) ds vs) : All2 (VR w X) ds vs := by
 induction h with
 | nil => exact .nil
 | cons q _ ih => exact .cons (VR1.up q) ih
theorem postIoL_sound {fn : Func} {ts : List TypeId} {i : Nat} {e : TypeId} {fs0 : List D} {want : D} (T : TabOk P C.tab) (r : Rel w0 F σ s a w) (h : postIoL C fn.results.toList ts i e fs0 want s) :
  ∃ v, (results fn a.tmps).run P w = .ok v w ∧ ∃ z fs' u' β cs et sz n rcs, want = .tup [z, .st fs'] ∧ sk (.st fs') = sk (.st fs0) ∧ isCell u' = true ∧ F.F 1000 β ∧ w.heap[β]? = some (.cells (List.toArray cs) et (0, 0)) ∧ u'.ownBlock ≠ some β ∧
   (∀ g, u'.ownBlock = some g → w0.heap.size ≤ g ∨ ∃ b, F.F b g ∧ b ≠ 1000) ∧ CR w (fun γ => F.ok γ ∧ γ < w.heap.size ∧ γ ≠ β ∧ u'.ownBlock ≠ some γ) (.st (fs'.set i (.val u'))) cs ∧ w.ownsRow 0 e sz u' n rcs ∧
   RowC w (fun γ => F.ok γ ∧ γ < w.heap.size ∧ γ ≠ β ∧ u'.ownBlock ≠ some γ) (fs'.getD i default) sz n rcs ∧ VR w (fun γ => F.ok γ ∧ γ < w.heap.size ∧ γ ≠ β ∧ u'.ownBlock ≠ some γ) z v := by
 unfold postIoL at h
 have r' := r.frzArgs (fn.results.toList.map (resAV s))
 generalize hs' : frzArgs (fn.results.toList.map (resAV s)) s = s' at h r'
 simp only at h
 split at h
 case h_2 => exact h.elim
 rename_i c ds fs j q hc hlk
 split at h
 case h_2 => exact h.elim
 rename_i e' z hq
 obtain ⟨h1, rfl, rfl, h2, h3⟩ := h
 have hra := resAll_sound T r' fn.results.toList ts (by rw [hc]; exact h1)
 rw [hc] at hra
 obtain ⟨vs, hrun, hall⟩ := hra
 obtain ⟨g1, g2, u, g3, g4, β, cs, et, hσ, hF, hh, hcr⟩ := r'.mem _ _ hlk
 have hu := g4 q rfl
 subst hu
 obtain ⟨rcs, sz, n, p1, p2, p3, p4⟩ := r'.mem q _ hq
 have hub : (σ.rv q).ownBlock ≠ some β := fun e => by
  have := r'.inj 1000 q _ _ β hlk hq hσ (by rw [p1, e])
  rw [← this, hlk] at hq
  cases hq
 have hX : ∀ γ, Xs σ s'.M w γ → (F.ok γ ∧ γ < w.heap.size ∧ γ ≠ β ∧ (σ.rv q).ownBlock ≠ some γ) ∧ w.heap[γ]? = w.heap[γ]? := fun γ hγ =>
  ⟨⟨by rw [← r.okn.2.1]; exact hγ.2.1, hγ.1, fun e => hγ.2.2 _ _ hlk (by rw [hσ, e]), fun e => hγ.2.2 _ _ hq (by rw [p1, e])⟩, rfl⟩
 have hall' := hall.mono fun d v hv => VR1.mono hX d v hv
 refine ⟨if h : vs.toArray.size = 1 then vs.toArray[0] else .tuple vs.toArray, ?_, mkD ds, fs.set j z, σ.rv q, β, cs, et, sz, n, rcs, h3.symm, h2, g3, by rcases hF with hF | hF; omega; exact hF.2, hh, hub, fun g hg => (p4 g hg).imp id (fun h => ⟨q, h.2, fun e => by rw [e, hlk] at hq; cases hq⟩), ?_, p2, ?_, ?_⟩
 ·unfold results
  rw [Array.mapM_eq_mapM_toList]
  simp only [Sem.run_bind, map_eq_pure_bind]
  rw [hrun _ (fun _ => rfl) (fun _ _ => rfl)]
  simp only [Result.andThen_ok, Sem.run_pure]
 ·rw [List.set_set]
  exact CR.mono hX _ _ hcr
 ·rw [getDset_eq fs _ _ g1]
  exact p3.mono hX
 ·cases hall' with
  | nil => exact ⟨[], rfl, .nil⟩
  | cons q1 q2 =>
   cases q2 with
   | nil => exact VR1.up q1
   | cons q2 q3 => exact ⟨_, rfl, .cons q1 (.cons q2 q3)⟩
theorem postRw_sound {fn : Func} {ts : List TypeId} {e : TypeId} {want : D} (T : TabOk P C.tab) (r : Rel w0 F σ s a w) (h : postRw C fn.results.toList ts e want s) :
  ∃ v, (results fn a.tmps).run P w = .ok v w ∧ ∃ x rs sz n cs u us, want = .tup (x :: rs) ∧ w.ownsRow 0 e sz u n cs ∧ (∀ g, u.ownBlock = some g → w0.heap.size ≤ g) ∧
   RowC w (fun γ => F.ok γ ∧ γ < w.heap.size ∧ u.ownBlock ≠ some γ) x sz n cs ∧ All2 (VR w (fun γ => F.ok γ ∧ γ < w.heap.size ∧ u.ownBlock ≠ some γ)) rs us ∧
   v = (match rs with | [] => u | _ => .tuple (u :: us).toArray) := by
 unfold postRw at h
 have r' := r.frzArgs (fn.results.toList.tail.map (resAV s))
 generalize hs' : frzArgs (fn.results.toList.tail.map (resAV s)) s = s' at h r'
 simp only at h
 split at h
 case h_2 => exact h.elim
 rename_i i rs hrs
 have fin : ∀ (ds : List D) (vs : List Value), (∀ g : ResultVar → Sem Value, (∀ i, g (.tmp i) = pure (a.tmps.getD i undef)) → (∀ i ty, g (.cell i ty) = (do loadVar ty (← asAddr (a.tmps.getD i undef)))) → (rs.mapM g).run P w = .ok vs w) →
   (results fn a.tmps).run P w = .ok (if h : (a.tmps.getD i undef :: vs).toArray.size = 1 then (a.tmps.getD i undef :: vs).toArray[0] else .tuple (a.tmps.getD i undef :: vs).toArray) w := by
  intro ds vs hrun
  unfold results
  rw [Array.mapM_eq_mapM_toList, hrs, List.mapM_cons]
  simp only [Sem.run_bind, map_eq_pure_bind, Sem.run_pure, Result.andThen_ok]
  rw [hrun _ (fun _ => rfl) (fun _ _ => rfl)]
  simp only [Result.andThen_ok, Sem.run_pure]
 have hp := ev_sound r' (.tmp i)
 simp only [evA, Act.eval] at hp
 split at h
 case h_3 => exact h.elim
 ·rename_i b c ds hT hc
  split at h
  case h_2 => exact h.elim
  rename_i e' x hlk
  obtain ⟨h1, rfl, h2, h3⟩ := h
  have hlt : b < 1000 := by
   rcases blt_spec b 1000 with ⟨_, q⟩ | ⟨q, _⟩
   ·exact q
   ·rw [q] at h2; exact h2.elim
  have hra := resAll_sound T r' rs ts.tail (by rw [hc]; exact h1)
  rw [hc] at hra
  obtain ⟨vs, hrun, hall⟩ := hra
  obtain ⟨cs, sz, n, p1, p2, p3, p4⟩ := r'.mem _ _ hlk
  have hX : ∀ γ, Xs σ s'.M w γ → (F.ok γ ∧ γ < w.heap.size ∧ (σ.rv b).ownBlock ≠ some γ) ∧ w.heap[γ]? = w.heap[γ]? := fun γ hγ => ⟨⟨by rw [← r.okn.2.1]; exact hγ.2.1, hγ.1, fun e => hγ.2.2 _ _ hlk (by rw [p1, e])⟩, rfl⟩
  have hall' := all2_up (hall.mono fun d v hv => VR1.mono hX d v hv)
  rw [hT] at hp
  obtain ⟨e2, x2, k1, k2⟩ := hp
  refine ⟨_, fin ds vs hrun, x, ds, sz, n, cs, σ.rv b, vs, h3.symm, p2, fun g hg => ?_, p3.mono hX, hall', ?_⟩
  ·rcases p4 g hg with h | h
   ·exact h
   ·omega
  ·rw [k2]
   cases hall' with
   | nil => rfl
   | cons g1 g2 => rfl
 ·rename_i c ds hT hc
  obtain ⟨h1, h2, h3⟩ := h
  have hra := resAll_sound T r' rs ts.tail (by rw [hc]; exact h1)
  rw [hc] at hra
  obtain ⟨vs, hrun, hall⟩ := hra
  have hX : ∀ γ, Xs σ s'.M w γ → (F.ok γ ∧ γ < w.heap.size ∧ (Value.slice none 0 0).ownBlock ≠ some γ) ∧ w.heap[γ]? = w.heap[γ]? := fun γ hγ => ⟨⟨by rw [← r.okn.2.1]; exact hγ.2.1, hγ.1, fun e => by cases e⟩, rfl⟩
  have hall' := all2_up (hall.mono fun d v hv => VR1.mono hX d v hv)
  rw [hT] at hp
  have k2 := ar_val hp
  generalize castD C.tab (ts.headD 0) (.val (.slice none 0 0)) = x at h2 h3
  have hrow : ∃ sz, RowC w (fun γ => F.ok γ ∧ γ < w.heap.size ∧ (Value.slice none 0 0).ownBlock ≠ some γ) x sz 0 [] := by
   cases x <;> first | cases h2 | skip
   ·rename_i k l
    cases l with
    | nil => exact ⟨1, rfl, rfl, rfl⟩
    | cons _ _ => cases h2
   ·rename_i sz l
    cases l with
    | nil =>
     refine ⟨sz, rfl, ?_, rfl, rfl⟩
     rcases beq_cases sz 0 with ⟨hb, h0⟩ | ⟨hb, h0⟩
     ·simp [emptyB, hb] at h2
     ·omega
    | cons _ _ => cases h2
  obtain ⟨sz, hrow⟩ := hrow
  refine ⟨_, fin ds vs hrun, x, ds, sz, 0, [], .slice none 0 0, vs, h3.symm, World.ownsRow_nil _ _ _ _, fun g hg => (by cases hg), hrow, hall', ?_⟩
  rw [k2]
  cases hall' with
  | nil => rfl
  | cons g1 g2 => rfl
end
theorem start_slot {w : World} {X : Nat → Prop} {ds : List D} {vs : List Value} {n : Nat} {as : List AV} {us : List Value} {σ : Sg} {M : Mem} {Y : Nat → Prop} (h0 : All2 (AR σ M w Y) as us) (hvs : All2 (VR w X) ds vs) (hX : ∀ γ, X γ → Y γ) :
  ∀ (i : Nat) (x : AV), (as ++ ds.map AV.d ++ List.replicate n AV.any)[i]? = some x → ∃ v, ((us ++ vs).toArray ++ Array.replicate n undef)[i]? = some v ∧ AR σ M w Y x v := by
 have h1 : All2 (AR σ M w Y) (ds.map AV.d) vs := all2_caps (hvs.mono fun d v hv => VR.mono (fun γ hγ => ⟨hX γ hγ, rfl⟩) d v hv)
 have h2 := all2_app h0 h1
 have hl := h2.len
 intro i x hx
 rcases Nat.lt_or_ge i (as ++ ds.map AV.d).length with hi | hi
 ·rw [List.getElem?_append_left hi] at hx
  obtain ⟨v, hv, hvr⟩ := h2.get i x hx
  refine ⟨v, ?_, hvr⟩
  rw [Array.getElem?_append_left (by rw [List.size_toArray]; omega)]
  simpa using hv
 ·rw [List.getElem?_append_right hi, List.getElem?_replicate] at hx
  split at hx
  ·rename_i hlt
   obtain rfl := Option.some.inj hx
   refine ⟨undef, ?_, trivial⟩
   rw [Array.getElem?_append_right (by rw [List.size_toArray]; omega), Array.getElem?_replicate, if_pos (by rw [List.size_toArray]; omega)]
  ·cases hx
theorem call_enter {P : Program} {f : FuncId} {fn : Func} {c : Code} (hf : P.funcs[f]? = some fn) (hb : fn.body = some c) (hname : (fn.name == "runtime.NumGoroutine") = false) (vs : Array Value) (w : World) : (callFunc f vs).run P w = .ok (.enter f vs) w := by
 have hn : ¬ fn.name = "runtime.NumGoroutine" := by simpa using hname
 simp [callFunc, program, Sem.run, hf, hn, hb]
theorem meets_rw_of_vc {P : Program} {C : Ctx} (K : CtxOk P C) (hm : P.follows .mixedOrders = true) {f : FuncId} {fn : Func} {c : Code} (hf : P.funcs[f]? = some fn) (hb : fn.body = some c) (hname : (fn.name == "runtime.NumGoroutine") = false)
  (hst : statOK C c = true) (sp : Spec) (e : TypeId) (inv : List D → Nat → Option Inv)
  (h : ∀ ds, sp.pre ds → vc C (inv ds) c (finRw C fn.results.toList fn.resultTypes.toList e (sp.f ds)) ⟨ds.map .d ++ List.replicate (fn.ntmps - ds.length) .any, []⟩) : MeetsRw P f sp e := by
 intro ds hpre X w vs hgw hvs
 have h2 := h ds hpre
 have hlen := hvs.len
 unfold UponCall
 rw [call_enter hf hb hname]
 simp only
 refine calls_of_wp hf hb ?_
 let F : Env := ⟨fun _ _ => False, fun β => X β ∨ w.heap.size ≤ β⟩
 let σ0 : Sg := ⟨fun _ => none, fun _ => undef, F.ok⟩
 have r0 : Rel w F σ0 ⟨ds.map .d ++ List.replicate (fn.ntmps - ds.length) .any, []⟩ { tmps := vs.toArray ++ Array.replicate (fn.ntmps - vs.toArray.size) undef, defers := [] } w := by
  refine ⟨rfl, by simp [hlen], ?_, fun b k hk => by simp [look] at hk, fun b b' k k' β h1 => by simp [look] at h1, fun b fs i r h => by simp [look] at h, Frm.refl _ w, fun β hβ => .inr hβ, rfl, hgw.mono fun _ h _ => .inl h, fun _ _ _ _ h => h⟩
  have := start_slot (w := w) (n := fn.ntmps - ds.length) (as := []) (us := []) (σ := σ0) (M := []) (Y := Xs σ0 [] w) .nil hvs (fun γ hγ => ⟨hγ.2, .inl hγ.1, fun b x hb => by simp [look] at hb⟩)
  intro i y hy
  rw [show vs.toArray.size = ds.length by simp [hlen]]
  exact this i y hy
 refine vc_sound K hm c _ _ _ _ _ _ hst r0 h2 ?_
 intro ex s' σ' a' w' r' hk
 have go : postRw C fn.results.toList fn.resultTypes.toList e (sp.f ds) s' → a'.defers = [] ∧ ∃ v, (results fn a'.tmps).run P w' = .ok v w' ∧ ∃ u0, Ending.returned v = .returned u0 ∧ Grow w w' ∧ ∃ x rs sz n cs u us, sp.f ds = .tup (x :: rs) ∧ w'.ownsRow 0 e sz u n cs ∧ (∀ g, u.ownBlock = some g → w.heap.size ≤ g) ∧
   RowC w' (fun γ => (X γ ∨ w.heap.size ≤ γ) ∧ γ < w'.heap.size ∧ u.ownBlock ≠ some γ) x sz n cs ∧ All2 (VR w' (fun γ => (X γ ∨ w.heap.size ≤ γ) ∧ γ < w'.heap.size ∧ u.ownBlock ≠ some γ)) rs us ∧
   u0 = (match rs with | [] => u | _ => .tuple (u :: us).toArray) := by
  intro hp
  obtain ⟨v, hrun, x, rs, sz, n, cs, u, us, q1, q2, q3, q4, q5, q6⟩ := postRw_sound K.1 r' hp
  exact ⟨r'.defs, v, hrun, v, rfl, ⟨r'.frm.os, r'.frm.tape, r'.frm.output, r'.frm.size, fun k hk => r'.frm.block k hk (fun ⟨_, h⟩ => h)⟩, x, rs, sz, n, cs, u, us, q1, q2, q3, q4, q5, q6⟩
 cases ex with
 | normal => exact go hk
 | ret => exact go hk
 | exit id => exact hk.elim
theorem meets_ioL_of_vc {P : Program} {C : Ctx} (K : CtxOk P C) (hm : P.follows .mixedOrders = true) {f : FuncId} {fn : Func} {c : Code} (hf : P.funcs[f]? = some fn) (hb : fn.body = some c) (hname : (fn.name == "runtime.NumGoroutine") = false)
  (hst : statOK C c = true) (sp : Spec) (i : Nat) (e : TypeId) (inv : List D → List D → Nat → Option Inv)
  (h : ∀ fs ds, sp.pre (.st fs :: ds) → i < fs.length → vc C (inv fs ds) c (finIoL C fn.results.toList fn.resultTypes.toList i e fs (sp.f (.st fs :: ds))) ⟨.lp 1000 [] :: (ds.map .d ++ List.replicate (fn.ntmps - (ds.length + 1)) .any), [(1000, .lnk fs i (some 1001)), (1001, .row e (fs.getD i default))]⟩) : MeetsIoL P f sp i e := by
 intro fs ds hpre hi hone X w vs β cs et u sz n rcs hgw hgβ hub hu hcell hcr hown hrow hvs
 have h2 := h fs ds hpre hi
 have hlen := hvs.len
 unfold UponCall
 rw [call_enter hf hb hname]
 simp only
 refine calls_of_wp hf hb ?_
 have hβlt := block_lt hcell
 let F : Env := ⟨fun b k => b = 1000 ∧ k = β ∨ b ≠ 1000 ∧ u.ownBlock = some k, fun γ => (X γ ∧ γ ≠ β ∧ u.ownBlock ≠ some γ) ∨ w.heap.size ≤ γ⟩
 let σ0 : Sg := ⟨fun b => if b = 1000 then some β else if b = 1001 then u.ownBlock else none, fun _ => u, F.ok⟩
 let M0 : Mem := [(1000, .lnk fs i (some 1001)), (1001, .row e (fs.getD i default))]
 have hlk : ∀ b k, look M0 b = some k → (b = 1000 ∧ k = .lnk fs i (some 1001)) ∨ (b = 1001 ∧ k = .row e (fs.getD i default)) := by
  intro b k hk
  simp only [M0, look] at hk
  rcases beq_cases 1000 b with ⟨h, e⟩ | ⟨h, e⟩
  ·rw [h] at hk
   exact .inl ⟨e.symm, (Option.some.inj hk).symm⟩
  ·rw [h] at hk
   simp only [cond_false] at hk
   rcases beq_cases 1001 b with ⟨h, e⟩ | ⟨h, e⟩
   ·rw [h] at hk
    exact .inr ⟨e.symm, (Option.some.inj hk).symm⟩
   ·rw [h] at hk
    cases hk
 have hXs : ∀ γ, (X γ ∧ γ < w.heap.size ∧ γ ≠ β ∧ u.ownBlock ≠ some γ) → Xs σ0 M0 w γ := by
  rintro γ ⟨q1, q2, q3, q4⟩
  refine ⟨q2, .inl ⟨q1, q3, q4⟩, fun b k hk => ?_⟩
  rcases hlk b k hk with ⟨rfl, _⟩ | ⟨rfl, _⟩
  ·simp only [σ0, if_pos]
   exact fun e => q3 (Option.some.inj e).symm
  ·simp only [σ0]
   exact q4
 have hbl : ∀ g, u.ownBlock = some g → g < w.heap.size := fun g hg => (hown.lt g hg).2
 have r0 : Rel w F σ0 ⟨.lp 1000 [] :: (ds.map .d ++ List.replicate (fn.ntmps - (ds.length + 1)) .any), M0⟩ { tmps := (Value.pointer (some ⟨β, 0, none⟩) :: vs).toArray ++ Array.replicate (fn.ntmps - (Value.pointer (some ⟨β, 0, none⟩) :: vs).toArray.size) undef, defers := [] } w := by
  refine ⟨rfl, ?_, ?_, fun b k hk => ?_, fun b b' k k' γ g1 g2 g3 g4 => ?_, fun b fs' i' r hk => ?_, Frm.refl _ w, ⟨fun γ hγ => .inr hγ, rfl, fun g d hd => ?_, fun g d hd => ?_⟩⟩
  ·simp [hlen]; omega
  ·have := start_slot (w := w) (n := fn.ntmps - (ds.length + 1)) (as := [.lp 1000 []]) (us := [Value.pointer (some ⟨β, 0, none⟩)]) (σ := σ0) (M := M0) (Y := Xs σ0 M0 w)
    (.cons ⟨fs, i, some 1001, β, rfl, rfl, by trivial, by rw [offS_nil]⟩ .nil) hvs hXs
   intro i y hy
   have hsz : (Value.pointer (some ⟨β, 0, none⟩) :: vs).toArray.size = ds.length + 1 := by simp [hlen]
   rw [hsz]
   exact this i y hy
  ·rcases hlk b k hk with ⟨rfl, rfl⟩ | ⟨rfl, rfl⟩
   ·exact ⟨hi, hone, u, hu, fun _ _ => rfl, β, cs, et, rfl, .inr ⟨Nat.le_refl _, .inl ⟨rfl, rfl⟩⟩, hcell, CR.mono (fun γ hγ => ⟨hXs γ hγ, rfl⟩) _ _ hcr⟩
   ·exact ⟨rcs, sz, n, rfl, hown, hrow.mono (fun γ hγ => ⟨hXs γ hγ, rfl⟩), fun g hg => .inr ⟨by omega, .inr ⟨by omega, hg⟩⟩⟩
  ·rcases hlk b k g1 with ⟨rfl, _⟩ | ⟨rfl, _⟩ <;> rcases hlk b' k' g2 with ⟨rfl, _⟩ | ⟨rfl, _⟩
   ·rfl
   ·simp only [σ0, if_pos] at g3 g4
    exact absurd (by rw [Option.some.inj g3]; exact g4) hub
   ·simp only [σ0, if_pos] at g3 g4
    exact absurd (by rw [Option.some.inj g4]; exact g3) hub
   ·rfl
  ·rcases hlk b _ hk with ⟨_, h⟩ | ⟨_, h⟩
   ·obtain ⟨_, _, h⟩ := Blk.lnk.inj h
    obtain rfl := Option.some.inj h
    exact ⟨e, _, rfl⟩
   ·cases h
  ·exact ⟨(hgw g d hd).1, .inl ⟨(hgw g d hd).2.1, (hgβ g d hd).1, (hgβ g d hd).2⟩, (hgw g d hd).2.2⟩
  ·rintro b (h | h)
   ·exact (hgβ g d hd).1 h.2
   ·exact (hgβ g d hd).2 h.2
 refine vc_sound K hm c _ _ _ _ _ _ hst r0 h2 ?_
 intro ex s' σ' a' w' r' hk
 have go : postIoL C fn.results.toList fn.resultTypes.toList i e fs (sp.f (.st fs :: ds)) s' → a'.defers = [] ∧ ∃ v, (results fn a'.tmps).run P w' = .ok v w' ∧ ∃ u0, Ending.returned v = .returned u0 ∧ Frm (fun k => k = β ∨ u.ownBlock = some k) w w' ∧ ∃ r fs' u' cs' et' sz' n' rcs', sp.f (.st fs :: ds) = .tup [r, .st fs'] ∧
   sk (.st fs') = sk (.st fs) ∧ isCell u' = true ∧ w'.heap[β]? = some (.cells (List.toArray cs') et' (0, 0)) ∧ u'.ownBlock ≠ some β ∧ (∀ g, u'.ownBlock = some g → u.ownBlock = some g ∨ w.heap.size ≤ g) ∧
   CR w' (fun γ => (X γ ∨ w.heap.size ≤ γ) ∧ γ < w'.heap.size ∧ γ ≠ β ∧ u'.ownBlock ≠ some γ) (.st (fs'.set i (.val u'))) cs' ∧
   w'.ownsRow 0 e sz' u' n' rcs' ∧ RowC w' (fun γ => (X γ ∨ w.heap.size ≤ γ) ∧ γ < w'.heap.size ∧ γ ≠ β ∧ u'.ownBlock ≠ some γ) (fs'.getD i default) sz' n' rcs' ∧
   VR w' (fun γ => (X γ ∨ w.heap.size ≤ γ) ∧ γ < w'.heap.size ∧ γ ≠ β ∧ u'.ownBlock ≠ some γ) r u0 := by
  intro hp
  obtain ⟨v, hrun, z, fs', u', β', cs', et', sz', n', rcs', q1, q2, q3, q4, q5, q6, q7, q8, q9, q10, q11⟩ := postIoL_sound K.1 r' hp
  have hββ : β' = β := by
   rcases q4 with q | q
   ·exact q.2
   ·exact absurd rfl q.1
  subst hββ
  have hX : ∀ γ, (F.ok γ ∧ γ < w'.heap.size ∧ γ ≠ β' ∧ u'.ownBlock ≠ some γ) → ((X γ ∨ w.heap.size ≤ γ) ∧ γ < w'.heap.size ∧ γ ≠ β' ∧ u'.ownBlock ≠ some γ) ∧ w'.heap[γ]? = w'.heap[γ]? := by
   rintro γ ⟨g1, g2, g3, g4⟩
   exact ⟨⟨g1.imp (fun h => h.1) id, g2, g3, g4⟩, rfl⟩
  refine ⟨r'.defs, v, hrun, v, rfl, r'.frm.mono (fun k ⟨b, h⟩ => h.imp (fun h => h.2) (fun h => h.2)), z, fs', u', cs', et', sz', n', rcs', q1, q2, q3, q5, q6, fun g hg => ?_, CR.mono hX _ _ q8, q9, q10.mono hX, VR.mono hX _ _ q11⟩
  rcases q7 g hg with h | ⟨b, h, hb⟩
  ·exact .inr h
  ·rcases h with h | h
   ·exact absurd h.1 hb
   ·exact .inl h.2
 cases ex with
 | normal => exact go hk
 | ret => exact go hk
 | exit id => exact hk.elim
end Go.Vg
namespace Go.Vg
open Go Go.RowKit
abbrev i64 (n : Int) : D := .val (.int .i64 n)
abbrev u64 (n : Int) : D := .val (.int .u64 n)
abbrev i32 (n : Int) : D := .val (.int .i32 n)
abbrev u32 (n : Int) : D := .val (.int .u32 n)
abbrev u8 (n : Int) : D := .val (.int .u8 n)
abbrev bl (b : Bool) : D := .val (.bool b)
abbrev bys (l : List Int) : D := .ints .u8 l
def slotN (s : St) (i : Nat) : Int := match s.T.getD i .any with
 | .d (.val (.int _ n)) => n
 | _ => 0
def slotD (s : St) (i : Nat) : D := match s.T.getD i .any with
 | .d d => d
 | _ => .val (.bool false)
def rowD (s : St) (i : Nat) : List Int := match look s.M i with
 | some (.row _ (.ints _ l)) => l
 | some (.fix (.arr _ _ l)) => l
 | _ => []
def bodyOf (f : Func) : Code := f.body.getD .skip
def entry (f : Func) (ds : List D) : St := ⟨ds.map .d ++ List.replicate (f.ntmps - ds.length) .any, []⟩
def owed (C : Ctx) (inv : Nat → Option Inv) (f : Func) (ds : List D) (want : D) : Prop :=
 vc C inv (bodyOf f) (fin C f.results.toList f.resultTypes.toList want) (entry f ds)
theorem meets_of_owed {P : Program} {C : Ctx} (K : CtxOk P C) (hm : P.follows .mixedOrders = true) {f : FuncId} {fn : Func} (hf : P.funcs[f]? = some fn) (hb : fn.body.isSome = true) (hname : (fn.name == "runtime.NumGoroutine") = false)
  (hst : statOK C (bodyOf fn) = true) (sp : Spec)
  (h : ∀ ds, sp.pre ds → (sp.flat = true → flatD (sp.f ds) = true) ∧ ∃ inv, owed C inv fn ds (sp.f ds)) : Meets P f sp := by
 obtain ⟨c, hc⟩ := Option.isSome_iff_exists.1 hb
 have e : bodyOf fn = c := by unfold bodyOf; rw [hc]; rfl
 refine meets_of_vc K hm hf hc hname (by rw [← e]; exact hst) sp (fun ds => Classical.epsilon fun inv => owed C inv fn ds (sp.f ds)) fun ds hp => ?_
 obtain ⟨h1, h2⟩ := h ds hp
 have h3 := Classical.epsilon_spec h2
 exact ⟨h1, by rw [← e]; exact h3⟩
def owedRw (C : Ctx) (inv : Nat → Option Inv) (f : Func) (e : TypeId) (ds : List D) (want : D) : Prop :=
 vc C inv (bodyOf f) (finRw C f.results.toList f.resultTypes.toList e want) (entry f ds)
theorem meetsRw_of_owed {P : Program} {C : Ctx} (K : CtxOk P C) (hm : P.follows .mixedOrders = true) {f : FuncId} {fn : Func} (hf : P.funcs[f]? = some fn) (hb : fn.body.isSome = true) (hname : (fn.name == "runtime.NumGoroutine") = false)
  (hst : statOK C (bodyOf fn) = true) (sp : Spec) (e : TypeId) (hio : ioFlag sp = true ∧ isIo sp = false ∧ lnkF sp.ps = none ∧ rwE sp.ps = some e)
  (h : ∀ ds, sp.pre ds → ∃ inv, owedRw C inv fn e ds (sp.f ds)) : MeetsQ P f sp := by
 obtain ⟨c, hc⟩ := Option.isSome_iff_exists.1 hb
 have e' : bodyOf fn = c := by unfold bodyOf; rw [hc]; rfl
 unfold MeetsQ MeetsP
 rw [hio.1, hio.2.1, hio.2.2.1, hio.2.2.2]
 refine meets_rw_of_vc K hm hf hc hname (by rw [← e']; exact hst) sp e (fun ds => Classical.epsilon fun inv => owedRw C inv fn e ds (sp.f ds)) fun ds hp => ?_
 have h3 := Classical.epsilon_spec (h ds hp)
 rw [← e']
 exact h3
def entryIoL (f : Func) (i : Nat) (e : TypeId) (fs ds : List D) : St := ⟨.lp 1000 [] :: (ds.map .d ++ List.replicate (f.ntmps - (ds.length + 1)) .any), [(1000, .lnk fs i (some 1001)), (1001, .row e (fs.getD i default))]⟩
def owedIoL (C : Ctx) (inv : Nat → Option Inv) (f : Func) (i : Nat) (e : TypeId) (fs ds : List D) (want : D) : Prop :=
 vc C inv (bodyOf f) (finIoL C f.results.toList f.resultTypes.toList i e fs want) (entryIoL f i e fs ds)
theorem meetsIoL_of_owed {P : Program} {C : Ctx} (K : CtxOk P C) (hm : P.follows .mixedOrders = true) {f : FuncId} {fn : Func} (hf : P.funcs[f]? = some fn) (hb : fn.body.isSome = true) (hname : (fn.name == "runtime.NumGoroutine") = false)
  (hst : statOK C (bodyOf fn) = true) (sp : Spec) (i : Nat) (e : TypeId) (hio : ioFlag sp = true ∧ lnkF sp.ps = some (i, e))
  (h : ∀ fs ds, sp.pre (.st fs :: ds) → ∃ inv, owedIoL C inv fn i e fs ds (sp.f (.st fs :: ds))) : MeetsQ P f sp := by
 obtain ⟨c, hc⟩ := Option.isSome_iff_exists.1 hb
 have e' : bodyOf fn = c := by unfold bodyOf; rw [hc]; rfl
 unfold MeetsQ MeetsP
 rw [hio.1, hio.2]
 refine meets_ioL_of_vc K hm hf hc hname (by rw [← e']; exact hst) sp i e (fun fs ds => Classical.epsilon fun inv => owedIoL C inv fn i e fs ds (sp.f (.st fs :: ds))) fun fs ds hp hi => ?_
 have h3 := Classical.epsilon_spec (h fs ds hp)
 rw [← e']
 exact h3
def lkS : List (Nat × Spec) → Nat → Option Spec
 | [], _ => none
 | (k, s) :: l, f => bif Nat.beq k f then some s else lkS l f
def AllM (P : Program) : List (Nat × Spec) → Prop
 | [] => True
 | (k, s) :: l => MeetsQ P k s ∧ AllM P l
theorem lkS_ok {P : Program} : ∀ {l : List (Nat × Spec)}, AllM P l → ∀ f s, lkS l f = some s → MeetsQ P f s
 | [], _, f, s, h => by cases h
 | (k, t) :: l, hl, f, s, h => by
  simp only [lkS] at h
  rcases beq_cases k f with ⟨hb, rfl⟩ | ⟨hb, hn⟩
  ·simp only [hb, cond_true, Option.some.injEq] at h
   subst h
   exact hl.1
  ·simp only [hb, cond_false] at h
   exact lkS_ok hl.2 f s h
theorem w8 (n : Int) : IntKind.u8.wrap n = n % 256 := by simp [IntKind.wrap, IntKind.bits, IntKind.signed]
theorem w32 (n : Int) : IntKind.u32.wrap n = n % 4294967296 := by simp [IntKind.wrap, IntKind.bits, IntKind.signed]
theorem w64 (n : Int) : IntKind.u64.wrap n = n % 18446744073709551616 := by simp [IntKind.wrap, IntKind.bits, IntKind.signed]
theorem wi64 (n : Int) : IntKind.i64.wrap n = (n + 9223372036854775808) % 18446744073709551616 - 9223372036854775808 := by
 simp [IntKind.wrap, IntKind.bits, IntKind.signed]
 split <;> omega
theorem wi {n : Int} (h : -9223372036854775808 ≤ n) (h2 : n ≤ 9223372036854775807) : IntKind.i64.wrap n = n := by
 rw [wi64]
 omega
theorem getD_map {α : Type} (f : α → D) (L : List α) (x : Int) (h0 : 0 ≤ x) (h : x < (L.length : Int)) (d : D) :
  ∃ e ∈ L, (L.map f).getD x.toNat d = f e ∧ L.take (x + 1).toNat = L.take x.toNat ++ [e] := by
 obtain ⟨n, rfl⟩ := Int.eq_ofNat_of_zero_le h0
 have hn : n < L.length := by omega
 refine ⟨L[n], List.getElem_mem hn, ?_, ?_⟩
 ·simp [List.getD_eq_getElem?_getD, hn]
 ·rw [show ((n : Int) + 1).toNat = n + 1 by omega, show (n : Int).toNat = n by omega, List.take_add_one]
  simp [hn]
theorem ishr_eq (k : IntKind) (x : Int) (m : Nat) (h : m ≤ k.bits) : ishr k x (m : Int) = x / 2 ^ m := by
 unfold ishr
 rw [Int.fdiv_eq_ediv_of_nonneg _ (by exact Int.le_of_lt (Int.pow_pos (by decide))), show min (m : Int).toNat k.bits = m by rw [Int.toNat_natCast]; omega]
theorem tdivN (n m : Nat) : (n : Int).tdiv m = (n / m : Nat) := by rw [Int.tdiv_eq_ediv_of_nonneg (Int.natCast_nonneg n)]; simp
theorem tmodN (n m : Nat) : (n : Int).tmod m = (n % m : Nat) := by rw [Int.tmod_eq_emod_of_nonneg (Int.natCast_nonneg n)]; simp
end Go.Vg
namespace Go.Vg
def vB (b : Nat) : List Int → Nat
 | [] => 0
 | x :: l => x.toNat + b * vB b l
def wl (n : Nat) (l : List Int) (m : Nat) : List Int := (List.range n).map fun j => ((vB 65536 ((l.take (4 * j + 4)).drop (max m (4 * j))) : Nat) : Int)
theorem wl_get {n : Nat} {l : List Int} {m j : Nat} (h : j < n) : (wl n l m).getD j 0 = ((vB 65536 ((l.take (4 * j + 4)).drop (max m (4 * j))) : Nat) : Int) := by
 simp [wl, List.getD_eq_getElem?_getD, h]
end Go.Vg
namespace Go.Vg
def kb (k : IntKind) : Nat := if k.signed then 2 ^ (k.bits - 1) else 2 ^ k.bits
theorem kb_le (k : IntKind) : kb k ≤ 2 ^ k.bits := by cases k <;> decide
theorem wrapN (k : IntKind) {n : Nat} (h : n < kb k) : k.wrap (n : Int) = (n : Int) := by
 cases k <;> simp [kb, IntKind.bits, IntKind.signed, IntKind.wrap] at h ⊢ <;> omega
theorem bvN (k : IntKind) {n : Nat} (h : n < kb k) : (BitVec.ofInt k.bits (n : Int)).toNat = n := by
 rw [BitVec.ofInt_natCast, BitVec.toNat_ofNat]
 exact Nat.mod_eq_of_lt (Nat.lt_of_lt_of_le h (kb_le k))
theorem kb_pow (k : IntKind) : ∃ e, kb k = 2 ^ e := by
 unfold kb
 split
 ·exact ⟨_, rfl⟩
 ·exact ⟨_, rfl⟩
theorem iandN (k : IntKind) {a b : Nat} (ha : a < kb k) (hb : b < kb k) : iand k (a : Int) (b : Int) = ((a &&& b : Nat) : Int) := by
 unfold iand
 rw [BitVec.toNat_and, bvN k ha, bvN k hb]
 exact wrapN k (Nat.lt_of_le_of_lt Nat.and_le_left ha)
theorem iorN (k : IntKind) {a b : Nat} (ha : a < kb k) (hb : b < kb k) : ior k (a : Int) (b : Int) = ((a ||| b : Nat) : Int) := by
 unfold ior
 rw [BitVec.toNat_or, bvN k ha, bvN k hb]
 obtain ⟨e, he⟩ := kb_pow k
 rw [he] at ha hb
 exact wrapN k (by rw [he]; exact Nat.or_lt_two_pow ha hb)
theorem ixorN (k : IntKind) {a b : Nat} (ha : a < kb k) (hb : b < kb k) : ixor k (a : Int) (b : Int) = ((a ^^^ b : Nat) : Int) := by
 unfold ixor
 rw [BitVec.toNat_xor, bvN k ha, bvN k hb]
 obtain ⟨e, he⟩ := kb_pow k
 rw [he] at ha hb
 exact wrapN k (by rw [he]; exact Nat.xor_lt_two_pow ha hb)
theorem ishrN (k : IntKind) {a m : Nat} (h : m ≤ k.bits) : ishr k (a : Int) (m : Int) = ((a / 2 ^ m : Nat) : Int) := by
 rw [ishr_eq k _ m h]
 simp
theorem ishlN (k : IntKind) {a m : Nat} (h : m ≤ k.bits) : ishl k (a : Int) (m : Int) = k.wrap ((a * 2 ^ m : Nat) : Int) := by
 unfold ishl
 rw [Int.toNat_natCast, Nat.min_eq_left h]
 simp
theorem wN8 (n : Nat) : IntKind.u8.wrap (n : Int) = ((n % 256 : Nat) : Int) := by rw [w8]; omega
theorem wN32 (n : Nat) : IntKind.u32.wrap (n : Int) = ((n % 4294967296 : Nat) : Int) := by rw [w32]; omega
theorem wNi {n : Nat} (h : n < 9223372036854775808) : IntKind.i64.wrap (n : Int) = (n : Int) := wi (by omega) (by omega)
end Go.Vg
