/- Vg, part R: a law's row, out of its meaning. -/
import Derived.Test.YtkicjckhkefnpaaDoorZb8
import Derived.SizedLaws
import Derived.WalkKit
import Derived.ShutString
import Derived.ChangeOld
import Derived.Test.YtkicjckhkefnpaaDoorZb7
namespace Go.Vg
open Go Go.RowKit
def OkAll (tab : Tab) (n : Nat) : List TypeId → List D → Prop
 | [], [] => True
 | t :: ts, d :: ds => OkT tab n t d ∧ OkAll tab n ts ds
 | _, _ => False
def supAll (tab : Tab) (n : Nat) (ts : List TypeId) : Bool := ts.all (supB tab n)
def lawSpec (tab : Tab) (ts : List TypeId) : Spec := ⟨OkAll tab 8 ts, fun _ => .val (.bool true), true, ts⟩
theorem args_D {H : Type} {enc : TypeId × Value → H} {P : Program} {tab : Tab} (T : TabOk P tab) {n : Nat} {w : World} {sp : Nat → Bool} {held : Bool} {r : Reach} {b0 : Nat} : ∀ (ts : List TypeId) (vs : List Value) (ds : List (DataW H)) (ps : List MemPlace), supAll tab n ts = true →
  (∀ (j : Nat) t v, ts[j]? = some t → vs[j]? = some v → Value.okWide P w r b0 t v) → DataW.TrodAll enc P w 0 sp held ts vs ds ps → Sz (DataW.weightsEach P ts ds) → ∃ xs, All2 (VR w (fun β => True ∧ β < w.heap.size)) xs vs ∧ OkAll tab n ts xs
 | [], [], [], _, _, _, _, _ => ⟨[], .nil, trivial⟩
 | t :: ts, v :: vs, d :: ds, ps, hs, hval, h, hw => by
  simp only [DataW.weightsEach] at hw
  obtain ⟨p, q, h1, h2, _⟩ := h
  simp only [supAll, List.all_cons, Bool.and_eq_true] at hs
  obtain ⟨x, g1, g2⟩ := arg_D T hs.1 (hval 0 t v rfl rfl) h1 (fun k hk => hw k (List.mem_append.2 (.inl hk)))
  obtain ⟨xs, g3, g4⟩ := args_D T ts vs ds q hs.2 (fun j t' v' ht hv => hval (j + 1) t' v' (by simpa using ht) (by simpa using hv)) h2 (fun k hk => hw k (List.mem_append.2 (.inr hk)))
  exact ⟨x :: xs, .cons (VR.mono (fun β hβ => ⟨⟨trivial, hβ⟩, rfl⟩) _ _ g1) g3, ⟨g2, g4⟩⟩
 | [], _ :: _, _, _, _, _, h, _ => h.elim
 | [], [], _ :: _, _, _, _, h, _ => h.elim
 | _ :: _, [], _, _, _, _, h, _ => h.elim
 | _ :: _, _ :: _, [], _, _, _, h, _ => h.elim
theorem weights_app {H : Type} {P : Program} : ∀ (ts ts' : List TypeId) (ds ds' : List (DataW H)) (n : Nat), n ∈ DataW.weightsEach P ts ds → n ∈ DataW.weightsEach P (ts ++ ts') (ds ++ ds')
 | [], _, _, _, n, h => by simp [DataW.weightsEach] at h
 | _ :: _, _, [], _, n, h => by simp [DataW.weightsEach] at h
 | t :: ts, ts', d :: ds, ds', n, h => by
  simp only [DataW.weightsEach, List.mem_append, List.cons_append] at h ⊢
  exact h.imp id fun h => weights_app ts ts' ds ds' n h
theorem law_sz {H : Type} {P : Program} {ts ts' : List TypeId} {ds ds' : List (DataW H)} (h : (DataW.weightsEach P (ts ++ ts') (ds ++ ds')).all (· ≤ reachBytes) = true) : (DataW.weightsEach P ts ds).all (· ≤ reachBytes) = true :=
 List.all_eq_true.2 fun n hn => List.all_eq_true.1 h n (weights_app ts ts' ds ds' n hn)
theorem law_calls {H : Type} {enc : TypeId × Value → H} {P : Program} {tab : Tab} (T : TabOk P tab) {f : FuncId} {fn : Func} (hf : P.funcs[f]? = some fn) (hb : fn.body.isSome = true) (hname : (fn.name == "runtime.NumGoroutine") = false) (hsup : supAll tab 8 fn.params.toList = true)
  (M : Meets P f (lawSpec tab fn.params.toList)) (W : World) (base : Nat) (args : Array Value) (ds : List (DataW H)) (p : List MemPlace) (hval : ∀ (j : Nat) t v, fn.params[j]? = some t → args[j]? = some v → Value.okWide P W .any base t v)
  (hA : DataW.TrodAll enc P W 0 (fun _ => true) true fn.params.toList args.toList ds p) (hw : (DataW.weightsEach P fn.params.toList ds).all (· ≤ reachBytes) = true) (hgw : GW W fun _ => True) : Calls P f args W fun e w' => e = .returned (.bool true) ∧ Below W.heap.size W w' := by
 obtain ⟨xs, h1, h2⟩ := args_D T fn.params.toList args.toList ds p hsup (fun j t v ht hv => hval j t v (by simpa using ht) (by simpa using hv)) hA (fun n hn => show n ≤ reachBytes by simpa using List.all_eq_true.1 hw n hn)
 have hu := (M xs h2).2 (fun _ => True) W args.toList hgw h1
 unfold UponCall at hu
 obtain ⟨c, hc⟩ := Option.isSome_iff_exists.1 hb
 have hn : ¬ fn.name = "runtime.NumGoroutine" := by simpa using hname
 have hcall : (callFunc f args.toList.toArray).run P W = .ok (.enter f args) W := by
  simp [callFunc, program, Sem.run, hf, hn, hc]
 rw [hcall] at hu
 refine Calls.mono hu ?_
 rintro e w' ⟨v, rfl, hg, hv⟩
 have ev := vr_val (X := fun β => (True ∨ W.heap.size ≤ β) ∧ β < w'.heap.size) hv
 subst ev
 exact ⟨rfl, hg.os, hg.tape, hg.output, hg.size, hg.block⟩
end Go.Vg
namespace Go.Vg
open Go Go.RowKit
def postIo (C : Ctx) (rs : List ResultVar) (ts : List TypeId) (x0 want : D) (s : St) : Prop :=
 match frzArgs (rs.map (resAV s)) s with
 | s' => match resAll C.tab s' rs ts, look s'.M 1000 with
  | (c, ds), some (.fix x') => c ∧ sk x' = sk x0 ∧ D.tup [mkD ds, x'] = want
  | _, _ => False
def finIo (C : Ctx) (rs : List ResultVar) (ts : List TypeId) (x0 want : D) : Ex → St → Prop
 | .normal, s => postIo C rs ts x0 want s
 | .ret, s => postIo C rs ts x0 want s
 | .exit _, _ => False
def postNew (C : Ctx) (rs : List ResultVar) (ts : List TypeId) (want : D) (s : St) : Prop :=
 match frzArgs (rs.tail.map (resAV s)) s with
 | s' => match rs with
  | .tmp i :: rs => match s'.T.getD i .any with
   | .ptr b [] => match look s'.M b, resAll C.tab s' rs ts.tail with
    | some (.fix x), (c, ds) => c ∧ (match Nat.blt b 1000 with | true => True | false => False) ∧ D.tup (x :: ds) = want
    | _, _ => False
   | .lp b [] => match look s'.M b, resAll C.tab s' rs ts.tail with
    | some (.lnk fs j (some q)), (c, ds) => match look s'.M q with
     | some (.row _ z) => c ∧ (match Nat.blt b 1000 && Nat.blt q 1000 with | true => True | false => False) ∧ D.tup (.st (fs.set j z) :: ds) = want
     | _ => False
    | _, _ => False
   | _ => False
  | _ => False
def finNew (C : Ctx) (rs : List ResultVar) (ts : List TypeId) (want : D) : Ex → St → Prop
 | .normal, s => postNew C rs ts want s
 | .ret, s => postNew C rs ts want s
 | .exit _, _ => False
section
variable {P : Program} {C : Ctx} {w0 : World} {F : Env} {σ : Sg} {s : St} {a : Act} {w : World}
theorem lnk_CR {X X' : Nat → Prop} {fs : List D} {i : Nat} {u : Value} {z : D} {cs : List Value} (hcr : CR w X (.st (fs.set i (.val u))) cs) (hi : i < fs.length) (hX : ∀ β, X β → X' β) (hz : CR w X' z [u]) : CR w X' (.st (fs.set i z)) cs := by
 simp only [CR] at hcr ⊢
 have hcr := CRs.mono (fun β hβ => ⟨hX β hβ, rfl⟩) _ _ hcr
 obtain ⟨v1, v2, v3, rfl, hl, hg, hset⟩ := CRs.nth _ cs i hcr (by simpa using hi)
 rw [getDset_eq fs _ _ hi] at hg
 obtain ⟨rfl, _⟩ := hg
 have := hset z _ hz
 rw [List.set_set] at this
 exact this
theorem row_CR {X X' : Nat → Prop} {F : Nat → Nat → Prop} {e : TypeId} {x : D} {b : Nat} (hm : BR σ w0 F w X b (.row e x)) (h : ∀ β, X β → X' β) (hg : ∀ g, (σ.rv b).ownBlock = some g → g < w.heap.size → X' g) : CR w X' x [σ.rv b] := by
 have h1 := (row_reads hm (fun β hβ => ⟨h β hβ, rfl⟩) hg).1
 obtain ⟨_, _, _, _, _, h3, _⟩ := hm
 cases x with
 | ints k l => exact h1
 | slc sz xs => exact h1
 | _ => exact h3.elim
theorem postIo_sound {fn : Func} {ts : List TypeId} {x0 want : D} (T : TabOk P C.tab) (r : Rel w0 F σ s a w) (h : postIo C fn.results.toList ts x0 want s) :
  ∃ v, (results fn a.tmps).run P w = .ok v w ∧ ∃ z x' β cs e, want = .tup [z, x'] ∧ sk x' = sk x0 ∧ F.F 1000 β ∧ w.heap[β]? = some (.cells (List.toArray cs) e (0, 0)) ∧
   CR w (fun γ => F.ok γ ∧ γ < w.heap.size ∧ γ ≠ β) x' cs ∧ VR w (fun γ => F.ok γ ∧ γ < w.heap.size ∧ γ ≠ β) z v := by
 unfold postIo at h
 have r' := r.frzArgs (fn.results.toList.map (resAV s))
 generalize hs' : frzArgs (fn.results.toList.map (resAV s)) s = s' at h r'
 simp only at h
 split at h
 case h_2 => exact h.elim
 rename_i c ds x' hc hlk
 obtain ⟨h1, h2, h3⟩ := h
 have hra := resAll_sound T r' fn.results.toList ts (by rw [hc]; exact h1)
 rw [hc] at hra
 obtain ⟨vs, hrun, hall⟩ := hra
 obtain ⟨β, cs, e, hσ, hF, hh, hcr⟩ := r'.mem _ _ hlk
 have hX : ∀ γ, Xs σ s'.M w γ → (F.ok γ ∧ γ < w.heap.size ∧ γ ≠ β) ∧ w.heap[γ]? = w.heap[γ]? := fun γ hγ => ⟨⟨by rw [← r.okn.2.1]; exact hγ.2.1, hγ.1, fun e => hγ.2.2 _ _ hlk (by rw [hσ, e])⟩, rfl⟩
 have hall' := hall.mono fun d v hv => VR1.mono hX d v hv
 refine ⟨if h : vs.toArray.size = 1 then vs.toArray[0] else .tuple vs.toArray, ?_, mkD ds, x', β, cs, e, h3.symm, h2, by rcases hF with hF | hF; omega; exact hF.2, hh, CR.mono hX _ _ hcr, ?_⟩
 ·unfold results
  rw [Array.mapM_eq_mapM_toList]
  simp only [Sem.run_bind, map_eq_pure_bind]
  rw [hrun _ (fun _ => rfl) (fun _ _ => rfl)]
  simp only [Result.andThen_ok, Sem.run_pure]
 ·cases hall' with
  | nil => exact ⟨[], rfl, .nil⟩
  | cons q1 q2 =>
   cases q2 with
   | nil => exact VR1.up q1
   | cons q2 q3 => exact ⟨_, rfl, .cons q1 (.cons q2 q3)⟩
theorem all2_up {X : Nat → Prop} {ds : List D} {vs : List Value} (h : All2 (VR1 w X) ds vs) : All2 (VR w X) ds vs := by
 induction h with
 | nil => exact .nil
 | cons q _ ih => exact .cons (VR1.up q) ih
theorem postNew_sound {fn : Func} {ts : List TypeId} {want : D} (T : TabOk P C.tab) (r : Rel w0 F σ s a w) (h : postNew C fn.results.toList ts want s) :
  ∃ v, (results fn a.tmps).run P w = .ok v w ∧ ∃ x rs β cs e us, want = .tup (x :: rs) ∧ w0.heap.size ≤ β ∧ w.heap[β]? = some (.cells (List.toArray cs) e (0, 0)) ∧
   CR w (fun γ => F.ok γ ∧ γ < w.heap.size ∧ γ ≠ β) x cs ∧ All2 (VR w (fun γ => F.ok γ ∧ γ < w.heap.size ∧ γ ≠ β)) rs us ∧
   v = (match rs with | [] => Value.pointer (some ⟨β, 0, none⟩) | _ => .tuple (Value.pointer (some ⟨β, 0, none⟩) :: us).toArray) := by
 unfold postNew at h
 have r' := r.frzArgs (fn.results.toList.tail.map (resAV s))
 generalize hs' : frzArgs (fn.results.toList.tail.map (resAV s)) s = s' at h r'
 simp only at h
 split at h
 case h_2 => exact h.elim
 rename_i i rs hrs
 split at h
 case h_3 => exact h.elim
 case h_2 b hT =>
  split at h
  case h_2 => exact h.elim
  rename_i fs j q c ds hlk hc
  split at h
  case h_2 => exact h.elim
  rename_i e' z hq
  obtain ⟨h1, h2, h3⟩ := h
  obtain ⟨hlt, hlq⟩ : b < 1000 ∧ q < 1000 := by
   cases hh : (Nat.blt b 1000 && Nat.blt q 1000) with
   | false => rw [hh] at h2; exact h2.elim
   | true =>
    simp only [Bool.and_eq_true, Nat.blt_eq] at hh
    exact hh
  have hra := resAll_sound T r' rs ts.tail (by rw [hc]; exact h1)
  rw [hc] at hra
  obtain ⟨vs, hrun, hall⟩ := hra
  obtain ⟨g1, g2, u, g3, g4, β, cs, e, hσ, hF, hh, hcr⟩ := r'.mem _ _ hlk
  have hu := g4 q rfl
  subst hu
  have hmq := r'.mem q _ hq
  have hX : ∀ γ, Xs σ s'.M w γ → (F.ok γ ∧ γ < w.heap.size ∧ γ ≠ β) := fun γ hγ => ⟨by rw [← r.okn.2.1]; exact hγ.2.1, hγ.1, fun e => hγ.2.2 _ _ hlk (by rw [hσ, e])⟩
  have hall' := all2_up (hall.mono fun d v hv => VR1.mono (fun γ hγ => ⟨hX γ hγ, rfl⟩) d v hv)
  have hp := ev_sound r' (.tmp i)
  simp only [evA, Act.eval] at hp
  rw [hT] at hp
  obtain ⟨fs2, i2, q2, β2, k1, k2, _, k3⟩ := hp
  rw [hlk] at k1
  obtain ⟨rfl, rfl, rfl⟩ := Blk.lnk.inj (Option.some.inj k1)
  rw [hσ] at k2
  obtain rfl := Option.some.inj k2
  have hz : CR w (fun γ => F.ok γ ∧ γ < w.heap.size ∧ γ ≠ β) z [σ.rv q] := row_CR hmq hX (fun g hg hgl => by
   obtain ⟨_, _, _, p1, _, _, p4⟩ := hmq
   refine ⟨?_, hgl, fun e => ?_⟩
   ·rcases p4 g hg with h | h
    ·rw [← r.okn.2.1]; exact r.okn.1 g h
    ·omega
   ·have := r'.inj b q _ _ β hlk hq hσ (by rw [p1, hg, e])
    rw [← this, hlk] at hq
    cases hq)
  refine ⟨if h : (a.tmps.getD i undef :: vs).toArray.size = 1 then (a.tmps.getD i undef :: vs).toArray[0] else .tuple (a.tmps.getD i undef :: vs).toArray, ?_, .st (fs.set j z), ds, β, cs, e, vs, h3.symm, by rcases hF with hF | hF; exact hF.2; omega, hh, lnk_CR hcr g1 hX hz, hall', ?_⟩
  ·unfold results
   rw [Array.mapM_eq_mapM_toList, hrs, List.mapM_cons]
   simp only [Sem.run_bind, map_eq_pure_bind, Sem.run_pure, Result.andThen_ok]
   rw [hrun _ (fun _ => rfl) (fun _ _ => rfl)]
   simp only [Result.andThen_ok, Sem.run_pure]
  ·have q3' : a.tmps.getD i undef = .pointer (some ⟨β, 0, none⟩) := by rw [k3, offS_nil]
   rw [q3']
   cases hall' with
   | nil => rfl
   | cons g1 g2 => rfl
 rename_i b hT
 split at h
 case h_2 => exact h.elim
 rename_i x c ds hlk hc
 obtain ⟨h1, h2, h3⟩ := h
 have hlt : b < 1000 := by
  rcases blt_spec b 1000 with ⟨_, q⟩ | ⟨q, _⟩
  ·exact q
  ·rw [q] at h2; exact h2.elim
 have hra := resAll_sound T r' rs ts.tail (by rw [hc]; exact h1)
 rw [hc] at hra
 obtain ⟨vs, hrun, hall⟩ := hra
 obtain ⟨β, cs, e, hσ, hF, hh, hcr⟩ := r'.mem _ _ hlk
 have hX : ∀ γ, Xs σ s'.M w γ → (F.ok γ ∧ γ < w.heap.size ∧ γ ≠ β) ∧ w.heap[γ]? = w.heap[γ]? := fun γ hγ => ⟨⟨by rw [← r.okn.2.1]; exact hγ.2.1, hγ.1, fun e => hγ.2.2 _ _ hlk (by rw [hσ, e])⟩, rfl⟩
 have hall' := all2_up (hall.mono fun d v hv => VR1.mono hX d v hv)
 have hp := ev_sound r' (.tmp i)
 simp only [evA, Act.eval] at hp
 rw [hT] at hp
 obtain ⟨x2, β2, q1, q2, _, q3⟩ := hp
 rw [hσ] at q2
 obtain rfl := Option.some.inj q2
 refine ⟨if h : (a.tmps.getD i undef :: vs).toArray.size = 1 then (a.tmps.getD i undef :: vs).toArray[0] else .tuple (a.tmps.getD i undef :: vs).toArray, ?_, x, ds, β, cs, e, vs, h3.symm, by rcases hF with hF | hF; exact hF.2; omega, hh, CR.mono hX _ _ hcr, hall', ?_⟩
 ·unfold results
  rw [Array.mapM_eq_mapM_toList, hrs, List.mapM_cons]
  simp only [Sem.run_bind, map_eq_pure_bind, Sem.run_pure, Result.andThen_ok]
  rw [hrun _ (fun _ => rfl) (fun _ _ => rfl)]
  simp only [Result.andThen_ok, Sem.run_pure]
 ·have q3' : a.tmps.getD i undef = .pointer (some ⟨β, 0, none⟩) := by rw [q3, offS_nil]
  rw [q3']
  cases hall' with
  | nil => rfl
  | cons g1 g2 => rfl
end
theorem start_slot {w : World} {X : Nat → Prop} {ds : List D} {vs : List Value} {n : Nat} {as : List AV} {us : List Value} {σ : Sg} {M : Mem} {Y : Nat → Prop} (h0 : All2 (AR σ M w Y) as us) (hvs : All2 (VR w X) ds vs) (hX : ∀ γ, X γ → Y γ) :
  ∀ (i : Nat) (x : AV), (as ++ ds.map AV.d ++ List.replicate n AV.any)[i]? = some x → ∃ v, ((us ++ vs).toArray ++ Array.replicate n undef)[i]? = some v ∧ AR σ M w Y x v := by
 have h1 : All2 (AR σ M w Y) (ds.map AV.d) vs := all2_caps (hvs.mono fun d v hv => VR.mono (fun γ hγ => ⟨hX γ hγ, rfl⟩) d v hv)
 have h2 := all2_app h0 h1
 have hl := h2.len
 intro i x hx
 rcases Nat.lt_or_ge i (as ++ ds.map AV.d).length with hi | hi
 ·rw [List.getElem?_append_left hi] at hx
  obtain ⟨v, hv, hvr⟩ := h2.get i x hx
  refine ⟨v, ?_, hvr⟩
  rw [Array.getElem?_append_left (by rw [List.size_toArray]; omega)]
  simpa using hv
 ·rw [List.getElem?_append_right hi, List.getElem?_replicate] at hx
  split at hx
  ·rename_i hlt
   obtain rfl := Option.some.inj hx
   refine ⟨undef, ?_, trivial⟩
   rw [Array.getElem?_append_right (by rw [List.size_toArray]; omega), Array.getElem?_replicate, if_pos (by rw [List.size_toArray]; omega)]
  ·cases hx
theorem call_enter {P : Program} {f : FuncId} {fn : Func} {c : Code} (hf : P.funcs[f]? = some fn) (hb : fn.body = some c) (hname : (fn.name == "runtime.NumGoroutine") = false) (vs : Array Value) (w : World) : (callFunc f vs).run P w = .ok (.enter f vs) w := by
 have hn : ¬ fn.name = "runtime.NumGoroutine" := by simpa using hname
 simp [callFunc, program, Sem.run, hf, hn, hb]
theorem meets_io_of_vc {P : Program} {C : Ctx} (K : CtxOk P C) (hm : P.follows .mixedOrders = true) {f : FuncId} {fn : Func} {c : Code} (hf : P.funcs[f]? = some fn) (hb : fn.body = some c) (hname : (fn.name == "runtime.NumGoroutine") = false)
  (hst : statOK C c = true) (sp : Spec) (inv : D → List D → Nat → Option Inv)
  (h : ∀ x ds, sp.pre (x :: ds) → vc C (inv x ds) c (finIo C fn.results.toList fn.resultTypes.toList x (sp.f (x :: ds))) ⟨.ptr 1000 [] :: (ds.map .d ++ List.replicate (fn.ntmps - (ds.length + 1)) .any), [(1000, .fix x)]⟩) : MeetsIo P f sp := by
 intro x ds hpre X w vs β cs e hgw hgβ hcell hcr hvs
 have h2 := h x ds hpre
 have hlen := hvs.len
 unfold UponCall
 rw [call_enter hf hb hname]
 simp only
 refine calls_of_wp hf hb ?_
 have hβlt := block_lt hcell
 let F : Env := ⟨fun b k => b = 1000 ∧ k = β, fun γ => (X γ ∧ γ ≠ β) ∨ w.heap.size ≤ γ⟩
 let σ0 : Sg := ⟨fun b => if b = 1000 then some β else none, fun _ => undef, F.ok⟩
 have hlk : ∀ b k, look [(1000, Blk.fix x)] b = some k → b = 1000 ∧ k = .fix x := by
  intro b k hk
  simp only [look] at hk
  rcases beq_cases 1000 b with ⟨h, e⟩ | ⟨h, e⟩
  ·rw [h] at hk
   exact ⟨e.symm, (Option.some.inj hk).symm⟩
  ·rw [h] at hk
   cases hk
 have hXs : ∀ γ, (X γ ∧ γ < w.heap.size ∧ γ ≠ β) → Xs σ0 [(1000, Blk.fix x)] w γ := by
  rintro γ ⟨q1, q2, q3⟩
  refine ⟨q2, .inl ⟨q1, q3⟩, fun b k hk => ?_⟩
  obtain ⟨rfl, _⟩ := hlk b k hk
  simp only [σ0, if_pos]
  intro e
  exact q3 (Option.some.inj e).symm
 have r0 : Rel w F σ0 ⟨.ptr 1000 [] :: (ds.map .d ++ List.replicate (fn.ntmps - (ds.length + 1)) .any), [(1000, .fix x)]⟩ { tmps := (Value.pointer (some ⟨β, 0, none⟩) :: vs).toArray ++ Array.replicate (fn.ntmps - (Value.pointer (some ⟨β, 0, none⟩) :: vs).toArray.size) undef, defers := [] } w := by
  refine ⟨rfl, ?_, ?_, fun b k hk => ?_, fun b b' k k' γ g1 g2 _ _ => ?_, fun b fs i r hk => by (have := (hlk b _ hk).2; cases this), Frm.refl _ w, ⟨fun γ hγ => .inr hγ, rfl, fun g d hd => ?_, fun g d hd b h => hgβ g d hd h.2⟩⟩
  ·simp [hlen]; omega
  ·have := start_slot (w := w) (n := fn.ntmps - (ds.length + 1)) (as := [.ptr 1000 []]) (us := [Value.pointer (some ⟨β, 0, none⟩)]) (σ := σ0) (M := [(1000, .fix x)]) (Y := Xs σ0 [(1000, .fix x)] w)
    (.cons ⟨x, β, rfl, rfl, by trivial, by rw [offS_nil]⟩ .nil) hvs hXs
   intro i y hy
   have hsz : (Value.pointer (some ⟨β, 0, none⟩) :: vs).toArray.size = ds.length + 1 := by simp [hlen]
   rw [hsz]
   exact this i y hy
  ·obtain ⟨rfl, rfl⟩ := hlk b k hk
   exact ⟨β, cs, e, rfl, .inr ⟨Nat.le_refl _, rfl, rfl⟩, hcell, CR.mono (fun γ hγ => ⟨hXs γ hγ, rfl⟩) _ _ hcr⟩
  ·rw [(hlk b k g1).1, (hlk b' k' g2).1]
  ·exact ⟨(hgw g d hd).1, .inl ⟨(hgw g d hd).2.1, hgβ g d hd⟩, (hgw g d hd).2.2⟩
 refine vc_sound K hm c _ _ _ _ _ _ hst r0 h2 ?_
 intro e s' σ' a' w' r' hk
 have go : postIo C fn.results.toList fn.resultTypes.toList x (sp.f (x :: ds)) s' → a'.defers = [] ∧ ∃ v, (results fn a'.tmps).run P w' = .ok v w' ∧ ∃ u, Ending.returned v = .returned u ∧ Frm (· = β) w w' ∧ ∃ r x' cs' e', sp.f (x :: ds) = .tup [r, x'] ∧ sk x' = sk x ∧ w'.heap[β]? = some (.cells (List.toArray cs') e' (0, 0)) ∧
   CR w' (fun γ => (X γ ∨ w.heap.size ≤ γ) ∧ γ < w'.heap.size ∧ γ ≠ β) x' cs' ∧ VR w' (fun γ => (X γ ∨ w.heap.size ≤ γ) ∧ γ < w'.heap.size ∧ γ ≠ β) r u := by
  intro hp
  obtain ⟨v, hrun, z, x', β', cs', e', q1, q2, q3, q4, q5, q6⟩ := postIo_sound K.1 r' hp
  have q3 : β' = β := q3.2
  subst q3
  have hX : ∀ γ, (F.ok γ ∧ γ < w'.heap.size ∧ γ ≠ β') → ((X γ ∨ w.heap.size ≤ γ) ∧ γ < w'.heap.size ∧ γ ≠ β') ∧ w'.heap[γ]? = w'.heap[γ]? := by
   rintro γ ⟨g1, g2, g3⟩
   exact ⟨⟨g1.imp (fun h => h.1) id, g2, g3⟩, rfl⟩
  exact ⟨r'.defs, v, hrun, v, rfl, r'.frm.mono (fun k ⟨b, h⟩ => h.2), z, x', cs', e', q1, q2, q4, CR.mono hX _ _ q5, VR.mono hX _ _ q6⟩
 cases e with
 | normal => exact go hk
 | ret => exact go hk
 | exit id => exact hk.elim
theorem meets_new_of_vc {P : Program} {C : Ctx} (K : CtxOk P C) (hm : P.follows .mixedOrders = true) {f : FuncId} {fn : Func} {c : Code} (hf : P.funcs[f]? = some fn) (hb : fn.body = some c) (hname : (fn.name == "runtime.NumGoroutine") = false)
  (hst : statOK C c = true) (sp : Spec) (inv : List D → Nat → Option Inv)
  (h : ∀ ds, sp.pre ds → vc C (inv ds) c (finNew C fn.results.toList fn.resultTypes.toList (sp.f ds)) ⟨ds.map .d ++ List.replicate (fn.ntmps - ds.length) .any, []⟩) : MeetsNew P f sp := by
 intro ds hpre X w vs hgw hvs
 have h2 := h ds hpre
 have hlen := hvs.len
 unfold UponCall
 rw [call_enter hf hb hname]
 simp only
 refine calls_of_wp hf hb ?_
 let F : Env := ⟨fun _ _ => False, fun β => X β ∨ w.heap.size ≤ β⟩
 let σ0 : Sg := ⟨fun _ => none, fun _ => undef, F.ok⟩
 have r0 : Rel w F σ0 ⟨ds.map .d ++ List.replicate (fn.ntmps - ds.length) .any, []⟩ { tmps := vs.toArray ++ Array.replicate (fn.ntmps - vs.toArray.size) undef, defers := [] } w := by
  refine ⟨rfl, by simp [hlen], ?_, fun b k hk => by simp [look] at hk, fun b b' k k' β h1 => by simp [look] at h1, fun b fs i r h => by simp [look] at h, Frm.refl _ w, fun β hβ => .inr hβ, rfl, hgw.mono fun _ h _ => .inl h, fun _ _ _ _ h => h⟩
  have := start_slot (w := w) (n := fn.ntmps - ds.length) (as := []) (us := []) (σ := σ0) (M := []) (Y := Xs σ0 [] w) .nil hvs (fun γ hγ => ⟨hγ.2, .inl hγ.1, fun b x hb => by simp [look] at hb⟩)
  intro i y hy
  rw [show vs.toArray.size = ds.length by simp [hlen]]
  exact this i y hy
 refine vc_sound K hm c _ _ _ _ _ _ hst r0 h2 ?_
 intro e s' σ' a' w' r' hk
 have go : postNew C fn.results.toList fn.resultTypes.toList (sp.f ds) s' → a'.defers = [] ∧ ∃ v, (results fn a'.tmps).run P w' = .ok v w' ∧ ∃ u, Ending.returned v = .returned u ∧ Grow w w' ∧ ∃ x rs β cs e us, sp.f ds = .tup (x :: rs) ∧ w.heap.size ≤ β ∧ w'.heap[β]? = some (.cells (List.toArray cs) e (0, 0)) ∧
   CR w' (fun γ => (X γ ∨ w.heap.size ≤ γ) ∧ γ < w'.heap.size ∧ γ ≠ β) x cs ∧ All2 (VR w' (fun γ => (X γ ∨ w.heap.size ≤ γ) ∧ γ < w'.heap.size ∧ γ ≠ β)) rs us ∧
   u = (match rs with | [] => Value.pointer (some ⟨β, 0, none⟩) | _ => .tuple (Value.pointer (some ⟨β, 0, none⟩) :: us).toArray) := by
  intro hp
  obtain ⟨v, hrun, x, rs, β, cs, e, us, q1, q2, q3, q4, q5, q6⟩ := postNew_sound K.1 r' hp
  exact ⟨r'.defs, v, hrun, v, rfl, ⟨r'.frm.os, r'.frm.tape, r'.frm.output, r'.frm.size, fun k hk => r'.frm.block k hk (fun ⟨_, h⟩ => h)⟩, x, rs, β, cs, e, us, q1, q2, q3, q4, q5, q6⟩
 cases e with
 | normal => exact go hk
 | ret => exact go hk
 | exit id => exact hk.elim
end Go.Vg
namespace Go.Vg
open Go Go.RowKit
abbrev i64 (n : Int) : D := .val (.int .i64 n)
abbrev u64 (n : Int) : D := .val (.int .u64 n)
abbrev i32 (n : Int) : D := .val (.int .i32 n)
abbrev u32 (n : Int) : D := .val (.int .u32 n)
abbrev u8 (n : Int) : D := .val (.int .u8 n)
abbrev bl (b : Bool) : D := .val (.bool b)
def slotN (s : St) (i : Nat) : Int := match s.T.getD i .any with
 | .d (.val (.int _ n)) => n
 | _ => 0
def slotD (s : St) (i : Nat) : D := match s.T.getD i .any with
 | .d d => d
 | _ => .val (.bool false)
def rowD (s : St) (i : Nat) : List Int := match look s.M i with
 | some (.row _ (.ints _ l)) => l
 | some (.fix (.arr _ _ l)) => l
 | _ => []
def bodyOf (f : Func) : Code := f.body.getD .skip
def entry (f : Func) (ds : List D) : St := ⟨ds.map .d ++ List.replicate (f.ntmps - ds.length) .any, []⟩
def owed (C : Ctx) (inv : Nat → Option Inv) (f : Func) (ds : List D) (want : D) : Prop :=
 vc C inv (bodyOf f) (fin C f.results.toList f.resultTypes.toList want) (entry f ds)
theorem meets_of_owed {P : Program} {C : Ctx} (K : CtxOk P C) (hm : P.follows .mixedOrders = true) {f : FuncId} {fn : Func} (hf : P.funcs[f]? = some fn) (hb : fn.body.isSome = true) (hname : (fn.name == "runtime.NumGoroutine") = false)
  (hst : statOK C (bodyOf fn) = true) (sp : Spec)
  (h : ∀ ds, sp.pre ds → (sp.flat = true → flatD (sp.f ds) = true) ∧ ∃ inv, owed C inv fn ds (sp.f ds)) : Meets P f sp := by
 obtain ⟨c, hc⟩ := Option.isSome_iff_exists.1 hb
 have e : bodyOf fn = c := by unfold bodyOf; rw [hc]; rfl
 refine meets_of_vc K hm hf hc hname (by rw [← e]; exact hst) sp (fun ds => Classical.epsilon fun inv => owed C inv fn ds (sp.f ds)) fun ds hp => ?_
 obtain ⟨h1, h2⟩ := h ds hp
 have h3 := Classical.epsilon_spec h2
 exact ⟨h1, by rw [← e]; exact h3⟩
def entryIo (f : Func) (x : D) (ds : List D) : St := ⟨.ptr 1000 [] :: (ds.map .d ++ List.replicate (f.ntmps - (ds.length + 1)) .any), [(1000, .fix x)]⟩
def owedIo (C : Ctx) (inv : Nat → Option Inv) (f : Func) (x : D) (ds : List D) (want : D) : Prop :=
 vc C inv (bodyOf f) (finIo C f.results.toList f.resultTypes.toList x want) (entryIo f x ds)
def owedNew (C : Ctx) (inv : Nat → Option Inv) (f : Func) (ds : List D) (want : D) : Prop :=
 vc C inv (bodyOf f) (finNew C f.results.toList f.resultTypes.toList want) (entry f ds)
theorem meetsIo_of_owed {P : Program} {C : Ctx} (K : CtxOk P C) (hm : P.follows .mixedOrders = true) {f : FuncId} {fn : Func} (hf : P.funcs[f]? = some fn) (hb : fn.body.isSome = true) (hname : (fn.name == "runtime.NumGoroutine") = false)
  (hst : statOK C (bodyOf fn) = true) (sp : Spec) (hio : ioFlag sp = true ∧ isIo sp = true ∧ lnkF sp.ps = none)
  (h : ∀ x ds, sp.pre (x :: ds) → ∃ inv, owedIo C inv fn x ds (sp.f (x :: ds))) : MeetsQ P f sp := by
 obtain ⟨c, hc⟩ := Option.isSome_iff_exists.1 hb
 have e : bodyOf fn = c := by unfold bodyOf; rw [hc]; rfl
 unfold MeetsQ MeetsP
 rw [hio.1, hio.2.1, hio.2.2]
 refine meets_io_of_vc K hm hf hc hname (by rw [← e]; exact hst) sp (fun x ds => Classical.epsilon fun inv => owedIo C inv fn x ds (sp.f (x :: ds))) fun x ds hp => ?_
 have h3 := Classical.epsilon_spec (h x ds hp)
 rw [← e]
 exact h3
theorem meetsNew_of_owed {P : Program} {C : Ctx} (K : CtxOk P C) (hm : P.follows .mixedOrders = true) {f : FuncId} {fn : Func} (hf : P.funcs[f]? = some fn) (hb : fn.body.isSome = true) (hname : (fn.name == "runtime.NumGoroutine") = false)
  (hst : statOK C (bodyOf fn) = true) (sp : Spec) (hio : ioFlag sp = true ∧ isIo sp = false ∧ lnkF sp.ps = none ∧ rwE sp.ps = none)
  (h : ∀ ds, sp.pre ds → ∃ inv, owedNew C inv fn ds (sp.f ds)) : MeetsQ P f sp := by
 obtain ⟨c, hc⟩ := Option.isSome_iff_exists.1 hb
 have e : bodyOf fn = c := by unfold bodyOf; rw [hc]; rfl
 unfold MeetsQ MeetsP
 rw [hio.1, hio.2.1, hio.2.2.1, hio.2.2.2]
 refine meets_new_of_vc K hm hf hc hname (by rw [← e]; exact hst) sp (fun ds => Classical.epsilon fun inv => owedNew C inv fn ds (sp.f ds)) fun ds hp => ?_
 have h3 := Classical.epsilon_spec (h ds hp)
 rw [← e]
 exact h3
def lkS : List (Nat × Spec) → Nat → Option Spec
 | [], _ => none
 | (k, s) :: l, f => bif Nat.beq k f then some s else lkS l f
def AllM (P : Program) : List (Nat × Spec) → Prop
 | [] => True
 | (k, s) :: l => MeetsQ P k s ∧ AllM P l
theorem lkS_ok {P : Program} : ∀ {l : List (Nat × Spec)}, AllM P l → ∀ f s, lkS l f = some s → MeetsQ P f s
 | [], _, f, s, h => by cases h
 | (k, t) :: l, hl, f, s, h => by
  simp only [lkS] at h
  rcases beq_cases k f with ⟨hb, rfl⟩ | ⟨hb, hn⟩
  ·simp only [hb, cond_true, Option.some.injEq] at h
   subst h
   exact hl.1
  ·simp only [hb, cond_false] at h
   exact lkS_ok hl.2 f s h
theorem w8 (n : Int) : IntKind.u8.wrap n = n % 256 := by simp [IntKind.wrap, IntKind.bits, IntKind.signed]
theorem w32 (n : Int) : IntKind.u32.wrap n = n % 4294967296 := by simp [IntKind.wrap, IntKind.bits, IntKind.signed]
theorem w64 (n : Int) : IntKind.u64.wrap n = n % 18446744073709551616 := by simp [IntKind.wrap, IntKind.bits, IntKind.signed]
theorem wi64 (n : Int) : IntKind.i64.wrap n = (n + 9223372036854775808) % 18446744073709551616 - 9223372036854775808 := by
 simp [IntKind.wrap, IntKind.bits, IntKind.signed]
 split <;> omega
theorem wi {n : Int} (h : -9223372036854775808 ≤ n) (h2 : n ≤ 9223372036854775807) : IntKind.i64.wrap n = n := by
 rw [wi64]
 omega
theorem ishr_eq (k : IntKind) (x : Int) (m : Nat) (h : m ≤ k.bits) : ishr k x (m : Int) = x / 2 ^ m := by
 unfold ishr
 rw [Int.fdiv_eq_ediv_of_nonneg _ (by exact Int.le_of_lt (Int.pow_pos (by decide))), show min (m : Int).toNat k.bits = m by rw [Int.toNat_natCast]; omega]
theorem tdivN (n m : Nat) : (n : Int).tdiv m = (n / m : Nat) := by rw [Int.tdiv_eq_ediv_of_nonneg (Int.natCast_nonneg n)]; simp
theorem tmodN (n m : Nat) : (n : Int).tmod m = (n % m : Nat) := by rw [Int.tmod_eq_emod_of_nonneg (Int.natCast_nonneg n)]; simp
noncomputable def opq {α : Type} (a : α) : α := Classical.choose (⟨a, rfl⟩ : ∃ b, b = a)
theorem opq_eq {α : Type} (a : α) : opq a = a := Classical.choose_spec (⟨a, rfl⟩ : ∃ b, b = a)
end Go.Vg
namespace Go.Vg
def okd (l : List Int) : Prop := ∀ x ∈ l, 0 ≤ x ∧ x < 65536
def okw (l : List Int) : Prop := ∀ x ∈ l, 0 ≤ x ∧ x < 18446744073709551616
def vB (b : Nat) : List Int → Nat
 | [] => 0
 | x :: l => x.toNat + b * vB b l
def nB (b : Nat) : Nat → Nat → List Int
 | 0, _ => []
 | n + 1, v => ((v % b : Nat) : Int) :: nB b n (v / b)
theorem nB_length (b : Nat) : ∀ n v, (nB b n v).length = n
 | 0, _ => rfl
 | n + 1, v => by simp [nB, nB_length b n]
theorem nB_ok {b : Nat} (hb : 0 < b) : ∀ n v, ∀ x ∈ nB b n v, 0 ≤ x ∧ x < (b : Int)
 | 0, _, x, h => by simp [nB] at h
 | n + 1, v, x, h => by
  simp only [nB, List.mem_cons] at h
  rcases h with rfl | h
  ·have := Nat.mod_lt v hb
   exact ⟨by omega, by omega⟩
  ·exact nB_ok hb n _ x h
theorem vB_nB (b : Nat) : ∀ n v, vB b (nB b n v) = v % b ^ n
 | 0, v => by simp [nB, vB, Nat.mod_one]
 | n + 1, v => by
  simp only [nB, vB, vB_nB b n, Int.toNat_natCast]
  rw [Nat.pow_succ, Nat.mul_comm (b ^ n) b, Nat.mod_mul]
theorem vB_lt {b : Nat} : ∀ {l : List Int}, (∀ x ∈ l, 0 ≤ x ∧ x < (b : Int)) → vB b l < b ^ l.length
 | [], _ => by simp [vB]
 | x :: l, h => by
  have h1 := h x (by simp)
  have h2 := vB_lt fun y hy => h y (List.mem_cons_of_mem _ hy)
  simp only [vB, List.length_cons, Nat.pow_succ]
  have h3 : x.toNat + 1 ≤ b := by omega
  calc x.toNat + b * vB b l < b + b * vB b l := by omega
   _ = b * (vB b l + 1) := by rw [Nat.mul_add, Nat.mul_one, Nat.add_comm]
   _ ≤ b * b ^ l.length := Nat.mul_le_mul_left _ h2
   _ = b ^ l.length * b := Nat.mul_comm _ _
theorem vB_append (b : Nat) : ∀ l m, vB b (l ++ m) = vB b l + b ^ l.length * vB b m
 | [], m => by simp [vB]
 | x :: l, m => by
  simp only [List.cons_append, vB, vB_append b l m, List.length_cons, Nat.pow_succ, Nat.mul_add, Nat.add_assoc]
  congr 2
  rw [← Nat.mul_assoc, Nat.mul_comm b]
theorem nB_vB {b : Nat} : ∀ {l : List Int}, (∀ x ∈ l, 0 ≤ x ∧ x < (b : Int)) → nB b l.length (vB b l) = l
 | [], _ => rfl
 | x :: l, h => by
  have h1 := h x (by simp)
  have hx : x.toNat < b := by omega
  simp only [List.length_cons, nB, vB, Nat.add_mul_mod_self_left, Nat.mod_eq_of_lt hx]
  rw [Nat.add_mul_div_left _ _ (by omega), Nat.div_eq_of_lt hx, Nat.zero_add, nB_vB fun y hy => h y (List.mem_cons_of_mem _ hy)]
  rw [Int.toNat_of_nonneg h1.1]
theorem nB_push (b : Nat) : ∀ n v, nB b (n + 1) v = nB b n v ++ [((v / b ^ n % b : Nat) : Int)]
 | 0, v => by simp [nB]
 | n + 1, v => by
  rw [nB, nB_push b n (v / b), nB, List.cons_append, Nat.div_div_eq_div_mul, Nat.pow_succ, Nat.mul_comm b]
theorem nB_mod (b : Nat) : ∀ n v, nB b n (v % b ^ n) = nB b n v
 | 0, v => rfl
 | n + 1, v => by
  simp only [nB]
  have h1 : v % b ^ (n + 1) % b = v % b := Nat.mod_mod_of_dvd _ (Nat.dvd_mul_left _ _)
  have h2 : v % b ^ (n + 1) / b = v / b % b ^ n := by
   rw [Nat.pow_succ, Nat.mul_comm, Nat.mod_mul_right_div_self]
  rw [h1, h2, nB_mod b n]
theorem nB_get (b : Nat) : ∀ n v i, i < n → (nB b n v).getD i 0 = ((v / b ^ i % b : Nat) : Int)
 | 0, v, i, h => absurd h (Nat.not_lt_zero i)
 | n + 1, v, 0, _ => by simp [nB]
 | n + 1, v, i + 1, h => by
  have := nB_get b n (v / b) i (by omega)
  simp only [nB, List.getD_cons_succ, this, Nat.div_div_eq_div_mul, Nat.pow_succ, Nat.mul_comm b]
theorem vB_get {b : Nat} {l : List Int} (h : ∀ x ∈ l, 0 ≤ x ∧ x < (b : Int)) {i : Nat} (hi : i < l.length) : l.getD i 0 = ((vB b l / b ^ i % b : Nat) : Int) := by
 rw [← nB_get b l.length (vB b l) i hi, nB_vB h]
theorem vB_take {b : Nat} {l : List Int} (h : ∀ x ∈ l, 0 ≤ x ∧ x < (b : Int)) (i : Nat) : vB b (l.take i) = vB b l % b ^ i := by
 rcases Nat.lt_or_ge i l.length with hi | hi
 ·have e := vB_append b (l.take i) (l.drop i)
  rw [List.take_append_drop] at e
  have hl : (l.take i).length = i := by rw [List.length_take]; omega
  have hlt : vB b (l.take i) < b ^ (l.take i).length := vB_lt fun x hx => h x (List.mem_of_mem_take hx)
  rw [hl] at e hlt
  rw [e, Nat.add_mul_mod_self_left, Nat.mod_eq_of_lt hlt]
 ·rw [List.take_of_length_le hi]
  rcases Nat.eq_zero_or_pos b with rfl | hb
  ·cases l with
   | nil => simp [vB]
   | cons x l => have := h x (by simp); omega
  ·exact (Nat.mod_eq_of_lt (Nat.lt_of_lt_of_le (vB_lt h) (Nat.pow_le_pow_right hb hi))).symm
theorem vB_set {b : Nat} : ∀ (l : List Int) (i : Nat) (x : Int), i < l.length → vB b (l.set i x) + b ^ i * (l.getD i 0).toNat = vB b l + b ^ i * x.toNat
 | [], i, x, h => absurd h (Nat.not_lt_zero i)
 | y :: l, 0, x, _ => by simp [vB]; omega
 | y :: l, i + 1, x, h => by
  have := vB_set (b := b) l i x (by simpa using h)
  simp only [List.set_cons_succ, vB, List.getD_cons_succ, Nat.pow_succ]
  have e1 : ∀ z : Nat, b ^ i * b * z = b * (b ^ i * z) := fun z => by rw [← Nat.mul_assoc, Nat.mul_comm b]
  rw [e1, e1, Nat.add_assoc, Nat.add_assoc, ← Nat.mul_add, ← Nat.mul_add, this]
def dgF : Nat → Nat → List Int
 | 0, _ => []
 | f + 1, n => if n = 0 then [] else ((n % 65536 : Nat) : Int) :: dgF f (n / 65536)
def dg (n : Nat) : List Int := dgF n n
theorem dgF_eq : ∀ f g n, n ≤ f → n ≤ g → dgF f n = dgF g n
 | 0, 0, n, _, _ => rfl
 | 0, g + 1, n, h, _ => by
  obtain rfl : n = 0 := by omega
  simp [dgF]
 | f + 1, 0, n, _, h => by
  obtain rfl : n = 0 := by omega
  simp [dgF]
 | f + 1, g + 1, n, h1, h2 => by
  simp only [dgF]
  split
  ·rfl
  ·rw [dgF_eq f g (n / 65536) (by omega) (by omega)]
theorem dg_zero : dg 0 = [] := rfl
theorem dg_pos {n : Nat} (h : n ≠ 0) : dg n = ((n % 65536 : Nat) : Int) :: dg (n / 65536) := by
 unfold dg
 obtain ⟨m, rfl⟩ := Nat.exists_eq_succ_of_ne_zero h
 rw [dgF, if_neg h]
 congr 1
 exact dgF_eq _ _ _ (by omega) (Nat.le_refl _)
theorem dg_ok : ∀ n, okd (dg n) := by
 intro n
 induction n using Nat.strongRecOn with
 | _ n ih =>
  intro x hx
  by_cases h : n = 0
  ·subst h
   simp [dg_zero] at hx
  ·rw [dg_pos h] at hx
   simp only [List.mem_cons] at hx
   rcases hx with rfl | hx
   ·omega
   ·exact ih _ (by omega) x hx
theorem vl_dg : ∀ n, vB 65536 (dg n) = n := by
 intro n
 induction n using Nat.strongRecOn with
 | _ n ih =>
  by_cases h : n = 0
  ·subst h; rfl
  ·rw [dg_pos h]
   show _ + 65536 * vB 65536 (dg (n / 65536)) = n
   rw [ih _ (by omega), Int.toNat_natCast]
   omega
theorem dg_nil {n : Nat} (h : dg n = []) : n = 0 := by
 have := vl_dg n
 rw [h] at this
 exact this.symm
theorem dg_len : ∀ k n, n < 65536 ^ k → (dg n).length ≤ k
 | 0, n, h => by
  obtain rfl : n = 0 := by simpa using h
  simp [dg_zero]
 | k + 1, n, h => by
  by_cases hn : n = 0
  ·subst hn
   simp [dg_zero]
  ·rw [dg_pos hn]
   have := dg_len k (n / 65536) (by rw [Nat.pow_succ] at h; exact Nat.div_lt_of_lt_mul (by rw [Nat.mul_comm]; exact h))
   simp only [List.length_cons]
   omega
def trimL : List Int → List Int
 | [] => []
 | x :: l => match trimL l with
  | [] => if x = 0 then [] else [x]
  | y :: m => x :: y :: m
theorem trim_eq : ∀ {l : List Int}, okd l → trimL l = dg (vB 65536 l)
 | [], _ => rfl
 | x :: l, h => by
  have h1 := h x (by simp)
  have ih := trim_eq fun y hy => h y (List.mem_cons_of_mem _ hy)
  simp only [trimL, ih]
  cases hd : dg (vB 65536 l) with
  | nil =>
   have hz := dg_nil hd
   show (if x = 0 then [] else [x]) = dg (x.toNat + 65536 * vB 65536 l)
   rw [hz]
   by_cases hx : x = 0
   ·subst hx; rfl
   ·rw [if_neg hx, dg_pos (by omega)]
    rw [show (x.toNat + 65536 * 0) / 65536 = 0 by omega, dg_zero, show (x.toNat + 65536 * 0) % 65536 = x.toNat by omega]
    simp; omega
  | cons y m =>
   have hz : vB 65536 l ≠ 0 := fun e => by rw [e, dg_zero] at hd; cases hd
   show x :: y :: m = dg (x.toNat + 65536 * vB 65536 l)
   rw [dg_pos (by omega), show (x.toNat + 65536 * vB 65536 l) / 65536 = vB 65536 l by omega, hd, show (x.toNat + 65536 * vB 65536 l) % 65536 = x.toNat by omega]
   congr 1
   omega
theorem trim_last : ∀ (l : List Int), trimL (l ++ [0]) = trimL l
 | [] => rfl
 | x :: l => by simp only [List.cons_append, trimL, trim_last l]
theorem trim_keep : ∀ (l : List Int) {x : Int}, x ≠ 0 → trimL (l ++ [x]) = l ++ [x]
 | [], x, h => by simp [trimL, h]
 | y :: l, x, h => by
  simp only [List.cons_append, trimL, trim_keep l h]
  cases hl : l ++ [x] with
  | nil => simp at hl
  | cons a b => rfl
def dig (l : List Int) (i : Int) : Int := if 0 ≤ i ∧ i < l.length then l.getD i.toNat 0 else 0
theorem dig_nat {l : List Int} (h : okd l) (i : Nat) : dig l i = ((vB 65536 l / 65536 ^ i % 65536 : Nat) : Int) := by
 unfold dig
 split
 ·rename_i hi
  rw [Int.toNat_natCast]
  exact vB_get h (by omega)
 ·rename_i hi
  have : vB 65536 l < 65536 ^ i := Nat.lt_of_lt_of_le (vB_lt h) (Nat.pow_le_pow_right (by decide) (by omega))
  rw [Nat.div_eq_of_lt this]
  rfl
theorem vB_drop {b : Nat} {l : List Int} (h : ∀ x ∈ l, 0 ≤ x ∧ x < (b : Int)) (i : Nat) : vB b (l.drop i) = vB b l / b ^ i := by
 rcases Nat.lt_or_ge i l.length with hi | hi
 ·have e := vB_append b (l.take i) (l.drop i)
  rw [List.take_append_drop] at e
  have hl : (l.take i).length = i := by rw [List.length_take]; omega
  have hlt : vB b (l.take i) < b ^ (l.take i).length := vB_lt fun x hx => h x (List.mem_of_mem_take hx)
  rw [hl] at e hlt
  rw [e, Nat.add_mul_div_left _ _ (by omega), Nat.div_eq_of_lt hlt, Nat.zero_add]
 ·rw [List.drop_eq_nil_of_le hi]
  rcases Nat.eq_zero_or_pos b with rfl | hb
  ·cases l with
   | nil => simp [vB]
   | cons x l => have := h x (by simp); omega
  ·exact (Nat.div_eq_of_lt (Nat.lt_of_lt_of_le (vB_lt h) (Nat.pow_le_pow_right hb hi))).symm
def wl (n : Nat) (l : List Int) (m : Nat) : List Int := (List.range n).map fun j => ((vB 65536 ((l.take (4 * j + 4)).drop (max m (4 * j))) : Nat) : Int)
theorem wl_length (n : Nat) (l : List Int) (m : Nat) : (wl n l m).length = n := by simp [wl]
theorem wl_get {n : Nat} {l : List Int} {m j : Nat} (h : j < n) : (wl n l m).getD j 0 = ((vB 65536 ((l.take (4 * j + 4)).drop (max m (4 * j))) : Nat) : Int) := by
 simp [wl, List.getD_eq_getElem?_getD, h]
theorem ext_getD {l m : List Int} (h : l.length = m.length) (hg : ∀ i, i < l.length → l.getD i 0 = m.getD i 0) : l = m := by
 apply List.ext_getElem h
 intro i h1 h2
 have := hg i h1
 rw [List.getD_eq_getElem?_getD, List.getD_eq_getElem?_getD, List.getElem?_eq_getElem h1, List.getElem?_eq_getElem h2] at this
 exact this
theorem drop_nil {l : List Int} {a m : Nat} (h : a ≤ m) : (l.take a).drop m = [] := List.drop_eq_nil_of_le (by rw [List.length_take]; omega)
theorem wl_end (n : Nat) (l : List Int) (m : Nat) (h : l.length ≤ m) : wl n l m = List.replicate n 0 := by
 apply ext_getD
 ·simp [wl_length]
 intro j hj
 rw [wl_length] at hj
 rw [wl_get hj, List.drop_eq_nil_of_le (by rw [List.length_take]; omega)]
 simp [vB, List.getD_eq_getElem?_getD, hj]
theorem wl_past (n : Nat) (l : List Int) (i : Nat) (h : 4 * n ≤ i) : wl n l i = wl n l (i + 1) := by
 apply ext_getD
 ·simp [wl_length]
 intro j hj
 rw [wl_length] at hj
 rw [wl_get hj, wl_get hj, drop_nil (by omega), drop_nil (by omega)]
theorem wl_step (n : Nat) (l : List Int) (i : Nat) (h : i < l.length) (hi : i < 4 * n) (h0 : 0 ≤ l.getD i 0) : wl n l i = (wl n l (i + 1)).set (i / 4) ((wl n l (i + 1)).getD (i / 4) 0 * 65536 + l.getD i 0) := by
 apply ext_getD
 ·simp [wl_length]
 intro j hj
 rw [wl_length] at hj
 rw [wl_get hj, List.getD_eq_getElem?_getD, List.getElem?_set]
 split
 ·rename_i e
  subst e
  rw [if_pos (by rw [wl_length]; omega), wl_get (by omega), Option.getD_some, show max i (4 * (i / 4)) = i by omega, show max (i + 1) (4 * (i / 4)) = i + 1 by omega]
  have hlt : i < (l.take (4 * (i / 4) + 4)).length := by rw [List.length_take]; omega
  rw [List.drop_eq_getElem_cons hlt]
  have e : l.getD i 0 = (l.take (4 * (i / 4) + 4))[i] := by rw [List.getElem_take]; simp [List.getD_eq_getElem?_getD, h]
  rw [e] at h0 ⊢
  simp only [vB]
  omega
 ·rename_i e
  rw [← List.getD_eq_getElem?_getD, wl_get hj]
  rcases Nat.lt_or_ge i (4 * j) with hij | hij
  ·rw [show max i (4 * j) = max (i + 1) (4 * j) by omega]
  ·rw [drop_nil (by omega), drop_nil (by omega)]
theorem wl_lt {n : Nat} {l : List Int} (h : okd l) (m j : Nat) (hj : j < n) (hm : 4 * j < m) : (wl n l m).getD j 0 < 281474976710656 := by
 rw [wl_get hj]
 have hlt : vB 65536 ((l.take (4 * j + 4)).drop (max m (4 * j))) < 65536 ^ ((l.take (4 * j + 4)).drop (max m (4 * j))).length := vB_lt fun x hx => h x (List.mem_of_mem_take (List.mem_of_mem_drop hx))
 have hle : ((l.take (4 * j + 4)).drop (max m (4 * j))).length ≤ 3 := by rw [List.length_drop, List.length_take]; omega
 have := Nat.lt_of_lt_of_le hlt (Nat.pow_le_pow_right (by decide : 0 < 65536) hle)
 omega
theorem wl_zero {l : List Int} (h : okd l) (n : Nat) : wl n l 0 = nB 18446744073709551616 n (vB 65536 l) := by
 apply ext_getD
 ·rw [wl_length, nB_length]
 intro j hj
 rw [wl_length] at hj
 rw [wl_get hj, nB_get _ _ _ _ hj, show max 0 (4 * j) = 4 * j by omega, vB_drop (fun x hx => h x (List.mem_of_mem_take hx)), vB_take h]
 congr 1
 rw [show (18446744073709551616 : Nat) = 65536 ^ 4 by decide, ← Nat.pow_mul, Nat.pow_add, Nat.mod_mul_right_div_self]
theorem wl_nonneg (n : Nat) (l : List Int) (m j : Nat) : 0 ≤ (wl n l m).getD j 0 := by
 rcases Nat.lt_or_ge j n with h | h
 ·rw [wl_get h]
  omega
 ·rw [List.getD_eq_getElem?_getD, List.getElem?_eq_none (by rw [wl_length]; exact h)]
  exact Int.le_refl _
def outW (l : List Int) : List Int := l.flatMap fun x => nB 65536 4 x.toNat
theorem outW_ok (l : List Int) : okd (outW l) := by
 intro x hx
 simp only [outW, List.mem_flatMap] at hx
 obtain ⟨y, _, hy⟩ := hx
 exact nB_ok (by decide) _ _ x hy
theorem outW_len : ∀ l, (outW l).length = 4 * l.length
 | [] => rfl
 | x :: l => by
  have := outW_len l
  simp only [outW, List.flatMap_cons, List.length_append, nB_length, List.length_cons] at this ⊢
  omega
theorem outW_val : ∀ {l : List Int}, okw l → vB 65536 (outW l) = vB 18446744073709551616 l
 | [], _ => rfl
 | x :: l, h => by
  have h1 := h x (by simp)
  have ih := outW_val fun y hy => h y (List.mem_cons_of_mem _ hy)
  simp only [outW, List.flatMap_cons] at ih ⊢
  rw [vB_append, vB_nB, nB_length, ih]
  show _ = x.toNat + 18446744073709551616 * vB 18446744073709551616 l
  rw [Nat.mod_eq_of_lt (by omega)]
end Go.Vg
