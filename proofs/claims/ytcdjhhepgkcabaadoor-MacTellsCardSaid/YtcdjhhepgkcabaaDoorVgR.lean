/- Vg, part R: a law's row, out of its meaning. -/
import Derived.Test.YtcdjhhepgkcabaaDoorVgQ
import Derived.SizedLaws
import Derived.WalkKit
import Derived.ShutString
import Derived.ChangeOld
namespace Go.Vg
open Go Go.RowKit

def OkAll (tab : Tab) (n : Nat) : List TypeId → List D → Prop
  | [], [] => True
  | t :: ts, d :: ds => OkT tab n t d ∧ OkAll tab n ts ds
  | _, _ => False

def supAll (tab : Tab) (n : Nat) (ts : List TypeId) : Bool := ts.all (supB tab n)

/-- A law: of whatever it is handed it says true. -/
def lawSpec (tab : Tab) (ts : List TypeId) : Spec := ⟨OkAll tab 8 ts, fun _ => .val (.bool true), true, ts⟩

theorem args_D {H : Type} {enc : TypeId × Value → H} {P : Program} {tab : Tab} (T : TabOk P tab) {n : Nat} {w : World} {sp : Nat → Bool} {held : Bool} {r : Reach} {b0 : Nat} : ∀ (ts : List TypeId) (vs : List Value) (ds : List (DataW H)) (ps : List MemPlace), supAll tab n ts = true →
    (∀ (j : Nat) t v, ts[j]? = some t → vs[j]? = some v → Value.okWide P w r b0 t v) → DataW.TrodAll enc P w 0 sp held ts vs ds ps → Sz (DataW.weightsEach P ts ds) → ∃ xs, All2 (VR w (fun β => True ∧ β < w.heap.size)) xs vs ∧ OkAll tab n ts xs
  | [], [], [], _, _, _, _, _ => ⟨[], .nil, trivial⟩
  | t :: ts, v :: vs, d :: ds, ps, hs, hval, h, hw => by
    simp only [DataW.weightsEach] at hw
    obtain ⟨p, q, h1, h2, _⟩ := h
    simp only [supAll, List.all_cons, Bool.and_eq_true] at hs
    obtain ⟨x, g1, g2⟩ := arg_D T hs.1 (hval 0 t v rfl rfl) h1 (fun k hk => hw k (List.mem_append.2 (.inl hk)))
    obtain ⟨xs, g3, g4⟩ := args_D T ts vs ds q hs.2 (fun j t' v' ht hv => hval (j + 1) t' v' (by simpa using ht) (by simpa using hv)) h2 (fun k hk => hw k (List.mem_append.2 (.inr hk)))
    exact ⟨x :: xs, .cons (VR.mono (fun β hβ => ⟨⟨trivial, hβ⟩, rfl⟩) _ _ g1) g3, ⟨g2, g4⟩⟩
  | [], _ :: _, _, _, _, _, h, _ => h.elim
  | [], [], _ :: _, _, _, _, h, _ => h.elim
  | _ :: _, [], _, _, _, _, h, _ => h.elim
  | _ :: _, _ :: _, [], _, _, _, h, _ => h.elim

theorem weights_app {H : Type} {P : Program} : ∀ (ts ts' : List TypeId) (ds ds' : List (DataW H)) (n : Nat), n ∈ DataW.weightsEach P ts ds → n ∈ DataW.weightsEach P (ts ++ ts') (ds ++ ds')
  | [], _, _, _, n, h => by simp [DataW.weightsEach] at h
  | _ :: _, _, [], _, n, h => by simp [DataW.weightsEach] at h
  | t :: ts, ts', d :: ds, ds', n, h => by
    simp only [DataW.weightsEach, List.mem_append, List.cons_append] at h ⊢
    exact h.imp id fun h => weights_app ts ts' ds ds' n h

theorem law_sz {H : Type} {P : Program} {ts ts' : List TypeId} {ds ds' : List (DataW H)} (h : (DataW.weightsEach P (ts ++ ts') (ds ++ ds')).all (· ≤ reachBytes) = true) : (DataW.weightsEach P ts ds).all (· ≤ reachBytes) = true :=
  List.all_eq_true.2 fun n hn => List.all_eq_true.1 h n (weights_app ts ts' ds ds' n hn)

theorem gw_none {w : World} {X : Nat → Prop} (h : gls = []) : GW w X := fun g d hd => by rw [h] at hd; cases hd

theorem law_calls {H : Type} {enc : TypeId × Value → H} {P : Program} {tab : Tab} (T : TabOk P tab) {f : FuncId} {fn : Func} (hf : P.funcs[f]? = some fn) (hb : fn.body.isSome = true) (hname : (fn.name == "runtime.NumGoroutine") = false) (hsup : supAll tab 8 fn.params.toList = true)
    (M : Meets P f (lawSpec tab fn.params.toList)) (W : World) (base : Nat) (args : Array Value) (ds : List (DataW H)) (p : List MemPlace) (hval : ∀ (j : Nat) t v, fn.params[j]? = some t → args[j]? = some v → Value.okWide P W .any base t v)
    (hA : DataW.TrodAll enc P W 0 (fun _ => true) true fn.params.toList args.toList ds p) (hw : (DataW.weightsEach P fn.params.toList ds).all (· ≤ reachBytes) = true) (hgw : GW W fun _ => True) : Calls P f args W fun e w' => e = .returned (.bool true) ∧ Below W.heap.size W w' := by
  obtain ⟨xs, h1, h2⟩ := args_D T fn.params.toList args.toList ds p hsup (fun j t v ht hv => hval j t v (by simpa using ht) (by simpa using hv)) hA (fun n hn => show n ≤ reachBytes by simpa using List.all_eq_true.1 hw n hn)
  have hu := (M xs h2).2 (fun _ => True) W args.toList hgw h1
  unfold UponCall at hu
  obtain ⟨c, hc⟩ := Option.isSome_iff_exists.1 hb
  have hn : ¬ fn.name = "runtime.NumGoroutine" := by simpa using hname
  have hcall : (callFunc f args.toList.toArray).run P W = .ok (.enter f args) W := by
    simp [callFunc, program, Sem.run, hf, hn, hc]
  rw [hcall] at hu
  refine Calls.mono hu ?_
  rintro e w' ⟨v, rfl, hg, hv⟩
  have ev := vr_val (X := fun β => (True ∨ W.heap.size ≤ β) ∧ β < w'.heap.size) hv
  subst ev
  exact ⟨rfl, hg.os, hg.tape, hg.output, hg.size, hg.block⟩

end Go.Vg
