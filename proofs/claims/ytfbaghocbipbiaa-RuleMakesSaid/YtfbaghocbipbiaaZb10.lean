/- Vg, part X: functions without a body, for which the model has an entry. -/
import Derived.Test.YtfbaghocbipbiaaZb9
import Derived.Laws.Externs
namespace Go.Vg
open Go Go.RowKit
theorem meets_extern {P : Program} {f : FuncId} {fn : Func} {e : Array Value → Sem Value} {sp : Spec} (hf : P.funcs[f]? = some fn) (hname : (fn.name == "runtime.NumGoroutine") = false)
  (hb : fn.body.isNone = true) (hn : Extern.findNext fn = none) (he : Extern.find fn = some e)
  (h : ∀ ds, sp.pre ds → flatD (sp.f ds) = true ∧ ∀ (X : Nat → Prop) (w : World) (vs : List Value), All2 (VR w X) ds vs → ∃ v, (e vs.toArray).run P w = .ok v w ∧ VR w X (sp.f ds) v) : Meets P f sp := by
 intro ds hpre
 obtain ⟨h1, h2⟩ := h ds hpre
 refine ⟨fun _ => h1, fun X w vs _ hvs => ?_⟩
 obtain ⟨v, hv, hr⟩ := h2 _ w vs hvs
 unfold UponCall
 rw [run_callFunc_extern hf hname hb hn he, hv]
 exact ⟨Grow.refl w, flat_VR h1 hr⟩
theorem all2_3 {w : World} {X : Nat → Prop} {a b c : D} {vs : List Value} (h : All2 (VR w X) [a, b, c] vs) : ∃ x y z, vs = [x, y, z] ∧ VR w X a x ∧ VR w X b y ∧ VR w X c z := by
 cases h with
 | cons h1 h => cases h with
  | cons h2 h => cases h with
   | cons h3 h => cases h with
    | nil => exact ⟨_, _, _, rfl, h1, h2, h3⟩
theorem all2_2 {w : World} {X : Nat → Prop} {a b : D} {vs : List Value} (h : All2 (VR w X) [a, b] vs) : ∃ x y, vs = [x, y] ∧ VR w X a x ∧ VR w X b y := by
 cases h with
 | cons h1 h => cases h with
  | cons h2 h => cases h with
   | nil => exact ⟨_, _, rfl, h1, h2⟩
theorem all2_1 {w : World} {X : Nat → Prop} {a : D} {vs : List Value} (h : All2 (VR w X) [a] vs) : ∃ x, vs = [x] ∧ VR w X a x := by
 cases h with
 | cons h1 h => cases h with
  | nil => exact ⟨_, rfl, h1⟩
theorem vr_num {w : World} {X : Nat → Prop} {k : IntKind} {n : Int} {v : Value} (h : VR w X (.val (.int k n)) v) : v = .int k n := vr_val h
theorem num_vr (w : World) (X : Nat → Prop) (k : IntKind) (n : Int) : VR w X (.val (.int k n)) (.int k n) := vr_of_int w X k n
theorem pair_vr (w : World) (X : Nat → Prop) (k k' : IntKind) (n m : Int) : VR w X (.tup [.val (.int k n), .val (.int k' m)]) (.tuple #[.int k n, .int k' m]) :=
 ⟨[.int k n, .int k' m], rfl, .cons (VR.one (num_vr w X k n) rfl) (.cons (VR.one (num_vr w X k' m) rfl) .nil)⟩
end Go.Vg
