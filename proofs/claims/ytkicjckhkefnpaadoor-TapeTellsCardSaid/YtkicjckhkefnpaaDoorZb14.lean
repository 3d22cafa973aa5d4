/- What the listed variables hold, out of the condition of the rows. Written by a program of this work (mkdg.py). -/
import Derived.Test.YtkicjckhkefnpaaDoorRows
import Derived.Test.YtkicjckhkefnpaaDoorZb9
import Derived.KernelRfl
import Derived.ProofKit
import Derived.LaidMore
import Derived.OpenShut
import Derived.ChangeBears2
import Derived.MakeChecks
namespace Go.Proofs.YtkicjckhkefnpaaDoor
open Go Go.Vg Go.ChangeShapes Go.WideShapes Go.ChangeAt Go.RowKit
theorem laid_ints {H : Type} {enc : TypeId × Value → H} {P : Program} {W : World} {base : Nat} {spare : Nat → Bool} {held : Bool} {fuel : Nat} {t e : TypeId} {n : Nat} {k : IntKind} {cs : List Value} {l : List Int} {p : List MemPlace}
  (ht : P.underlying t = some (.array n e)) (he : P.underlying e = some (.int k)) (c1 : P.cellsOf e = 1) (ct : P.cellsOf t = n)
  (h : DataW.trod enc P W base spare held fuel t cs = some (.agg (l.map fun z => .lit (.int k z)), p)) : l.length = n ∧ cs = l.map (Value.int k) := by
 obtain ⟨xs, m, _, hx, hlen, hxl, hall⟩ := DataW.trod_array ht h
 rw [c1] at hall
 rw [ct] at hlen
 simp only [Prod.mk.injEq, DataW.agg.injEq] at hx
 have hll : l.length = n := by
  have := congrArg List.length hx.1
  simp only [List.length_map] at this
  omega
 refine ⟨hll, List.ext_getElem? fun i => ?_⟩
 by_cases hi : i < n
 ·have h0 := hall i hi
  rw [Nat.mul_one] at h0
  have hxi : xs[i]? = some xs[i] := List.getElem?_eq_getElem (by omega)
  rw [hxi] at h0
  obtain ⟨z, e1, e2, _⟩ := DataW.trod_int he h0
  have hz : l[i]? = some z := by
   have e3 := congrArg (fun q => q[i]?) hx.1
   simp only [List.getElem?_map, hxi, Option.map_some, e2] at e3
   cases hl : l[i]? with
   | none => rw [hl] at e3; cases e3
   | some z' =>
    rw [hl] at e3
    simp at e3
    rw [e3]
  rw [List.getElem?_map, hz]
  have e4 := congrArg (fun q => q[0]?) e1
  simp only [List.getElem?_take, List.getElem?_drop, Nat.add_zero] at e4
  simpa using e4
 ·rw [List.getElem?_eq_none (by omega), List.getElem?_eq_none (by simp; omega)]
theorem gName0 : Tryd.prog.globalNamed "sealring/hash.primeRoots" = some 0 := by kernel_rfl
theorem gType0 : (Tryd.prog.globals[0]?).map (·.type) = some 185 := by kernel_rfl
theorem gData0 : (Rows.laid_sealring_hash_primeRoots : DataW Unit) = .agg (gl0.map fun z => .lit (.int .u32 z)) := by kernel_rfl
theorem gName1 : Tryd.prog.globalNamed "sealring/sealringref.roundNumbers" = some 1 := by kernel_rfl
theorem gType1 : (Tryd.prog.globals[1]?).map (·.type) = some 185 := by kernel_rfl
theorem gData1 : (Rows.laid_sealring_sealringref_roundNumbers : DataW Unit) = .agg (gl1.map fun z => .lit (.int .u32 z)) := by kernel_rfl
def laidAll : List (String × DataW Unit) := [("sealring/hash.primeRoots", Rows.laid_sealring_hash_primeRoots), ("sealring/sealringref.roundNumbers", Rows.laid_sealring_sealringref_roundNumbers)]
theorem door_met (os : Os) (args : Array Value) : laidMetH Tryd.prog laidAll ((World.doorLaid Tryd.prog 400 os).forCall (fun _ _ => 0) ⟨#[], args, []⟩).memory :=
 laidMetH_of_parts3 (fuel := 8) (laidMet_of_run' 8 (by kernel_rfl) (by kernel_rfl)) (by kernel_rfl) (by kernel_rfl)
theorem var_lt {P : Program} {w : World} {n : String} {g : Nat} {cs : Array Value} (hg : P.globalNamed n = some g) (h : w.var? P n = some cs) : g < w.heap.size := by
 unfold World.var? at h
 rw [hg] at h
 simp only [Option.bind_some] at h
 rcases Nat.lt_or_ge g w.heap.size with h1 | h1
 ·exact h1
 ·rw [Array.getElem?_eq_none h1] at h
  cases h
theorem gw_of_laid {W : World} (h : laidMetH Tryd.prog laidAll W) : GW W fun _ => True := by
 rw [MakeChecks.laidMetH_plain _ _ _ (by kernel_rfl)] at h
 obtain ⟨ps, ⟨g0, t0, cs0, f0, p0, q0, hg0, ht0, hv0, hd0, ⟨g1, t1, cs1, f1, p1, q1, hg1, ht1, hv1, hd1, _, _⟩, _⟩, _, _⟩ := h
 obtain rfl := Option.some.inj (gName0.symm.trans hg0)
 obtain rfl := Option.some.inj (gType0.symm.trans ht0)
 rw [gData0] at hd0
 obtain ⟨l0, c0⟩ := laid_ints Tryd.underlying185 Tryd.underlying113 (by kernel_rfl) (by kernel_rfl) hd0
 obtain rfl := Option.some.inj (gName1.symm.trans hg1)
 obtain rfl := Option.some.inj (gType1.symm.trans ht1)
 rw [gData1] at hd1
 obtain ⟨l1, c1⟩ := laid_ints Tryd.underlying185 Tryd.underlying113 (by kernel_rfl) (by kernel_rfl) hd1
 intro g d hd
 by_cases e0 : g = 0
 ·subst e0
  obtain rfl := Option.some.inj ((show lookG gls 0 = some (.arr .u32 64 gl0) from rfl).symm.trans hd)
  exact ⟨var_lt hg0 hv0, trivial, cs0.toList, fun _ _ => ⟨l0, c0⟩, fun j u hj => by rw [World.var?_cell hg0 hv0]; simpa using hj⟩
 by_cases e1 : g = 1
 ·subst e1
  obtain rfl := Option.some.inj ((show lookG gls 1 = some (.arr .u32 64 gl1) from rfl).symm.trans hd)
  exact ⟨var_lt hg1 hv1, trivial, cs1.toList, fun _ _ => ⟨l1, c1⟩, fun j u hj => by rw [World.var?_cell hg1 hv1]; simpa using hj⟩
 ·exfalso
  unfold gls at hd
  simp only [lookG] at hd
  rw [show Nat.beq 0 g = false from by cases hb : Nat.beq 0 g with | false => rfl | true => exact absurd (Nat.eq_of_beq_eq_true hb).symm e0] at hd
  rw [show Nat.beq 1 g = false from by cases hb : Nat.beq 1 g with | false => rfl | true => exact absurd (Nat.eq_of_beq_eq_true hb).symm e1] at hd
  cases hd
end Go.Proofs.YtkicjckhkefnpaaDoor
