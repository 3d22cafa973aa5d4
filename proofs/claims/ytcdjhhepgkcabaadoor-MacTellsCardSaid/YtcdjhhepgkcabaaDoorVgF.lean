/- Vg, part F: the abstract step is sound, all operations but append and the calls that take blocks for good. -/
import Derived.Test.YtcdjhhepgkcabaaDoorVgE11
namespace Go.Vg
open Go Go.RowKit

theorem capD_sound {σ : Sg} {M : Mem} {w : World} {X : Nat → Prop} : ∀ {cs : List AV} {vs : List Value}, All2 (AR σ M w X) cs vs → ∀ {xs : List D}, capD cs = some xs → ER w X 1 xs vs ∧ ∀ x ∈ xs, x.isAgg = false
  | _, _, .nil, xs, h => by
    simp only [capD, Option.some.injEq] at h
    subst h
    exact ⟨by simp [ER], fun x hx => by cases hx⟩
  | _, _, .cons (a := y) (b := v) hy t, xs, h => by
    simp only [capD] at h
    split at h
    · rename_i x hre
      have hx := reref_sound hy
      rw [hre] at hx
      cases hc : (Nat.beq (sk x).size 1 && !x.isAgg && !x.isTup) <;> rw [hc] at h
      · cases h
      · simp only [cond_true] at h
        split at h
        · rename_i ys hys
          obtain rfl := Option.some.inj h
          obtain ⟨h1, h2⟩ := capD_sound t hys
          simp only [Bool.and_eq_true, Bool.not_eq_true'] at hc
          obtain ⟨⟨hsz, hagg⟩, htup⟩ := hc
          have h1' : VR1 w X x v := VR.one hx htup
          have hcr : CR w X x [v] := by
            cases x <;> first | exact h1' | (simp [D.isAgg] at hagg)
          refine ⟨?_, fun z hz => ?_⟩
          · simp only [ER]
            exact ⟨[v], _, rfl, rfl, hcr, h1⟩
          · rcases List.mem_cons.1 hz with rfl | hz
            · exact hagg
            · exact h2 z hz
        · cases h
    · cases h

theorem func_sound {P : Program} {w0 : World} {F : Env} {σ : Sg} {s : St} {a : Act} {w : World} {o : Oper} (r : Rel w0 F σ s a w) {fn : Fn} {first captured : Array Operand} (ho : o.op = .makeFunc fn first captured)
    (hc : (aFunc fn first.toList (captured.toList.map (evA s.T)) s.M).c) : Good P w0 F o s a w (aFunc fn first.toList (captured.toList.map (evA s.T)) s.M) := by
  unfold aFunc at hc ⊢
  split at hc
  · rename_i f hfirst
    split at hc
    · rename_i xs hxs
      obtain ⟨h1, h2⟩ := capD_sound (all2_evs r captured.toList) hxs
      have ef : first = #[] := by rw [← Array.toList_inj, hfirst]
      refine good_pure (v := .func (.func f) #[] (captured.toList.map a.eval).toArray) r ?_ ?_
      · unfold execOp
        simp only [ho, ef, Instr.makeFunc, Sem.run_bind, Sem.run_pure, Result.andThen_ok]
        congr 3
        all_goals first | rfl | (apply Array.ext'; simp)
      · exact (⟨_, rfl, h1, h2⟩ : CR w _ (.clo f xs) [_])
    · exact hc.elim
  · exact hc.elim

theorem cellR_c {C : Ctx} {a : Operand} {v : AV} {r : Res} (h : (cellR C a v r).c) : r.c := by
  unfold cellR at h
  split at h
  · rename_i p
    cases hf : C.frz.contains (p + 200000) <;> rw [hf] at h
    · exact h
    · exact h.2
  · exact h
theorem cellR_vM (C : Ctx) (a : Operand) (v : AV) (r : Res) : (cellR C a v r).v = r.v ∧ (cellR C a v r).M = r.M := by
  unfold cellR
  split
  · rename_i p
    cases C.frz.contains (p + 200000) <;> exact ⟨rfl, rfl⟩
  · exact ⟨rfl, rfl⟩
theorem cellR_good {P : Program} {w0 : World} {F : Env} {o : Oper} {s : St} {a : Act} {w : World} {C : Ctx} {x : Operand} {v : AV} {r : Res} (h : Good P w0 F o s a w r) : Good P w0 F o s a w (cellR C x v r) := by
  intro Q
  obtain ⟨h1, h2⟩ := cellR_vM C x v r
  rw [h1, h2]
  exact h Q

section
variable {P : Program} {w0 : World} {F : Env} {σ : Sg} {s : St} {a : Act} {w : World} {o : Oper}

theorem good_weak {c c' : Prop} {x : AV} {M : Mem} (h : Good P w0 F o s a w ⟨c, x, M⟩) : Good P w0 F o s a w ⟨c', x, M⟩ := h

theorem act_sound {C : Ctx} (K : CtxOk P C) (r : Rel w0 F σ s a w) (hc : (act C o (evA s.T) s.M).c) : Good P w0 F o s a w (act C o (evA s.T) s.M) := by
  have T := K.1
  unfold act at hc ⊢
  split at hc
  · rename_i x ho; exact move_sound r (.inl ho)
  · rename_i x ho; exact assign_sound T r ho hc
  · rename_i c x y ho; exact pick_sound r ho hc
  · rename_i t ho
    obtain ⟨hc1, hs0⟩ := hc
    obtain ⟨i, z, hi, hsz, _, hz, hzr⟩ := (T t (tg_lt hs0)).info
    unfold aAlloc at hc1 ⊢
    split at hc1
    · rename_i d hdst
      split at hc1
      · rename_i hlook
        have hrun : (execOp a.eval o).run P w = .ok (.value (.pointer (some ⟨w.heap.size, 0, none⟩))) (w.alloc (.cells z.cells t)) := by
          unfold execOp
          simp [ho, Instr.alloc, zeroValue, typeInfo, program, Sem.run, hi, hz, newVar, newRow, newObj]
        have := alloc_good (t := t) r hlook hdst (hzr w (Xs σ s.M w)) hrun
        simp only [hdst] at this ⊢
        exact this
      · exact hc1.elim
    · exact hc1.elim
  · rename_i t x ho
    have hx := ev_sound r x
    split at hc
    · rename_i y hev
      rw [hev] at hx
      obtain ⟨hc1, htup⟩ := hc
      have hv : VR1 w (Xs σ s.M w) (castD C.tab t y) (a.eval x) := castD_sound (VR.one hx htup)
      unfold aAlloc at hc1 ⊢
      split at hc1
      · rename_i d hdst
        split at hc1
        · rename_i hlook
          have hrun : (execOp a.eval o).run P w = .ok (.value (.pointer (some ⟨w.heap.size, 0, none⟩))) (w.alloc (.cells (a.eval x).cells t)) := by
            unfold execOp
            simp [ho, Instr.box, newVar, newRow, newObj, Sem.run]
          have := alloc_good (t := t) r hlook hdst hv hrun
          simp only [hdst] at this ⊢
          exact this
        · exact hc1.elim
      · exact hc1.elim
    · exact hc.elim
  · rename_i t ps ho; exact build_sound T r ho hc
  · rename_i t len ps ho; exact buildSlice_sound T r ho hc
  · rename_i t x ho; exact cellR_good (load_sound T r ho (cellR_c hc))
  · rename_i t x y ho
    split at hc
    · rename_i hd
      exact cellR_good (aStore_sound T r ho hd (cellR_c hc))
    · exact hc.elim
  · rename_i op t x y t2 ho; exact aBin_sound T r ho hc
  · rename_i op t x ho; exact un_sound r ho hc
  · rename_i t u x ho; exact conv_sound T r ho hc
  · rename_i t x y ho; exact make_sound T r ho hc
  · rename_i t x lo hi mx ho; exact slice_sound T r ho hc
  · rename_i fn first captured ho; exact func_sound r ho hc
  · rename_i t x f ho; exact fieldAddr_sound T r ho hc
  · rename_i t x f ho; exact field_sound T r ho hc
  · rename_i t x y ho; exact indexAddr_sound T r ho hc
  · rename_i t x y ho; exact index_sound T r ho hc
  · rename_i t i ho; exact extract_sound r ho hc
  · rename_i c ho
    split at hc
    · rename_i hcal
      split at hc
      · rename_i x t h1 h2; exact len_sound T r ho hcal h1 h2 hc
      · exact hc.elim
    · rename_i hcal
      split at hc
      · rename_i x y t ts h1 h2; exact copy_sound T r ho hcal h1 h2 hc
      · exact hc.elim
    · rename_i hcal
      split at hc
      · rename_i x y t t2 h1 h2; exact new_sound T r ho hcal h1 h2 hc
      · exact hc.elim
    · rename_i hcal; exact min_sound r false ho hcal hc
    · rename_i hcal; exact min_sound r true ho hcal hc
    · rename_i x hcal
      split at hc
      · rename_i f xs hf
        obtain ⟨ps, e1, e2⟩ := fnOf_eval r hf
        exact call_sound K r ho hcal e1 e2 hc
      · exact hc.elim
    · exact hc.elim
    · exact hc.elim
  · exact hc.elim

end
end Go.Vg
