/- Vg, part E10: make and copy; all operations together. -/
import Derived.Test.YtcdjhhepgkcabaaDoorVgE9
namespace Go.Vg
open Go Go.RowKit

section
variable {P : Program} {tab : Tab} {w0 : World} {F : Env} {σ : Sg} {s : St} {a : Act} {w : World} {o : Oper}

theorem make_sound (T : TabOk P tab) (r : Rel w0 F σ s a w) {rows : List Nat} {t : TypeId} {x y : Operand} (ho : o.op = .makeSlice t x y) (hc : (aMake tab rows t o.dst (evA s.T x) (evA s.T y) s.M).c) :
    Good P w0 F o s a w (aMake tab rows t o.dst (evA s.T x) (evA s.T y) s.M) := by
  have hx := ev_sound r x
  have hy := ev_sound r y
  have run : ∀ v w', (Instr.makeSlice t (a.eval x) (a.eval y)).run P w = .ok v w' → (execOp a.eval o).run P w = .ok (.value v) w' := fun v w' h => by
    unfold execOp
    simp only [ho, Sem.run_bind, h, Result.andThen_ok, Sem.run_pure]
  unfold aMake at hc ⊢
  split at hc
  · rename_i k n k' c d e hevx hevy hdst hty
    rw [hevx] at hx
    rw [hevy] at hy
    have ex := ar_int hx
    have ey := ar_int hy
    have ht := (T t (tg_lt' (by rw [hty]; simp))).tslice _ hty
    split at hc
    · rename_i ke hte hlook
      have R := T e (tg_lt' (by rw [hte]; simp))
      obtain ⟨i, z, hi, hsz, hby, hz, hzr⟩ := R.info
      have hzz := hzr w (Xs σ s.M w)
      rw [R.tint0 ke hte] at hzz
      have ez := vr_val (VR1.up hzz)
      cases h0 : rows.contains d with
      | true =>
        simp only [h0, cond_true] at hc ⊢
        obtain ⟨rfl, hc0, hc1, hc2, hs1⟩ := hc
        have hm := run_make (P := P) w t e i z ht hi hz k k' 0 c (Int.le_refl _) hc0 (by rw [hby]; exact hc2) (by omega)
        have hrun := run _ _ (by rw [ex, ey]; exact hm)
        have hg := Grow.alloc w (.cells (madeCells z.cells (c.toNat * i.size)) e)
        have own := World.ownsRow_made (base := w0.heap.size) (e := e) (size := i.size) w (madeCells z.cells (c.toNat * i.size)) c.toNat r.frm.size (by unfold maxLen; omega) (size_madeCells _ _)
        have R' := r.new (k := .row e (.ints ke [])) (v := .slice (some ⟨w.heap.size, 0, none⟩) 0 c.toNat) hlook hg (by simp) (fun σ' hk q0 q1 q2 =>
          ⟨[], i.size, 0, by rw [q1, q2]; rfl, by rw [q2]; exact own, by rw [hsz, hs1], rfl, rfl⟩)
        intro Q
        unfold Oper.wp
        rw [hrun]
        refine ⟨_, R'.put o.dst ?_⟩
        exact ⟨e, .ints ke [], by rw [look_put, if_pos rfl], (if_pos rfl).symm⟩
      | false =>
        simp only [h0, cond_false] at hc ⊢
        obtain ⟨hn0, rfl, hn1, hn2, hs1⟩ := hc
        have hm := run_make (P := P) w t e i z ht hi hz k k' c c hn0 (Int.le_refl _) (by rw [hby]; exact hn2) (by omega)
        have hrun := run _ _ (by rw [ex, ey]; exact hm)
        have hg := Grow.alloc w (.cells (madeCells z.cells (c.toNat * i.size)) e)
        have hcells : (madeCells z.cells (c.toNat * i.size)) = ((List.replicate c.toNat (0 : Int)).map (Value.int ke)).toArray := by
          apply Array.ext'
          rw [hsz, hs1, Nat.mul_one, ez]
          rw [show (Value.int ke 0).cells = #[Value.int ke 0] from rfl, toList_madeCells_one]
          simp
        have R' := r.new (k := .fix (.arr ke c.toNat (List.replicate c.toNat 0))) (v := .nilFunc) hlook hg (by simp) (fun σ' hk q0 q1 q2 =>
          ⟨w.heap.size, (List.replicate c.toNat (0 : Int)).map (Value.int ke), e, q1, .inl r.frm.size, by rw [heap_alloc_new, hcells], by simp, rfl⟩)
        intro Q
        unfold Oper.wp
        rw [hrun]
        refine ⟨_, R'.put o.dst ?_⟩
        exact ⟨.arr ke c.toNat (List.replicate c.toNat 0), w.heap.size, ke, c.toNat, List.replicate c.toNat 0, _, by rw [look_put, if_pos rfl], if_pos rfl, okP_nil _, rfl, by omega, Nat.le_refl _, rfl, fun _ => by rw [offS_nil]⟩
    · exact hc.elim
  · exact hc.elim

theorem stP_arr : ∀ (p : List Nat) (x : D) (k k' : IntKind) (n : Nat) (l l' : List Int), okP x p → getP x p = .arr k n l → stP x p (.arr k' n l')
  | [], x, k, k', n, l, l', _, h => by
    have h' : x = .arr k n l := by simpa [getP] using h
    subst h'
    exact rfl
  | i :: p, .st fs, k, k', n, l, l', hok, h => ⟨hok.1, stP_arr p _ k k' n l l' hok.2 (by simpa [getP] using h)⟩
  | i :: p, .arr k0 m l0, k, k', n, l, l', hok, h => by simp [getP] at h
  | i :: p, .val _, _, _, _, _, _, hok, _ => hok.elim
  | i :: p, .ints _ _, _, _, _, _, _, hok, _ => hok.elim
  | i :: p, .slc _ _, _, _, _, _, _, hok, _ => hok.elim
  | i :: p, .tup _, _, _, _, _, _, hok, _ => hok.elim
  | i :: p, .str _, _, _, _, _, _, hok, _ => hok.elim
  | i :: p, .ref _, _, _, _, _, _, hok, _ => hok.elim
  | i :: p, .clo _ _, _, _, _, _, _, hok, _ => hok.elim

theorem copy_sound (T : TabOk P tab) (r : Rel w0 F σ s a w) {c : Call} {t : TypeId} {ts : List TypeId} {x y : Operand} (ho : o.op = .call c) (hcal : c.callee = .builtin .copy) (hargs : c.args.toList = [x, y]) (hat : c.argTypes.toList = t :: ts)
    (hc : (aCopy tab t (evA s.T x) (evA s.T y) s.M).c) : Good P w0 F o s a w (aCopy tab t (evA s.T x) (evA s.T y) s.M) := by
  have hx := ev_sound r x
  have hy := ev_sound r y
  have e1 : c.args = #[x, y] := by rw [← Array.toList_inj, hargs]
  have e2 : c.argTypes[0]? = some t := by rw [← Array.getElem?_toList, hat]; rfl
  have run : ∀ v w', (Builtin.copy_ c.argTypes o.type #[a.eval x, a.eval y]).run P w = .ok v w' → (execOp a.eval o).run P w = .ok (.value v) w' := fun v w' h => by
    unfold execOp
    simp only [ho, resolve, hcal, e1, Sem.run_bind, Sem.run_pure, Result.andThen_ok, invoke, builtin, List.map_toArray, List.map_cons, List.map_nil, h]
  unfold aCopy at hc ⊢
  split at hc
  · rename_i b1 p off len cap e hevx hty
    rw [hevx] at hx
    have ht := (T t (tg_lt' (by rw [hty]; simp))).tslice _ hty
    split at hc
    · rename_i x0 k m hb hd
      split at hc
      · rename_i k' n l hg
        obtain ⟨rfl, hs1⟩ := hc
        obtain ⟨z, β, k2, n2, l2, α, hb2, hσ, hp, hg2, hn, hlc, hv, hα⟩ := hx
        rw [hb] at hb2
        obtain rfl := Blk.fix.inj (Option.some.inj hb2)
        rw [hg] at hg2
        obtain ⟨rfl, rfl, rfl⟩ := D.arr.inj hg2
        obtain ⟨ad, cp, hvy, hmc, hatc⟩ := (toD_sound r hy hd).1
        simp only [List.cons.injEq, and_true] at hvy
        obtain ⟨β', cs, e', hσ', _, hh, hcr⟩ := r.mem b1 _ hb
        rw [hσ] at hσ'
        obtain rfl := Option.some.inj hσ'
        have hu := getP_reads p x0 cs hcr hp
        rw [hg] at hu
        obtain ⟨q1, q2, q3, hcs, hq1, hq2⟩ := hu
        simp only [CR] at hq2
        obtain ⟨hll, rfl⟩ := hq2
        -- what is copied
        generalize hN : Nat.min m.length len = N
        have hNm : N ≤ m.length := by rw [← hN]; exact Nat.min_le_left _ _
        have hNl : N ≤ len := by rw [← hN]; exact Nat.min_le_right _ _
        have hfirst : (Builtin.firstCells 1 N (a.eval y)).run P w = .ok ((m.take N).map (Value.int k')).toArray w := by
          rw [hvy]
          cases ad with
          | none =>
            have hm0 : m = [] := by
              rcases hatc with h | ⟨_, _, h, _⟩
              · exact List.map_eq_nil_iff.1 h
              · cases h
            simp [Builtin.firstCells, hm0]
          | some ad =>
            have hl := run_loadCells_list (P := P) w ad ((m.take N).map (Value.int k')) (fun j v hj => by
              rcases hatc with h | ⟨_, o', h, hX, hcells⟩
              · have hm0 := List.map_eq_nil_iff.1 h
                subst hm0
                simp at hj
              · obtain rfl := Option.some.inj h
                rw [addr_add_none]
                refine hcells j v ?_
                rw [List.map_take, List.getElem?_take] at hj
                split at hj
                · exact hj
                · cases hj)
            have hlen : ((m.take N).map (Value.int k')).length = N := by simp; omega
            rw [hlen] at hl
            simp only [Builtin.firstCells, Nat.mul_one, hl]
        have hst := stP_arr p x0 k' k' n l (l.take off ++ m.take N ++ l.drop (off + N)) hp hg
        have hnl : (l.take off ++ m.take N ++ l.drop (off + N)).length = n := by simp; omega
        have hset := setP_reads p x0 (.arr k' n (l.take off ++ m.take N ++ l.drop (off + N))) cs _ hcr hst ⟨hnl, rfl⟩
        obtain ⟨v1, v2, v3, hcs', hv1, hv2, hnew⟩ := hset
        have hv1q : v1 = q1 := by
          have h1 : (v1 ++ v2 ++ v3).take v1.length = (q1 ++ l.map (Value.int k') ++ q3).take v1.length := by rw [← hcs', ← hcs]
          rw [List.append_assoc, List.take_left' rfl, List.append_assoc, List.take_left' (by omega)] at h1
          exact h1
        subst hv1q
        have hv23 : v2 ++ v3 = l.map (Value.int k') ++ q3 := by
          have := hcs'.symm.trans hcs
          rw [List.append_assoc, List.append_assoc] at this
          exact List.append_cancel_left this
        have hlen2 : v2.length = (l.map (Value.int k')).length := by rw [hv2]; simp; omega
        obtain ⟨hv2q, hv3q⟩ := List.append_inj hv23 hlen2
        subst hv2q hv3q
        have key : ∃ w', (storeCells α ((m.take N).map (Value.int k')) : Sem Unit).run P w = .ok () w' ∧ w'.os = w.os ∧ w'.tape = w.tape ∧ w'.output = w.output ∧ w'.heap.size = w.heap.size ∧ (∀ g, g ≠ β → w'.heap[g]? = w.heap[g]?) ∧
            w'.heap[β]? = some (.cells (v1 ++ (l.take off ++ m.take N ++ l.drop (off + N)).map (Value.int k') ++ v3).toArray e' (0, 0)) := by
          by_cases hN0 : N = 0
          · refine ⟨w, by rw [hN0]; rfl, rfl, rfl, rfl, rfl, fun _ _ => rfl, ?_⟩
            rw [hh, hcs, hN0]
            simp
          · have hα' := hα (by omega)
            rw [hα']
            have hrun := run_storeCells_at P β (offS (sk x0) p + off) e' ((m.take N).map (Value.int k')) 0 cs.toArray w hh (by
              rw [hcs]; simp; omega) (fun v hv => by
                obtain ⟨_, _, rfl⟩ := List.mem_map.1 hv; rfl)
            refine ⟨_, hrun, rfl, rfl, rfl, by simp, fun g hg => setRow_other w β g _ hg, ?_⟩
            rw [setRow_heap w β _ _ e' _ hh]
            congr 3
            rw [hcs, ← hv1, Nat.add_zero]
            simp only [List.toList_toArray, List.length_map, List.length_take]
            rw [show min N m.length = N from by omega]
            rw [List.append_assoc v1, ← List.drop_drop, List.take_length_add_append]
            rw [show List.drop (v1.length + off) (v1 ++ (l.map (Value.int k') ++ v3)) = List.drop off (l.map (Value.int k') ++ v3) from by rw [← List.drop_drop, List.drop_left' rfl]]
            rw [List.take_append_of_le_length (by simp; omega), List.drop_drop, List.drop_append_of_le_length (by simp; omega)]
            simp [List.map_take, List.map_drop]
        obtain ⟨w', hrun, k1, k2, k3, k4, k5, k6⟩ := key
        have hcopy : (Builtin.copy_ c.argTypes o.type #[a.eval x, a.eval y]).run P w = .ok (goInt N) w' := by
          have hl2 : (Builtin.lenOf (a.eval y)).run P w = .ok m.length w := by rw [hvy]; rfl
          rw [hv]
          simp only [Builtin.copy_, e2]
          simp only [show (#[Value.slice (some α) len cap, a.eval y] : Array Value)[0]? = some (.slice (some α) len cap) from rfl, show (#[Value.slice (some α) len cap, a.eval y] : Array Value)[1]? = some (a.eval y) from rfl]
          simp only [Sem.run_bind, run_underlying ht, Result.andThen_ok, hl2, index_add w T (show (tg tab e).size ≠ 0 by omega), hs1, hN, hfirst, hrun, Sem.run_pure]
        intro Q
        unfold Oper.wp
        rw [run _ _ hcopy]
        have R' := r.write hb hσ (sk_setP p x0 _ hst) k1 k2 k3 k4 k5 k6 (CR.mono (fun g hg => ⟨hg, k5 g (fun h => hg.2.2 b1 _ hb (by rw [h]; exact hσ))⟩) _ _ hnew)
        exact ⟨σ, R'.put o.dst ⟨rfl, rfl⟩⟩
      · exact hc.elim
    · exact hc.elim
  · exact hc.elim

theorem assign_sound {C : Ctx} (T : TabOk P C.tab) (r : Rel w0 F σ s a w) {x : Operand} (ho : o.op = .assign x) (hc : (aAssign C o.dst o.type (evA s.T x) s.M).c) :
    Good P w0 F o s a w (aAssign C o.dst o.type (evA s.T x) s.M) := by
  have hx := ev_sound r x
  have hrun : (execOp a.eval o).run P w = .ok (.value (a.eval x)) w := by unfold execOp; simp only [ho]; rfl
  have plain : Good P w0 F o s a w ⟨True, evA s.T x, s.M⟩ := good_c (r := r) hrun hx
  unfold aAssign at hc ⊢
  split
  · exact plain
  · rename_i d hdst
    simp only [hdst] at hc
    cases hrow : C.rows.contains d with
    | false => simp only [cond_false]; exact plain
    | true =>
      simp only [hrow, cond_true] at hc ⊢
      split at hc
      · rename_i hev
        rw [hev] at hx
        have ex := ar_val hx
        split at hc
        · rename_i e hty hlook
          have hs0 : (tg C.tab e).size ≠ 0 := hc
          intro Q
          unfold Oper.wp
          rw [hrun]
          have R' := r.new' (k := .row e (castD C.tab o.type (.val (.slice none 0 0)))) hlook (fun σ' h1 h2 => by
            refine ⟨[], (match castD C.tab o.type (.val (.slice none 0 0)) with | .slc s _ => s | _ => 1), 0, by rw [h1, h2]; rfl, by rw [h2]; exact World.ownsRow_nil _ _ _ _, ?_⟩
            unfold castD
            simp only [hty]
            split
            · exact ⟨rfl, rfl, rfl⟩
            · exact ⟨rfl, Nat.pos_of_ne_zero hs0, rfl, rfl⟩)
          refine ⟨_, R'.put o.dst ?_⟩
          exact ⟨e, _, by rw [look_put, if_pos rfl], by rw [ex]; exact (if_pos rfl).symm⟩
        · exact hc.elim
      · exact plain

end
end Go.Vg
