/- Vg, part E7: conversions, makes, literals, copy, calls. -/
import Derived.Test.YtcdjhhepgkcabaaDoorVgE6
import Derived.Lib.ConvBytes
import Derived.Laws.MakeOwn
namespace Go.Vg
open Go Go.RowKit

/-- A call of a function, with a body or without. -/
def UponCall (P : Program) (f : FuncId) (vs : Array Value) (w : World) (R : Value → World → Prop) : Prop :=
  match (callFunc f vs).run P w with
  | .ok (.value v) w' => R v w'
  | .ok (.enter g args) w' => Calls P g args w' fun e w'' => ∃ v, e = .returned v ∧ R v w''
  | _ => False

mutual
/-- Data that holds no slice. -/
def flatD : D → Bool
  | .val _ => true
  | .arr _ _ _ => true
  | .str _ => true
  | .st fs => flatDs fs
  | .tup fs => flatDs fs
  | _ => false
def flatDs : List D → Bool
  | [] => true
  | d :: ds => flatD d && flatDs ds
end

mutual
theorem flat_CR {w w' : World} {X X' : Nat → Prop} : ∀ (d : D) (vs : List Value), flatD d = true → CR w X d vs → CR w' X' d vs
  | .val _, _, _, h => by simpa only [CR] using h
  | .arr _ _ _, _, _, h => by simpa only [CR] using h
  | .str _, _, _, h => by simpa only [CR] using h
  | .ref _, _, hf, _ => by simp [flatD] at hf
  | .clo _ _, _, hf, _ => by simp [flatD] at hf
  | .st fs, vs, hf, h => by
    simp only [CR] at h ⊢
    exact flat_CRs fs vs (by simpa [flatD] using hf) h
  | .tup _, _, _, h => by simp only [CR] at h
  | .ints _ _, _, hf, _ => by simp [flatD] at hf
  | .slc _ _, _, hf, _ => by simp [flatD] at hf
theorem flat_CRs {w w' : World} {X X' : Nat → Prop} : ∀ (ds : List D) (vs : List Value), flatDs ds = true → CRs w X ds vs → CRs w' X' ds vs
  | [], _, _, h => by simpa only [CRs] using h
  | d :: ds, _, hf, h => by
    simp only [CRs] at h ⊢
    simp only [flatDs, Bool.and_eq_true] at hf
    obtain ⟨v1, v2, e, h1, h2⟩ := h
    exact ⟨v1, v2, e, flat_CR d v1 hf.1 h1, flat_CRs ds v2 hf.2 h2⟩
end

theorem flat_VR1 {w w' : World} {X X' : Nat → Prop} {d : D} {v : Value} (hf : flatD d = true) (h : VR1 w X d v) : VR1 w' X' d v := by
  cases d with
  | arr k n l => exact h
  | st fs => obtain ⟨cs, e, hc⟩ := h; exact ⟨cs, e, flat_CRs fs cs (by simpa [flatD] using hf) hc⟩
  | val x => exact flat_CR (w := w) (X := X) _ _ hf h
  | ints k l => simp [flatD] at hf
  | slc sz xs => simp [flatD] at hf
  | tup ds => exact flat_CR (w := w) (X := X) _ _ hf h
  | str l => exact flat_CR (w := w) (X := X) _ _ hf h
  | ref x => simp [flatD] at hf
  | clo f xs => simp [flatD] at hf

theorem flat_VR {w w' : World} {X X' : Nat → Prop} {d : D} {v : Value} (hf : flatD d = true) (h : VR w X d v) : VR w' X' d v := by
  by_cases ht : d.isTup = true
  · cases d <;> first | cases ht | skip
    rename_i ds
    obtain ⟨vs, e, hall⟩ := h
    refine ⟨vs, e, ?_⟩
    have hf' : flatDs ds = true := by simpa [flatD] using hf
    clear e hf
    induction hall with
    | nil => exact .nil
    | cons h1 _ ih =>
      simp only [flatDs, Bool.and_eq_true] at hf'
      exact .cons (flat_VR1 hf'.1 h1) (ih hf'.2)
  · exact (flat_VR1 hf (VR.one h (by simpa using ht))).up

/-- A function means what its Spec says: whatever blocks X the arguments lie in, the answer lies in those and in new ones. -/
def Meets (P : Program) (f : FuncId) (s : Spec) : Prop :=
  ∀ ds, s.pre ds → (s.flat = true → flatD (s.f ds) = true) ∧ ∀ (X : Nat → Prop) (w : World) (vs : List Value), GW w X → All2 (VR w (fun β => X β ∧ β < w.heap.size)) ds vs →
    UponCall P f vs.toArray w fun v w' => Grow w w' ∧ VR w' (fun β => (X β ∨ w.heap.size ≤ β) ∧ β < w'.heap.size) (s.f ds) v

def CtxOk (P : Program) (C : Ctx) : Prop := TabOk P C.tab ∧ ∀ f s, C.G f = some s → Meets P f s

section
variable {P : Program} {tab : Tab} {w0 : World} {F : Env} {σ : Sg} {s : St} {a : Act} {w : World} {o : Oper}

theorem all_toD (r : Rel w0 F σ s a w) : ∀ (avs : List AV) (vs : List Value), All2 (AR σ s.M w (Xs σ s.M w)) avs vs → ∀ (ts : List TypeId) (ds : List D), mapToD s.M tab avs ts = some ds →
    All2 (VR w (fun β => β < w.heap.size)) ds vs ∧ (allData avs = true → All2 (VR w (Xs σ s.M w)) ds vs)
  | _, _, .nil, ts, ds, h => by
    simp [mapToD] at h
    subst h
    exact ⟨.nil, fun _ => .nil⟩
  | _, _, .cons (a := y) (b := v) (as := avs) (bs := vs) hy hall, ts, ds, h => by
    simp only [mapToD] at h
    split at h
    · cases h
    · rename_i d hd
      split at h
      · cases h
      · rename_i ds' hds
        obtain rfl := Option.some.inj h
        have ih := all_toD r avs vs hall ts.tail ds' hds
        have hx := toD_sound r hy hd
        have cast : ∀ {X : Nat → Prop}, VR w X d v → VR w X (castD tab (ts.headD 0) d) v := fun {X} h => by
          by_cases ht : d.isTup = false
          · exact (castD_sound (VR.one h ht)).up
          · cases d <;> first | exact absurd rfl ht | exact h
        refine ⟨.cons (cast hx.1) ih.1, fun hall => ?_⟩
        cases y with
        | d y =>
          simp only [allData] at hall
          exact .cons (cast (hx.2 ⟨y, rfl⟩)) (ih.2 hall)
        | dat y =>
          simp only [allData] at hall
          obtain rfl := Option.some.inj hd
          exact .cons (cast (reref_sound hy)) (ih.2 hall)
        | _ => simp [allData] at hall

theorem all2_evs (r : Rel w0 F σ s a w) : ∀ (xs : List Operand), All2 (AR σ s.M w (Xs σ s.M w)) (xs.map (evA s.T)) (xs.map a.eval)
  | [] => .nil
  | x :: xs => .cons (ev_sound r x) (all2_evs r xs)
theorem all2_caps {X : Nat → Prop} {M : Mem} {σ : Sg} : ∀ {xs : List D} {ps : List Value}, All2 (VR w X) xs ps → All2 (AR σ M w X) (xs.map .d) ps
  | _, _, .nil => .nil
  | _, _, .cons h k => .cons h (all2_caps k)
theorem all2_app {α β : Type} {R : α → β → Prop} : ∀ {l m : List α} {l' m' : List β}, All2 R l l' → All2 R m m' → All2 R (l ++ m) (l' ++ m')
  | _, _, _, _, .nil, k => k
  | _, _, _, _, .cons h t, k => .cons h (all2_app t k)
theorem er_all2 {X : Nat → Prop} : ∀ (xs : List D) (ps : List Value), ER w X 1 xs ps → (∀ x ∈ xs, x.isAgg = false) → All2 (VR w X) xs ps
  | [], ps, h, _ => by
    simp only [ER] at h
    subst h
    exact .nil
  | x :: xs, ps, h, ha => by
    simp only [ER] at h
    obtain ⟨v1, v2, rfl, hl, h1, h2⟩ := h
    match v1, hl with
    | [v], _ => exact .cons (VR1.up (VR1.of_cell h1 (ha x (by simp)))) (er_all2 xs v2 h2 fun y hy => ha y (by simp [hy]))

theorem fnOf_eval (r : Rel w0 F σ s a w) {x : Operand} {f : FuncId} {xs : List D} (h : fnOf x (evA s.T x) = some (f, xs)) : ∃ ps : List Value, a.eval x = .func (.func f) #[] ps.toArray ∧ All2 (VR w (Xs σ s.M w)) xs ps := by
  have main : ∀ v, evA s.T x = v → (match v with
    | .d (.val (.func (.func f) a b)) => bif Nat.beq a.size 0 && Nat.beq b.size 0 then some (f, []) else none
    | .d (.clo f xs) => some (f, xs)
    | _ => none) = some (f, xs) → ∃ ps : List Value, a.eval x = .func (.func f) #[] ps.toArray ∧ All2 (VR w (Xs σ s.M w)) xs ps := by
    intro v hv h
    split at h
    · rename_i g p q
      have hx := ev_sound r x
      rw [hv] at hx
      have hx : a.eval x = .func (.func g) p q := (show a.eval x = Value.func (Fn.func g) p q ∧ isCell (Value.func (Fn.func g) p q) = true by simpa [AR, VR, VR1, CR] using hx).1
      cases hb : (Nat.beq p.size 0 && Nat.beq q.size 0) <;> rw [hb] at h
      · cases h
      · simp only [cond_true, Option.some.injEq, Prod.mk.injEq] at h
        obtain ⟨rfl, rfl⟩ := h
        simp only [Bool.and_eq_true] at hb
        refine ⟨[], ?_, .nil⟩
        rw [hx, Array.eq_empty_of_size_eq_zero (Nat.eq_of_beq_eq_true hb.1), Array.eq_empty_of_size_eq_zero (Nat.eq_of_beq_eq_true hb.2)]
    · rename_i g ys
      simp only [Option.some.injEq, Prod.mk.injEq] at h
      obtain ⟨rfl, rfl⟩ := h
      have hx := ev_sound r x
      rw [hv] at hx
      obtain ⟨ps, e, he, ha⟩ := (hx : CR w (Xs σ s.M w) (.clo g ys) [a.eval x])
      simp only [List.cons.injEq, and_true] at e
      exact ⟨ps, e, er_all2 ys ps he ha⟩
    · cases h
  unfold fnOf at h
  split at h
  · simp only [Option.some.injEq, Prod.mk.injEq] at h
    obtain ⟨rfl, rfl⟩ := h
    exact ⟨[], rfl, .nil⟩
  · exact main _ rfl h

theorem call_sound {C : Ctx} (K : CtxOk P C) (r : Rel w0 F σ s a w) {c : Call} {f : FuncId} {x : Operand} {xs : List D} {ps : List Value} (ho : o.op = .call c) (hcal : c.callee = .value x) (hev : a.eval x = .func (.func f) #[] ps.toArray) (hps : All2 (VR w (Xs σ s.M w)) xs ps)
    (hc : (aCall C f (c.args.toList.map (evA s.T) ++ xs.map .d) s.M).c) : Good P w0 F o s a w (aCall C f (c.args.toList.map (evA s.T) ++ xs.map .d) s.M) := by
  have hav := all2_app (all2_evs r c.args.toList) (all2_caps (M := s.M) (σ := σ) hps)
  unfold aCall at hc ⊢
  split at hc
  · exact hc.elim
  · rename_i sp hsp
    by_cases hfa : (sp.flat || allData (c.args.toList.map (evA s.T) ++ xs.map .d)) = true
    · simp only [hfa, cond_true] at hc ⊢
      split at hc
      · exact hc.elim
      · rename_i ds hds
        obtain ⟨h1, h2⟩ := all_toD r _ _ hav sp.ps ds hds
        have M := K.2 f sp hsp ds hc
        have hrun : (execOp a.eval o).run P w = (callFunc f (c.args.toList.map a.eval ++ ps).toArray).run P w := by
          unfold execOp
          simp only [ho, resolve, hcal, hev, Deferred.ofValue, Sem.run_bind, Sem.run_pure, Result.andThen_ok, invoke]
          congr 2
          apply Array.ext'
          simp
        have conc : UponCall P f (c.args.toList.map a.eval ++ ps).toArray w fun v w' => Grow w w' ∧ VR w' (Xs σ s.M w') (sp.f ds) v := by
          have mono : ∀ {R R' : Value → World → Prop}, (∀ v w', R v w' → R' v w') → UponCall P f (c.args.toList.map a.eval ++ ps).toArray w R → UponCall P f (c.args.toList.map a.eval ++ ps).toArray w R' := by
            intro R R' h hu
            unfold UponCall at hu ⊢
            split at hu
            · exact h _ _ hu
            · exact hu.mono fun e w' ⟨v, he, hr⟩ => ⟨v, he, h _ _ hr⟩
            · exact hu.elim
          cases hall : allData (c.args.toList.map (evA s.T) ++ xs.map .d) with
          | true =>
            refine mono ?_ (M.2 (Xs σ s.M w) w _ r.gw ((h2 hall).mono fun d v hv => VR.mono (fun β hβ => ⟨⟨hβ, hβ.1⟩, rfl⟩) d v hv))
            rintro v w' ⟨hg, hv⟩
            refine ⟨hg, VR.mono (fun β hβ => ⟨?_, rfl⟩) _ _ hv⟩
            rcases hβ.1 with hX | hnew
            · exact ((Xs.grow hg) β hX).1
            · refine ⟨hβ.2, r.okn.1 β (Nat.le_trans r.frm.size hnew), fun b x hb hσ => ?_⟩
              have hm := r.mem b x hb
              have : β < w.heap.size := by
                cases x with
                | fix z =>
                  obtain ⟨γ, cs, e, q1, _, q3, _⟩ := hm
                  rw [hσ] at q1
                  obtain rfl := Option.some.inj q1
                  exact block_lt q3
                | row e z =>
                  obtain ⟨cs, sz, n, q1, q2, _⟩ := hm
                  rw [hσ] at q1
                  exact (q2.lt β q1.symm).2
              omega
          | false =>
            rw [hall, Bool.or_false] at hfa
            refine mono ?_ (M.2 (fun _ => True) w _ (r.gw.mono fun _ _ _ => trivial) (h1.mono fun d v hv => VR.mono (fun β hβ => ⟨⟨trivial, hβ⟩, rfl⟩) d v hv))
            rintro v w' ⟨hg, hv⟩
            exact ⟨hg, flat_VR (M.1 hfa) hv⟩
        intro Q
        unfold Oper.wp
        rw [hrun]
        unfold UponCall at conc
        generalize (callFunc f (c.args.toList.map a.eval ++ ps).toArray).run P w = res at conc
        cases res with
        | halt x w' => exact conc.elim
        | ok nx w' =>
          cases nx <;> first
            | exact conc.elim
            | exact ⟨σ, (r.grow conc.1).put o.dst conc.2⟩
            | skip
          rename_i g args
          refine Calls.mono conc fun e w'' ⟨v, he, hg, hv⟩ => ?_
          subst he
          exact ⟨σ, (r.grow hg).put o.dst hv⟩
    · simp only [Bool.not_eq_true] at hfa
      simp only [hfa, cond_false] at hc
      exact hc.elim

theorem foldl_push (l : List Int) : ∀ (acc : List UInt8), l.foldl (fun (r : ByteArray) n => r.push (UInt8.ofNat n.toNat)) ⟨acc.toArray⟩ = ⟨(acc ++ l.map fun n => UInt8.ofNat n.toNat).toArray⟩ := by
  induction l with
  | nil => intro acc; simp
  | cons x l ih =>
    intro acc
    simp only [List.foldl_cons]
    have : (⟨acc.toArray⟩ : ByteArray).push (UInt8.ofNat x.toNat) = ⟨(acc ++ [UInt8.ofNat x.toNat]).toArray⟩ := by
      unfold ByteArray.push; simp
    rw [this, ih]
    simp

theorem conv_sound (T : TabOk P tab) (r : Rel w0 F σ s a w) {t u : TypeId} {x : Operand} (ho : o.op = .convert t u x) (hc : (aConv tab t u (evA s.T x) s.M).c) : Good P w0 F o s a w (aConv tab t u (evA s.T x) s.M) := by
  have hx := ev_sound r x
  have run : ∀ v w', (convert t u (a.eval x)).run P w = .ok v w' → (execOp a.eval o).run P w = .ok (.value v) w' := fun v w' h => by
    unfold execOp
    simp only [ho, Sem.run_bind, h, Result.andThen_ok, Sem.run_pure]
  unfold aConv at hc ⊢
  split at hc
  · rename_i k hk
    have hu := (T u (tg_lt' (by rw [hk]; simp))).tint _ hk
    split at hc
    · rename_i k' k'' n hk' heqx
      have ht := (T t (tg_lt' (by rw [hk']; simp))).tint _ hk'
      rw [heqx] at hx
      have ex := ar_int hx
      refine good_c (r := r) (v := .int k (k.wrap n)) (run _ _ ?_) (vr_of_int w (Xs σ s.M w) _ _)
      rw [ex]
      simp [convert, run_underlying ht, run_underlying hu, Conv.intToInt]
    · exact hc.elim
  · rename_i hk
    have hu := (T u (tg_lt' (by rw [hk]; simp))).tstr hk
    split at hc
    · rename_i e hte
      have ht := (T t (tg_lt' (by rw [hte]; simp))).tslice _ hte
      split at hc
      · rename_i hee
        have he := (T e (tg_lt' (by rw [hee]; simp))).tint _ hee
        split at hc
        · rename_i l hd
          have hb : isBytes l := hc
          obtain ⟨ad, cp, hv, hlc, hat⟩ := (toD_sound r hx hd).1
          simp only [List.cons.injEq, and_true] at hv
          refine good_c (r := r) (v := .string (bstr l)) (run _ _ ?_) ⟨rfl, hb⟩
          rw [hv]
          cases ad with
          | none =>
            have hl0 : l = [] := by
              rcases hat with h | ⟨β, o', h, _⟩
              · exact List.map_eq_nil_iff.1 h
              · cases h
            subst hl0
            simp [convert, run_underlying ht, run_underlying hu, run_underlying he, Conv.bytesToString]
            rfl
          | some ad =>
            have hl : (loadCells ad l.length).run P w = .ok (l.map (Value.int .u8)).toArray w := by
              have := run_loadCells_list (P := P) w ad (l.map (Value.int .u8)) (fun j v hj => by
                rcases hat with h | ⟨β, o', h, hX, hcells⟩
                · rw [h] at hj; simp at hj
                · obtain rfl := Option.some.inj h
                  rw [addr_add_none]
                  exact hcells j v hj)
              rwa [List.length_map] at this
            have h2 := run_bytesToString (P := P) w ad l.length cp l hl
            have h3 := foldl_push l []
            simp only [List.nil_append] at h3
            rw [show ByteArray.empty = (⟨([] : List UInt8).toArray⟩ : ByteArray) from rfl, h3] at h2
            simp only [convert, Sem.run_bind, run_underlying ht, run_underlying hu, Result.andThen_ok, run_underlying he]
            exact h2
        · rename_i hd
          have hv := vr_val (toD_sound r hx hd).1
          refine good_c (r := r) (v := .string (bstr [])) (run _ _ ?_) ⟨rfl, fun z hz => by cases hz⟩
          rw [hv]
          simp [convert, run_underlying ht, run_underlying hu, run_underlying he, Conv.bytesToString]
          rfl
        · exact hc.elim
      · exact hc.elim
    · rename_i hte
      have ht := (T t (tg_lt' (by rw [hte]; simp))).tstr hte
      split at hc
      · rename_i l heqx
        rw [heqx] at hx
        obtain ⟨ex, hb⟩ := ar_str hx
        refine good_c (r := r) (v := .string (bstr l)) (run _ _ ?_) ⟨rfl, hb⟩
        rw [ex]
        simp [convert, run_underlying ht, run_underlying hu]
      · exact hc.elim
    · exact hc.elim
  · rename_i e hk
    have hu := (T u (tg_lt' (by rw [hk]; simp))).tslice _ hk
    split at hc
    · rename_i hee hte
      have he := (T e (tg_lt' (by rw [hee]; simp))).tint _ hee
      have ht := (T t (tg_lt' (by rw [hte]; simp))).tstr hte
      split at hc
      · rename_i l heqx
        rw [heqx] at hx
        obtain ⟨ex, hb⟩ := ar_str hx
        have hg : Grow w (Lib.bytesWorld w e (bstr l)) := ⟨by first | (simp [Lib.bytesWorld, World.freeze]; done) | (simp [Lib.bytesWorld, World.freeze]; rfl), by first | (simp [Lib.bytesWorld, World.freeze]; done) | (simp [Lib.bytesWorld, World.freeze]; rfl), by first | (simp [Lib.bytesWorld, World.freeze]; done) | (simp [Lib.bytesWorld, World.freeze]; rfl), by rw [Lib.bytesWorld_size]; omega, fun k hk => Lib.bytesWorld_at_old w e (bstr l) k hk⟩
        have hrun := run _ _ (by rw [ex]; exact Lib.run_convert_string_bytes (P := P) w t u e (bstr l) ht hu he)
        intro Q
        refine good_grow (P := P) (o := o) r hrun hg ?_ Q
        refine ⟨some ⟨w.heap.size, 0, none⟩, grownCap w (bstr l).size 0 e, by rw [bstr_size], ?_, .inr ⟨w.heap.size, 0, rfl, ⟨by rw [Lib.bytesWorld_size]; omega, r.okn.1 _ r.frm.size, fun b x hbx hσ => ?_⟩, fun j v hj => ?_⟩⟩
        · have := grownCap_ge w (bstr l).size 0 e; rw [bstr_size] at this ⊢; exact this
        · have hm := r.mem b x hbx
          cases x with
          | fix z =>
            obtain ⟨γ, cs, e, q1, _, q3, _⟩ := hm
            rw [hσ] at q1
            obtain rfl := Option.some.inj q1
            have := block_lt q3
            omega
          | row e z =>
            obtain ⟨cs, sz, n, q1, q2, _⟩ := hm
            rw [hσ] at q1
            have := (q2.lt _ q1.symm).2
            omega
        · have hj' : j < l.length := by
            rcases Nat.lt_or_ge j l.length with h | h
            · exact h
            · rw [List.getElem?_eq_none (by simpa using h)] at hj; cases hj
          have := Lib.bytesWorld_cell w e (bstr l) j (by rw [bstr_size]; exact hj')
          rw [Nat.zero_add, this]
          simp only [List.getElem?_map, List.getElem?_eq_getElem hj', Option.map_some, Option.some.injEq] at hj
          rw [← hj]
          have hbb := hb _ (List.getElem_mem hj')
          have e2 : (bstr l).data.toList.getD j 0 = UInt8.ofNat (l[j]).toNat := by
            unfold bstr
            simp [List.getElem?_eq_getElem hj']
          rw [e2, byte_back hbb]
      · exact hc.elim
    · exact hc.elim
  · exact hc.elim

end
end Go.Vg
