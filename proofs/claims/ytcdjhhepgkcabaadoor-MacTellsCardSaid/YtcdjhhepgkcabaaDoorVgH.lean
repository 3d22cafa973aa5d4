/- Vg, part H: blocks taken for good; the step of any operation. -/
import Derived.Test.YtcdjhhepgkcabaaDoorVgG
namespace Go.Vg
open Go Go.RowKit

def frz1 (b : Nat) (k : Blk) : AV → AV
  | .row c => bif Nat.beq c b then (match k with | .row _ x => .d x | .fix _ => .any) else .row c
  | .ptr c p => bif Nat.beq c b then (match k with | .fix x => .dat (getP x p) | .row _ _ => .any) else .ptr c p
  | .own c p off len cap => bif Nat.beq c b then (match k with
      | .fix x => (match getP x p with | .arr k _ l => .d (.ints k ((l.drop off).take len)) | _ => .any)
      | .row _ _ => .any) else .own c p off len cap
  | .rpt _ _ => .any
  | x => x

def frzB (b : Nat) (s : St) : St :=
  match look s.M b with
  | some k => bif Nat.blt b 1000 then ⟨s.T.map (frz1 b k), dropM s.M b⟩ else s
  | none => s

def frzArgs : List AV → St → St
  | [], s => s
  | .row b :: as, s => frzArgs as (frzB b s)
  | .own b _ _ _ _ :: as, s => frzArgs as (frzB b s)
  | .ptr b _ :: as, s => frzArgs as (frzB b s)
  | _ :: as, s => frzArgs as s

section
variable {P : Program} {w0 : World} {F : Env} {σ : Sg} {s : St} {a : Act} {w : World} {o : Oper}

theorem Rel.frz (r : Rel w0 F σ s a w) (b : Nat) : Rel w0 F σ (frzB b s) a w := by
  unfold frzB
  cases hb : look s.M b with
  | none => exact r
  | some k =>
    simp only
    cases hlt : Nat.blt b 1000 with
    | false => exact r
    | true =>
      simp only [cond_true]
      have hb1000 : b < 1000 := by simpa [Nat.blt_eq] using hlt
      have hm := r.mem b k hb
      have back : ∀ {c y}, look (dropM s.M b) c = some y → c ≠ b ∧ look s.M c = some y := by
        intro c y hc
        rw [look_drop] at hc
        split at hc
        · cases hc
        · rename_i h; exact ⟨h, hc⟩
      have hX : ∀ β, Xs σ s.M w β → Xs σ (dropM s.M b) w β ∧ w.heap[β]? = w.heap[β]? := fun β hβ => ⟨⟨hβ.1, hβ.2.1, fun c y hc => hβ.2.2 c y (back hc).2⟩, rfl⟩
      have hown : ∀ β, σ.blk b = some β → w0.heap.size ≤ β → Xs σ (dropM s.M b) w β := by
        intro β hβ hge
        refine ⟨r.blk_lt hb hβ, r.okn.1 β hge, fun c y hc hσ => ?_⟩
        obtain ⟨hne, hc⟩ := back hc
        exact hne (r.inj c b _ _ β hc hb hσ hβ)
      refine ⟨r.defs, by simp [r.len], fun i y hy => ?_, fun c y hc => ?_, fun c c' y y' β h1 h2 h3 h4 => r.inj c c' y y' β (back h1).2 (back h2).2 h3 h4, r.frm, r.okn⟩
      · simp only [List.getElem?_map, Option.map_eq_some_iff] at hy
        obtain ⟨y0, hy0, rfl⟩ := hy
        obtain ⟨v, hv, ha⟩ := r.tmp i y0 hy0
        refine ⟨v, hv, ?_⟩
        cases y0 with
        | d x => exact VR.mono hX x v ha
        | any => trivial
        | bq p q => exact ha
        | rpt c i => trivial
        | dat x => exact AR.mono (σ := σ) (M := s.M) hX (.dat x) v ha
        | row c =>
          simp only [frz1]
          obtain ⟨e, x, hc, hv'⟩ := ha
          rcases beq_cases c b with ⟨h, rfl⟩ | ⟨h, hn⟩
          · simp only [h, cond_true]
            rw [hb] at hc
            obtain rfl := Option.some.inj hc
            obtain ⟨cs, sz, n, q1, q2, q3⟩ := hm
            have hat : ∃ ad cap, σ.rv c = .slice ad n cap ∧ n ≤ cap ∧ At w (Xs σ (dropM s.M c) w) ad cs := by
              rcases q2.2 with ⟨h, h0⟩ | ⟨g, cap, cur, h, hg, hh, hnc, hcm, hsz, htk⟩
              · refine ⟨none, 0, by rw [h, h0], by omega, .inl ?_⟩
                exact List.eq_nil_of_length_eq_zero (by rw [q2.1, h0, Nat.zero_mul])
              · refine ⟨_, cap, h, hnc, .inr ⟨g, 0, rfl, hown g (by rw [q1, h]; rfl) hg, fun j u hu => ?_⟩⟩
                have := q2.cells (g := g) (by rw [h]; rfl) j u hu
                rw [addr_add_none] at this
                exact this
            obtain ⟨ad, cap, hrv, hnc, hat⟩ := hat
            rw [hrv] at hv'
            cases x with
            | ints k l => obtain ⟨_, rfl, rfl⟩ := q3; exact ⟨ad, cap, by rw [hv'], hnc, hat⟩
            | slc sz' xs => obtain ⟨_, _, rfl, her⟩ := q3; exact ⟨ad, cap, cs, by rw [hv'], hnc, hat, ER.mono hX _ _ _ her⟩
            | _ => exact q3.elim
          · simp only [h, cond_false]
            exact ⟨e, x, by rw [look_drop, if_neg hn]; exact hc, hv'⟩
        | ptr c p =>
          simp only [frz1]
          obtain ⟨x, β, hc, hσ, hp, hv'⟩ := ha
          rcases beq_cases c b with ⟨h, rfl⟩ | ⟨h, hn⟩
          · simp only [h, cond_true]
            rw [hb] at hc
            obtain rfl := Option.some.inj hc
            obtain ⟨β', cs, e, hσ', hF, hh, hcr⟩ := hm
            rw [hσ] at hσ'
            obtain rfl := Option.some.inj hσ'
            obtain ⟨us, hu, hcells⟩ := ptr_cells hh hcr hp
            exact ⟨β, _, us, hv', hown β hσ (by omega), CR.mono hX _ _ hu, hcells⟩
          · simp only [h, cond_false]
            exact ⟨x, β, by rw [look_drop, if_neg hn]; exact hc, hσ, hp, hv'⟩
        | own c p off len cap =>
          simp only [frz1]
          obtain ⟨x, β, k', n, l, α, hc, hσ, hp, hg, hn', hlc, hv', hα⟩ := ha
          rcases beq_cases c b with ⟨h, rfl⟩ | ⟨h, hn⟩
          · simp only [h, cond_true]
            rw [hb] at hc
            obtain rfl := Option.some.inj hc
            simp only [hg]
            obtain ⟨β', cs, e, hσ', hF, hh, hcr⟩ := hm
            rw [hσ] at hσ'
            obtain rfl := Option.some.inj hσ'
            obtain ⟨us, hu, hcells⟩ := ptr_cells hh hcr hp
            rw [hg] at hu
            simp only [CR] at hu
            obtain ⟨hl, rfl⟩ := hu
            refine ⟨some α, cap, ?_, ?_, ?_⟩
            · rw [hv']; simp only [List.length_take, List.length_drop]; congr 3; omega
            · simp only [List.length_take, List.length_drop]; omega
            · by_cases h0 : cap = 0
              · left
                have : len = 0 := by omega
                simp [this]
              · rw [hα (by omega), List.map_take, List.map_drop]
                exact At.cut (hown β hσ (by omega)) hcells off len
          · simp only [h, cond_false]
            exact ⟨x, β, k', n, l, α, by rw [look_drop, if_neg hn]; exact hc, hσ, hp, hg, hn', hlc, hv', hα⟩
      · obtain ⟨hne, hc⟩ := back hc
        have hmc := r.mem c y hc
        cases y with
        | fix z =>
          obtain ⟨γ, ds, e', h1, h2, h3, h4⟩ := hmc
          exact ⟨γ, ds, e', h1, h2, h3, CR.mono hX z ds h4⟩
        | row e' z =>
          obtain ⟨ds, sz, n, h1, h2, h3⟩ := hmc
          exact ⟨ds, sz, n, h1, h2, h3.mono hX⟩

theorem Rel.frzArgs : ∀ (as : List AV) {s : St}, Rel w0 F σ s a w → Rel w0 F σ (frzArgs as s) a w
  | [], _, r => r
  | .row b :: as, _, r => Rel.frzArgs as (r.frz b)
  | .own b _ _ _ _ :: as, _, r => Rel.frzArgs as (r.frz b)
  | .d _ :: as, _, r => Rel.frzArgs as r
  | .any :: as, _, r => Rel.frzArgs as r
  | .ptr b _ :: as, _, r => Rel.frzArgs as (r.frz b)
  | .dat _ :: as, _, r => Rel.frzArgs as r
  | .bq _ _ :: as, _, r => Rel.frzArgs as r
  | .rpt _ _ :: as, _, r => Rel.frzArgs as r

/-- Rows alone are taken. -/
def frzR1 (b : Nat) (x : D) : AV → AV
  | .row c => bif Nat.beq c b then .d x else .row c
  | .rpt _ _ => .any
  | y => y

def frzRow (b : Nat) (s : St) : St :=
  match look s.M b with
  | some (.row _ x) => bif Nat.blt b 1000 then ⟨s.T.map (frzR1 b x), dropM s.M b⟩ else s
  | _ => s

def frzRows : List AV → St → St
  | [], s => s
  | .row b :: as, s => frzRows as (frzRow b s)
  | _ :: as, s => frzRows as s

theorem Rel.frzRow (r : Rel w0 F σ s a w) (b : Nat) : Rel w0 F σ (frzRow b s) a w := by
  unfold Go.Vg.frzRow
  split
  · rename_i e x hb
    have h := r.frz b
    unfold frzB at h
    rw [hb] at h
    simp only at h
    have he : s.T.map (frz1 b (.row e x)) = s.T.map (frzR1 b x) := by
      refine List.map_congr_left fun y hy => ?_
      obtain ⟨i, hi⟩ := List.mem_iff_getElem?.1 hy
      obtain ⟨v, _, ha⟩ := r.tmp i y hi
      cases y with
      | ptr c p =>
        obtain ⟨z, β, hc, _⟩ := ha
        simp only [frz1, frzR1]
        rcases beq_cases c b with ⟨h, rfl⟩ | ⟨h, hn⟩
        · rw [hb] at hc
          cases hc
        · simp only [h, cond_false]
      | own c p off len cap =>
        obtain ⟨z, β, k', n, l, α, hc, _⟩ := ha
        simp only [frz1, frzR1]
        rcases beq_cases c b with ⟨h, rfl⟩ | ⟨h, hn⟩
        · rw [hb] at hc
          cases hc
        · simp only [h, cond_false]
      | _ => rfl
    rw [he] at h
    exact h
  · exact r

theorem Rel.frzRows : ∀ (as : List AV) {s : St}, Rel w0 F σ s a w → Rel w0 F σ (frzRows as s) a w
  | [], _, r => r
  | .row b :: as, _, r => Rel.frzRows as (r.frzRow b)
  | .own _ _ _ _ _ :: as, _, r => Rel.frzRows as r
  | .d _ :: as, _, r => Rel.frzRows as r
  | .any :: as, _, r => Rel.frzRows as r
  | .ptr _ _ :: as, _, r => Rel.frzRows as r
  | .dat _ :: as, _, r => Rel.frzRows as r
  | .bq _ _ :: as, _, r => Rel.frzRows as r
  | .rpt _ _ :: as, _, r => Rel.frzRows as r

end

/-- Does append start with nil, onto no row? -/
def copies (C : Ctx) (o : Oper) (x : Operand) : Bool :=
  match x, o.dst with
  | .const (.slice none 0 0), some d => !C.rows.contains d
  | _, _ => false

/-- Operations that look over all slots. -/
inductive Kind where
  | app (t t2 : TypeId) (x y : Operand)
  | frz (args : List Operand)
  | frzR (args : List Operand)
  | plain

def kindOf (C : Ctx) (o : Oper) : Kind :=
  match o.op with
  | .call c => match c.callee with
    | .builtin .append => match c.args.toList, c.argTypes.toList with
      | [x, y], [t, t2] => bif copies C o x then .plain else .app t t2 x y
      | _, _ => .plain
    | .value (.func _) => match o.dst with
      | some d => bif C.frz.contains d then .frz c.args.toList else bif C.frz.contains (d + 100000) then .frzR c.args.toList else .plain
      | none => .plain
    | _ => .plain
  | .makeFunc _ _ cs => match o.dst with
    | some d => bif C.frz.contains d then .frz cs.toList else .plain
    | none => .plain
  | .build _ ps => match o.dst with
    | some d => bif C.frz.contains d then .frz (ps.toList.map fun p => p.2) else .plain
    | none => .plain
  | _ => .plain

/-- The abstract step of any operation. -/
noncomputable def gstep (C : Ctx) (o : Oper) (s : St) : Prop × St :=
  match kindOf C o with
  | .app t t2 x y => gAppend C o.dst t t2 (evA s.T x) (evA s.T y) s
  | .frz args => match frzArgs (args.map (evA s.T)) s with
    | s' => match act C o (evA s'.T) s'.M with
      | r => (r.c, St.put ⟨s'.T, r.M⟩ o.dst r.v)
  | .frzR args => match frzRows (args.map (evA s.T)) s with
    | s' => match act C o (evA s'.T) s'.M with
      | r => (r.c, St.put ⟨s'.T, r.M⟩ o.dst r.v)
  | .plain => match act C o (evA s.T) s.M with
    | r => (r.c, St.put ⟨s.T, r.M⟩ o.dst r.v)

theorem kindOf_app {C : Ctx} {o : Oper} {t t2 : TypeId} {x y : Operand} (h : kindOf C o = .app t t2 x y) : ∃ c, o.op = .call c ∧ c.callee = .builtin .append ∧ c.args.toList = [x, y] ∧ c.argTypes.toList = [t, t2] := by
  unfold kindOf at h
  split at h
  · rename_i c ho
    split at h
    · rename_i hcal
      split at h
      · rename_i x' y' t' t2' h1 h2
        cases hcp : copies C o x' <;> rw [hcp] at h
        · obtain ⟨rfl, rfl, rfl, rfl⟩ := Kind.app.inj h
          exact ⟨c, ho, hcal, h1, h2⟩
        · cases h
      · cases h
    · split at h
      · rename_i d _
        cases hf : C.frz.contains d <;> rw [hf] at h
        · cases hf2 : C.frz.contains (d + 100000) <;> rw [hf2] at h <;> cases h
        · cases h
      · cases h
    · cases h
  · split at h
    · rename_i d _
      cases hf : C.frz.contains d <;> rw [hf] at h <;> cases h
    · cases h
  · split at h
    · rename_i d _
      cases hf : C.frz.contains d <;> rw [hf] at h <;> cases h
    · cases h
  · cases h

theorem gstep_sound {P : Program} {C : Ctx} {w0 : World} {F : Env} {σ : Sg} {s : St} {a : Act} {w : World} {o : Oper} (K : CtxOk P C) (r : Rel w0 F σ s a w) (hc : (gstep C o s).1) (Q : Exit → Act → World → Prop) :
    o.wp P a w (fun a' w' => ∃ σ', Rel w0 F σ' (gstep C o s).2 a' w') Q := by
  unfold gstep at hc ⊢
  split at hc
  · rename_i t t2 x y hk
    obtain ⟨c, ho, hcal, h1, h2⟩ := kindOf_app hk
    exact gAppend_sound K.1 r ho hcal h1 h2 hc Q
  · rename_i args hk
    exact act_sound K (r.frzArgs (args.map (evA s.T))) hc Q
  · rename_i args hk
    exact act_sound K (r.frzRows (args.map (evA s.T))) hc Q
  · exact act_sound K r hc Q

end Go.Vg
