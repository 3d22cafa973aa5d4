/- Vg, part E2: writes and new blocks. -/
import Derived.Test.YtcdjhhepgkcabaaDoorVgE
namespace Go.Vg
open Go Go.RowKit

theorem offS_nil (s : Sk) : offS s [] = 0 := by cases s <;> rfl

def okS : Sk → List Nat → Prop
  | _, [] => True
  | .st fs, i :: p => i < fs.length ∧ okS (fs.getD i .one) p
  | .arr n, i :: p => i < n ∧ p = []
  | .one, _ :: _ => False

theorem okP_iff : ∀ (p : List Nat) (x : D), okP x p ↔ okS (sk x) p
  | [], x => by simp [okP, okS]
  | i :: p, .st fs => by
    simp only [okP, sk, okS, sks_length]
    constructor
    · rintro ⟨h1, h2⟩
      exact ⟨h1, by rw [sks_getD fs i h1]; exact (okP_iff p _).1 h2⟩
    · rintro ⟨h1, h2⟩
      exact ⟨h1, by rw [sks_getD fs i h1] at h2; exact (okP_iff p _).2 h2⟩
  | i :: p, .arr k n l => by simp [okP, sk, okS]
  | i :: p, .val _ => by simp [okP, sk, okS]
  | i :: p, .ints _ _ => by simp [okP, sk, okS]
  | i :: p, .slc _ _ => by simp [okP, sk, okS]
  | i :: p, .tup _ => by simp [okP, sk, okS]
  | i :: p, .str _ => by simp [okP, sk, okS]
  | i :: p, .ref _ => by simp [okP, sk, okS]
  | i :: p, .clo _ _ => by simp [okP, sk, okS]

theorem sk_arr {d : D} {n : Nat} (h : sk d = .arr n) : ∃ k l, d = .arr k n l := by
  cases d <;> simp [sk] at h
  subst h
  exact ⟨_, _, rfl⟩

section
variable {P : Program} {tab : Tab} {w0 : World} {F : Env} {σ : Sg} {s : St} {a : Act} {w : World} {o : Oper}

/-- An address keeps its meaning while the block keeps its skeleton. -/
theorem AR.put_fix {M : Mem} {w' : World} {X X' : Nat → Prop} {b : Nat} {x x' : D} (hb : look M b = some (.fix x)) (hs : sk x' = sk x) (h : ∀ β, X β → X' β ∧ w'.heap[β]? = w.heap[β]?)
    {y : AV} {v : Value} (hv : AR σ M w X y v) : AR σ (putM M b (.fix x')) w' X' y v := by
  cases y with
  | d y => exact VR.mono h y v hv
  | any => trivial
  | bq p q => exact hv
  | dat y => exact AR.mono (σ := σ) (M := M) h (.dat y) v hv
  | rpt c i =>
    obtain ⟨e, z, g, n, cap, hc, hv⟩ := hv
    refine ⟨e, z, g, n, cap, ?_, hv⟩
    rw [look_put]
    split
    · rename_i hcb; rw [hcb, hb] at hc; cases hc
    · exact hc
  | row c =>
    obtain ⟨e, z, hc, hv⟩ := hv
    refine ⟨e, z, ?_, hv⟩
    rw [look_put]
    split
    · rename_i hcb; rw [hcb, hb] at hc; cases hc
    · exact hc
  | ptr c p =>
    obtain ⟨z, β, hc, hβ, hp, hv⟩ := hv
    by_cases hcb : c = b
    · subst hcb
      rw [hb] at hc
      obtain rfl := Blk.fix.inj (Option.some.inj hc)
      refine ⟨x', β, by rw [look_put, if_pos rfl], hβ, ?_, by rw [hs]; exact hv⟩
      rw [okP_iff, hs, ← okP_iff]; exact hp
    · exact ⟨z, β, by rw [look_put, if_neg hcb]; exact hc, hβ, hp, hv⟩
  | own c p off len cap =>
    obtain ⟨z, β, k, n, l, α, hc, hβ, hp, hg, h1, h2, hv, hα⟩ := hv
    by_cases hcb : c = b
    · subst hcb
      rw [hb] at hc
      obtain rfl := Blk.fix.inj (Option.some.inj hc)
      have hp' : okP x' p := by rw [okP_iff, hs, ← okP_iff]; exact hp
      have hsub : sk (getP x' p) = .arr n := by rw [← subS_getP p x' hp', hs, subS_getP p x hp, hg]; rfl
      obtain ⟨k', l', hg'⟩ := sk_arr hsub
      exact ⟨x', β, k', n, l', α, by rw [look_put, if_pos rfl], hβ, hp', hg', h1, h2, hv, by rw [hs]; exact hα⟩
    · exact ⟨z, β, k, n, l, α, by rw [look_put, if_neg hcb]; exact hc, hβ, hp, hg, h1, h2, hv, hα⟩

theorem Xs_put {M : Mem} {b : Nat} {k k' : Blk} (hb : look M b = some k) (w w' : World) (hsz : w'.heap.size = w.heap.size) (β : Nat) : Xs σ (putM M b k') w' β ↔ Xs σ M w β := by
  constructor
  · rintro ⟨h1, h0, h2⟩
    refine ⟨by omega, h0, fun c y hc => ?_⟩
    by_cases hcb : c = b
    · subst hcb; exact h2 c k' (by rw [look_put, if_pos rfl])
    · exact h2 c y (by rw [look_put, if_neg hcb]; exact hc)
  · rintro ⟨h1, h0, h2⟩
    refine ⟨by omega, h0, fun c y hc => ?_⟩
    rw [look_put] at hc
    split at hc
    · rename_i hcb; rw [hcb]; exact h2 b k hb
    · exact h2 c y hc

/-- One of the call's own blocks is written. -/
theorem Rel.write (r : Rel w0 F σ s a w) {b β : Nat} {x x' : D} {w' : World} {cs' : List Value} {e : TypeId} (hb : look s.M b = some (.fix x)) (hβ : σ.blk b = some β) (hs : sk x' = sk x)
    (hos : w'.os = w.os) (htape : w'.tape = w.tape) (hout : w'.output = w.output) (hsz : w'.heap.size = w.heap.size) (hoth : ∀ k, k ≠ β → w'.heap[k]? = w.heap[k]?)
    (hnew : w'.heap[β]? = some (.cells cs'.toArray e (0, 0))) (hcr : CR w' (Xs σ s.M w) x' cs') : Rel w0 F σ ⟨s.T, putM s.M b (.fix x')⟩ a w' := by
  have hX : ∀ k, Xs σ s.M w k → Xs σ (putM s.M b (.fix x')) w' k ∧ w'.heap[k]? = w.heap[k]? := fun k hk =>
    ⟨(Xs_put hb w w' hsz k).2 hk, hoth k (fun h => hk.2.2 b _ hb (by rw [h]; exact hβ))⟩
  have hX' : ∀ k, Xs σ s.M w k → Xs σ (putM s.M b (.fix x')) w' k ∧ w'.heap[k]? = w'.heap[k]? := fun k hk => ⟨(hX k hk).1, rfl⟩
  obtain ⟨β', cs, e0, hβ', hF, _, _⟩ := r.mem b _ hb
  rw [hβ] at hβ'
  obtain rfl := Option.some.inj hβ'
  refine ⟨r.defs, r.len, fun i y hy => ?_, fun c k hc => ?_, fun c c' k k' β' h1 h2 h3 h4 => ?_, ?_, r.okn⟩
  · obtain ⟨v, hv, ha⟩ := r.tmp i y hy
    exact ⟨v, hv, ha.put_fix hb hs hX⟩
  · rw [look_put] at hc
    split at hc
    · rename_i hcb
      subst hcb
      obtain rfl := Option.some.inj hc
      exact ⟨β, cs', e, hβ, hF, hnew, CR.mono hX' x' cs' hcr⟩
    · rename_i hcb
      have hm := r.mem c k hc
      cases k with
      | fix z =>
        obtain ⟨γ, ds, e', h1, h2, h3, h4⟩ := hm
        have hne : γ ≠ β := fun h => hcb (r.inj c b _ _ β hc hb (by rw [h1, h]) hβ)
        exact ⟨γ, ds, e', h1, h2, by rw [hoth γ hne]; exact h3, CR.mono hX z ds h4⟩
      | row e' z =>
        obtain ⟨ds, sz, n, h1, h2, h3⟩ := hm
        refine ⟨ds, sz, n, h1, ⟨h2.1, ?_⟩, h3.mono hX⟩
        rcases h2.2 with h2 | ⟨g, cap, cur, hv, hg, hh, rest⟩
        · exact .inl h2
        · have hne : g ≠ β := fun h => hcb (r.inj c b _ _ β hc hb (by rw [h1, hv, h]; rfl) hβ)
          exact .inr ⟨g, cap, cur, hv, hg, by rw [hoth g hne]; exact hh, rest⟩
  · have back : ∀ c k, look (putM s.M b (.fix x')) c = some k → ∃ k, look s.M c = some k := fun c k hc => by
      rw [look_put] at hc
      split at hc
      · rename_i h; exact ⟨_, by rw [h]; exact hb⟩
      · exact ⟨k, hc⟩
    obtain ⟨_, h1⟩ := back c k h1
    obtain ⟨_, h2⟩ := back c' k' h2
    exact r.inj c c' _ _ β' h1 h2 h3 h4
  · refine ⟨hos.trans r.frm.os, htape.trans r.frm.tape, hout.trans r.frm.output, by have := r.frm.size; omega, fun k hk hF' => ?_⟩
    have hne : k ≠ β := fun h => by
      rcases hF with h' | h'
      · omega
      · exact hF' (by rw [h]; exact h'.2)
    rw [hoth k hne]
    exact r.frm.block k hk hF'

theorem aStore_sound (T : TabOk P tab) (r : Rel w0 F σ s a w) {t : TypeId} {x y : Operand} (ho : o.op = .store t x y) (hd : o.dst = none) (hc : (aStore tab t (evA s.T x) (evA s.T y) s.M).c) :
    Good P w0 F o s a w (aStore tab t (evA s.T x) (evA s.T y) s.M) := by
  have hx := ev_sound r x
  have hy := ev_sound r y
  unfold aStore at hc ⊢
  split at hc
  · rename_i b p y0 heq heq'
    rw [heq] at hx
    rw [heq'] at hy
    obtain ⟨x0, β, hb, hσ, hp, hv⟩ := hx
    simp only [hb] at hc ⊢
    obtain ⟨hst, hs0, hs, htup⟩ := hc
    obtain ⟨β', cs, e, hσ', _, hh, hcr⟩ := r.mem b _ hb
    rw [hσ] at hσ'
    obtain rfl := Option.some.inj hσ'
    have hyc : VR1 w (Xs σ s.M w) (castD tab t y0) (a.eval y) := castD_sound (VR.one hy htup)
    have hus := VR1.cells hyc
    obtain ⟨v1, v2, v3, rfl, hl, hll, hnew⟩ := setP_reads p x0 _ cs _ hcr hst hus
    have R := T t (tg_lt hs0)
    obtain ⟨i, z, hi, hsz, _, _, _⟩ := R.info
    have hn : (a.eval y).cells.size = i.size := by
      have := CR.sklen hus
      rw [Array.length_toList] at this
      omega
    have hrun := run_storeCells_at P β (offS (sk x0) p) e (a.eval y).cells.toList 0 _ w hh (by
        simp only [List.size_toArray, List.length_append]; omega) (fun v hv => by rw [isCell_one]; exact CR.cell _ _ hus v hv)
    intro Q
    unfold Oper.wp execOp
    have hgo : (Instr.storeAt t (a.eval x) (a.eval y)).run P w = .ok () (w.setRow β (v1 ++ (a.eval y).cells.toList ++ v3).toArray) := by
      simp only [Instr.storeAt, hv, Instr.sureAddr, Sem.run_bind, Sem.run_pure, Result.andThen_ok, storeVar, sizeOf, typeInfo, program, Sem.run, hi, hn]
      simp only [ne_eq, not_true_eq_false, if_false, hrun, Nat.add_zero]
      congr 3
      rw [← hl]
      simp only [Array.length_toList] at hll
      rw [List.append_assoc v1 v2 v3, List.take_left' rfl, ← List.append_assoc, List.append_assoc v1 v2 v3, ← List.drop_drop, List.drop_left' rfl, List.drop_left' (by simpa using hll)]
    simp only [ho, Sem.run_bind, hgo, Result.andThen_ok, Sem.run_pure, Oper.upon_skip, hd, Act.put, St.put]
    refine ⟨σ, r.write hb hσ (sk_setP p x0 _ hst) rfl rfl rfl (by simp) (fun k hk => setRow_other w β k _ hk) (setRow_heap w β _ _ e _ hh) ?_⟩
    exact CR.mono (fun k hk => ⟨hk, setRow_other w β k _ (fun h => hk.2.2 b _ hb (by rw [h]; exact hσ))⟩) _ _ hnew
  · exact hc.elim

theorem Xs_new {M : Mem} {d : Nat} {k : Blk} (hd : look M d = none) {w w' : World} (hg : Grow w w') {σ' : Sg} (hσ : ∀ c, c ≠ d → σ'.blk c = σ.blk c) (hnew : σ'.blk d = some w.heap.size) (hok : σ'.ok = σ.ok) :
    ∀ β, Xs σ M w β → Xs σ' (putM M d k) w' β ∧ w'.heap[β]? = w.heap[β]? := by
  intro β hβ
  refine ⟨⟨Nat.lt_of_lt_of_le hβ.1 hg.size, by rw [hok]; exact hβ.2.1, fun c y hc => ?_⟩, hg.block β hβ.1⟩
  rw [look_put] at hc
  split at hc
  · rename_i h
    rw [h, hnew]
    intro e
    have := hβ.1
    have := Option.some.inj e
    omega
  · rename_i h
    rw [hσ c h]
    exact hβ.2.2 c y hc

/-- An abstract value keeps its meaning when a block with a new number is laid beside. -/
theorem AR.put_new {M : Mem} {w' : World} {X X' : Nat → Prop} {d : Nat} {k : Blk} (hd : look M d = none) (h : ∀ β, X β → X' β ∧ w'.heap[β]? = w.heap[β]?) {σ' : Sg} (hσ : ∀ c, c ≠ d → σ'.blk c = σ.blk c ∧ σ'.rv c = σ.rv c)
    {y : AV} {v : Value} (hv : AR σ M w X y v) : AR σ' (putM M d k) w' X' y v := by
  have ne : ∀ {c : Nat} {z : Blk}, look M c = some z → c ≠ d := fun hc e => by rw [e, hd] at hc; cases hc
  cases y with
  | d y => exact VR.mono h y v hv
  | any => trivial
  | bq p q => exact hv
  | dat y => exact AR.mono (σ := σ) (M := M) h (.dat y) v hv
  | row c =>
    obtain ⟨e, z, hc, hv⟩ := hv
    exact ⟨e, z, by rw [look_put, if_neg (ne hc)]; exact hc, by rw [(hσ c (ne hc)).2]; exact hv⟩
  | rpt c i =>
    obtain ⟨e, z, g, n, cap, hc, hrv, hv⟩ := hv
    exact ⟨e, z, g, n, cap, by rw [look_put, if_neg (ne hc)]; exact hc, by rw [(hσ c (ne hc)).2]; exact hrv, hv⟩
  | ptr c p =>
    obtain ⟨z, β, hc, hβ, hp, hv⟩ := hv
    exact ⟨z, β, by rw [look_put, if_neg (ne hc)]; exact hc, by rw [(hσ c (ne hc)).1]; exact hβ, hp, hv⟩
  | own c p off len cap =>
    obtain ⟨z, β, k, n, l, α, hc, hβ, rest⟩ := hv
    exact ⟨z, β, k, n, l, α, by rw [look_put, if_neg (ne hc)]; exact hc, by rw [(hσ c (ne hc)).1]; exact hβ, rest⟩

/-- A block with a new number, made by a world that only grew. -/
theorem Rel.new (r : Rel w0 F σ s a w) {d : Nat} {k : Blk} {w' : World} {v : Value} (hd : look s.M d = none) (hg : Grow w w') (hlt : w.heap.size < w'.heap.size)
    (hb : ∀ σ' : Sg, σ'.ok = σ.ok → (∀ c, c ≠ d → σ'.blk c = σ.blk c) → σ'.blk d = some w.heap.size → σ'.rv d = v → BR σ' w0 F.F w' (Xs σ' (putM s.M d k) w') d k) :
    Rel w0 F ⟨fun c => if c = d then some w.heap.size else σ.blk c, fun c => if c = d then v else σ.rv c, σ.ok⟩ ⟨s.T, putM s.M d k⟩ a w' := by
  have hσ : ∀ c, c ≠ d → (if c = d then some w.heap.size else σ.blk c) = σ.blk c := fun c h => if_neg h
  have hX := Xs_new (σ := σ) (σ' := ⟨fun c => if c = d then some w.heap.size else σ.blk c, fun c => if c = d then v else σ.rv c, σ.ok⟩) (k := k) hd hg hσ (if_pos rfl) rfl
  have ne : ∀ {c : Nat} {z : Blk}, look s.M c = some z → c ≠ d := fun hc e => by rw [e, hd] at hc; cases hc
  have old : ∀ c z β, look s.M c = some z → σ.blk c = some β → β < w.heap.size := by
    intro c z β hc hβ
    have hm := r.mem c z hc
    cases z with
    | fix z =>
      obtain ⟨γ, ds, e', h1, h2, h3, h4⟩ := hm
      rw [hβ] at h1
      obtain rfl := Option.some.inj h1
      exact block_lt h3
    | row e' z =>
      obtain ⟨ds, sz, n, h1, h2, h3⟩ := hm
      rw [hβ] at h1
      exact (h2.lt β h1.symm).2
  refine ⟨r.defs, r.len, fun i y hy => ?_, fun c z hc => ?_, fun c c' z z' β h1 h2 h3 h4 => ?_, r.frm.trans (hg.frm F.F), r.okn⟩
  · obtain ⟨v, hv, ha⟩ := r.tmp i y hy
    exact ⟨v, hv, ha.put_new hd hX (fun c h => ⟨if_neg h, if_neg h⟩)⟩
  · rw [look_put] at hc
    split at hc
    · rename_i h
      subst h
      obtain rfl := Option.some.inj hc
      exact hb _ rfl hσ (if_pos rfl) (if_pos rfl)
    · rename_i h
      have hm := r.mem c z hc
      cases z with
      | fix z =>
        obtain ⟨γ, ds, e', h1, h2, h3, h4⟩ := hm
        exact ⟨γ, ds, e', by simp only [if_neg h]; exact h1, h2, by rw [hg.block γ (block_lt h3)]; exact h3, CR.mono hX z ds h4⟩
      | row e' z =>
        obtain ⟨ds, sz, n, h1, h2, h3⟩ := hm
        exact ⟨ds, sz, n, by simp only [if_neg h]; exact h1, by simp only [if_neg h]; exact ownsRow_grow hg h2, h3.mono hX⟩
  · simp only at h3 h4
    rw [look_put] at h1 h2
    by_cases e1 : c = d <;> by_cases e2 : c' = d
    · rw [e1, e2]
    · rw [if_pos e1] at h3
      rw [if_neg e2] at h4 h2
      have := old c' z' β h2 h4
      have := Option.some.inj h3
      omega
    · rw [if_neg e1] at h3 h1
      rw [if_pos e2] at h4
      have := old c z β h1 h3
      have := Option.some.inj h4
      omega
    · rw [if_neg e1] at h3 h1
      rw [if_neg e2] at h4 h2
      exact r.inj c c' z z' β h1 h2 h3 h4

/-- A block with a new number that lies nowhere yet (a row that is nil). -/
theorem Rel.new' (r : Rel w0 F σ s a w) {d : Nat} {k : Blk} (hd : look s.M d = none)
    (hb : ∀ σ' : Sg, σ'.blk d = none → σ'.rv d = .slice none 0 0 → BR σ' w0 F.F w (Xs σ' (putM s.M d k) w) d k) :
    Rel w0 F ⟨fun c => if c = d then none else σ.blk c, fun c => if c = d then .slice none 0 0 else σ.rv c, σ.ok⟩ ⟨s.T, putM s.M d k⟩ a w := by
  have ne : ∀ {c : Nat} {z : Blk}, look s.M c = some z → c ≠ d := fun hc e => by rw [e, hd] at hc; cases hc
  have hX : ∀ β, Xs σ s.M w β → Xs ⟨fun c => if c = d then none else σ.blk c, fun c => if c = d then .slice none 0 0 else σ.rv c, σ.ok⟩ (putM s.M d k) w β ∧ w.heap[β]? = w.heap[β]? := by
    intro β hβ
    refine ⟨⟨hβ.1, hβ.2.1, fun c y hc => ?_⟩, rfl⟩
    rw [look_put] at hc
    split at hc
    · rename_i h
      simp only [h, if_true]
      intro e
      cases e
    · rename_i h
      simp only [if_neg h]
      exact hβ.2.2 c y hc
  refine ⟨r.defs, r.len, fun i y hy => ?_, fun c z hc => ?_, fun c c' z z' β h1 h2 h3 h4 => ?_, r.frm, r.okn⟩
  · obtain ⟨v, hv, ha⟩ := r.tmp i y hy
    exact ⟨v, hv, ha.put_new hd hX (fun c h => ⟨if_neg h, if_neg h⟩)⟩
  · rw [look_put] at hc
    split at hc
    · rename_i h
      subst h
      obtain rfl := Option.some.inj hc
      exact hb _ (if_pos rfl) (if_pos rfl)
    · rename_i h
      have hm := r.mem c z hc
      cases z with
      | fix z =>
        obtain ⟨γ, ds, e', h1, h2, h3, h4⟩ := hm
        exact ⟨γ, ds, e', by simp only [if_neg h]; exact h1, h2, h3, CR.mono hX z ds h4⟩
      | row e' z =>
        obtain ⟨ds, sz, n, h1, h2, h3⟩ := hm
        exact ⟨ds, sz, n, by simp only [if_neg h]; exact h1, by simp only [if_neg h]; exact h2, h3.mono hX⟩
  · simp only at h3 h4
    rw [look_put] at h1 h2
    by_cases e1 : c = d <;> by_cases e2 : c' = d
    · rw [e1, e2]
    · rw [if_pos e1] at h3; cases h3
    · rw [if_pos e2] at h4; cases h4
    · rw [if_neg e1] at h3 h1
      rw [if_neg e2] at h4 h2
      exact r.inj c c' z z' β h1 h2 h3 h4

/-- A new variable. -/
theorem alloc_good (r : Rel w0 F σ s a w) {d : Nat} {x : D} {t : TypeId} {v : Value} (hd : look s.M d = none) (hdst : o.dst = some d) (hx : VR1 w (Xs σ s.M w) x v)
    (hrun : (execOp a.eval o).run P w = .ok (.value (.pointer (some ⟨w.heap.size, 0, none⟩))) (w.alloc (.cells v.cells t))) :
    Good P w0 F o s a w ⟨True, .ptr d [], putM s.M d (.fix x)⟩ := by
  intro Q
  unfold Oper.wp
  rw [hrun]
  have hg := Grow.alloc w (.cells v.cells t)
  have R := r.new (k := .fix x) (v := v) hd hg (by simp) (fun σ' hk h0 h1 h2 => ?_)
  · refine ⟨_, (R.put o.dst ?_)⟩
    exact ⟨x, w.heap.size, by rw [look_put, if_pos rfl], if_pos rfl, by cases x <;> exact True.intro, by rw [offS_nil]⟩
  · have hX := Xs_new (σ := σ) (σ' := σ') (k := .fix x) hd hg h0 h1 hk
    exact ⟨w.heap.size, v.cells.toList, t, h1, .inl r.frm.size, by rw [heap_alloc_new], CR.mono hX x _ (VR1.cells hx)⟩

end
end Go.Vg
