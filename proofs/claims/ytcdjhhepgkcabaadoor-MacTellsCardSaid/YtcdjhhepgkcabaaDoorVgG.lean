/- Vg, part G: append onto a row of the call's own; blocks taken for good. -/
import Derived.Test.YtcdjhhepgkcabaaDoorVgF
import Derived.Laws.AppendOwn
namespace Go.Vg
open Go Go.RowKit

def killR (b : Nat) : AV → AV
  | .row c => bif Nat.beq c b then .any else .row c
  | .rpt _ _ => .any
  | x => x

def catD : D → D → Option D
  | .ints k l, .ints k' m => bif decide (k' = k) then some (.ints k (l ++ m)) else none
  | .slc sz xs, .slc sz' ys => bif Nat.beq sz' sz then some (.slc sz (xs ++ ys)) else none
  | _, _ => none

def lenD : D → Nat
  | .ints _ l => l.length
  | .slc _ xs => xs.length
  | _ => 0

def isInts : D → Bool
  | .ints _ _ => true
  | _ => false

/-- the size of an element, as the row has it -/
def eszD : D → Nat
  | .ints _ _ => 1
  | .slc sz _ => sz
  | _ => 0

/-- append onto row b, whose content is z. -/
def gApp (C : Ctx) (dst : Option Nat) (t t2 : TypeId) (b : Nat) (z : D) (y : AV) (T : List AV) (M : Mem) : Prop × St :=
  match (tg C.tab t).ty, toD M y with
  | .slice e, some d => match catD z (castD C.tab t d) with
    | some z' => ⟨t2 = t ∧ (isInts z || isD y) = true ∧ lenD z' ≤ 140737488355328 ∧ lenD z' * (tg C.tab e).bytes ≤ 140737488355328 ∧ (tg C.tab e).size ≠ 0 ∧ eszD z = (tg C.tab e).size,
        St.put ⟨T.map (killR b), putM M b (.row e z')⟩ dst (.row b)⟩
    | none => ⟨False, ⟨T, M⟩⟩
  | _, _ => ⟨False, ⟨T, M⟩⟩

def gAppend (C : Ctx) (dst : Option Nat) (t t2 : TypeId) (x y : AV) (s : St) : Prop × St :=
  match x with
  | .row b => match look s.M b, (tg C.tab t).ty with
    | some (.row e' z), .slice e => match gApp C dst t t2 b z y s.T s.M with
      | ⟨c, s'⟩ => ⟨e' = e ∧ c, s'⟩
    | _, _ => ⟨False, s⟩
  | .d (.val (.slice none 0 0)) => match dst, (tg C.tab t).ty with
    | some d, .slice e => match look s.M d with
      | none => match gApp C (some d) t t2 d (castD C.tab t (.val (.slice none 0 0))) y s.T (putM s.M d (.row e (castD C.tab t (.val (.slice none 0 0))))) with
        | ⟨c, s'⟩ => ⟨(tg C.tab e).size ≠ 0 ∧ c, s'⟩
      | some _ => ⟨False, s⟩
    | _, _ => ⟨False, s⟩
  | _ => ⟨False, s⟩

section
variable {P : Program} {w0 : World} {F : Env} {σ : Sg} {s : St} {a : Act} {w : World} {o : Oper}

theorem AR.rerow {M : Mem} {w' : World} {X X' : Nat → Prop} {b : Nat} {e : TypeId} {z : D} {k : Blk} (hb : look M b = some (.row e z)) (h : ∀ β, X β → X' β ∧ w'.heap[β]? = w.heap[β]?) {σ' : Sg} (hσ : ∀ c, c ≠ b → σ'.blk c = σ.blk c ∧ σ'.rv c = σ.rv c)
    {y : AV} {v : Value} (hv : AR σ M w X y v) : AR σ' (putM M b k) w' X' (killR b y) v := by
  cases y with
  | d y => exact VR.mono h y v hv
  | any => trivial
  | bq p q => exact hv
  | rpt c i => trivial
  | dat y => exact AR.mono (σ := σ) (M := M) h (.dat y) v hv
  | row c =>
    simp only [killR]
    rcases beq_cases c b with ⟨hc, rfl⟩ | ⟨hc, hn⟩
    · simp only [hc, cond_true]; trivial
    · simp only [hc, cond_false]
      obtain ⟨e', z', hc', hv⟩ := hv
      exact ⟨e', z', by rw [look_put, if_neg hn]; exact hc', by rw [(hσ c hn).2]; exact hv⟩
  | ptr c p =>
    obtain ⟨z', β, hc, hβ, rest⟩ := hv
    have hn : c ≠ b := fun h => by rw [h, hb] at hc; cases hc
    exact ⟨z', β, by rw [look_put, if_neg hn]; exact hc, by rw [(hσ c hn).1]; exact hβ, rest⟩
  | own c p off len cap =>
    obtain ⟨z', β, k', n, l, α, hc, hβ, rest⟩ := hv
    have hn : c ≠ b := fun h => by rw [h, hb] at hc; cases hc
    exact ⟨z', β, k', n, l, α, by rw [look_put, if_neg hn]; exact hc, by rw [(hσ c hn).1]; exact hβ, rest⟩

/-- A row has been appended to. -/
theorem Rel.rerow (r : Rel w0 F σ s a w) {b : Nat} {e : TypeId} {z z' : D} {v' : Value} {w' : World} {sz n : Nat} {cs : List Value} (hb : look s.M b = some (.row e z)) (hg : w.grownBy w' (σ.rv b).ownBlock)
    (hown : w'.ownsRow w0.heap.size e sz v' n cs) (hplace : v'.ownBlock = (σ.rv b).ownBlock ∨ v'.ownBlock = some w.heap.size)
    (hrow : ∀ X', (∀ β, Xs σ s.M w β → X' β ∧ w'.heap[β]? = w.heap[β]?) → RowC w' X' z' sz n cs) :
    Rel w0 F ⟨fun c => if c = b then v'.ownBlock else σ.blk c, fun c => if c = b then v' else σ.rv c, σ.ok⟩ ⟨s.T.map (killR b), putM s.M b (.row e z')⟩ a w' := by
  obtain ⟨cs0, sz0, n0, q1, q2, q3⟩ := r.mem b _ hb
  have oldlt : ∀ k, (σ.rv b).ownBlock = some k → w0.heap.size ≤ k ∧ k < w.heap.size := q2.lt
  have hX : ∀ β, Xs σ s.M w β → Xs ⟨fun c => if c = b then v'.ownBlock else σ.blk c, fun c => if c = b then v' else σ.rv c, σ.ok⟩ (putM s.M b (.row e z')) w' β ∧ w'.heap[β]? = w.heap[β]? := by
    intro β hβ
    refine ⟨⟨Nat.lt_of_lt_of_le hβ.1 hg.size, hβ.2.1, fun c y hc => ?_⟩, hg.block β hβ.1 (fun h => hβ.2.2 b _ hb (by rw [q1, ← h]))⟩
    rw [look_put] at hc
    split at hc
    · rename_i h
      simp only [h, if_true]
      rcases hplace with hp | hp
      · rw [hp, ← q1]; exact hβ.2.2 b _ hb
      · rw [hp]
        intro e
        have := Option.some.inj e
        have := hβ.1
        omega
    · rename_i h
      simp only [if_neg h]
      exact hβ.2.2 c y hc
  refine ⟨r.defs, by simp [r.len], fun i y hy => ?_, fun c k hc => ?_, fun c c' k k' β h1 h2 h3 h4 => ?_, ?_, r.okn⟩
  · simp only [List.getElem?_map, Option.map_eq_some_iff] at hy
    obtain ⟨y0, hy0, rfl⟩ := hy
    obtain ⟨v, hv, ha⟩ := r.tmp i y0 hy0
    exact ⟨v, hv, ha.rerow hb hX (fun c h => ⟨if_neg h, if_neg h⟩)⟩
  · rw [look_put] at hc
    split at hc
    · rename_i h
      subst h
      obtain rfl := Option.some.inj hc
      exact ⟨cs, sz, n, by simp, by simpa using hown, hrow _ hX⟩
    · rename_i h
      have hm := r.mem c k hc
      cases k with
      | fix z0 =>
        obtain ⟨γ, ds, e', h1, h2, h3, h4⟩ := hm
        refine ⟨γ, ds, e', by simp only [if_neg h]; exact h1, h2, ?_, CR.mono hX z0 ds h4⟩
        rw [hg.block γ (block_lt h3) (fun he => h (r.inj c b _ _ γ hc hb h1 (by rw [q1, ← he])))]
        exact h3
      | row e' z0 =>
        obtain ⟨ds, sz', n', h1, h2, h3⟩ := hm
        refine ⟨ds, sz', n', by simp only [if_neg h]; exact h1, ?_, h3.mono hX⟩
        simp only [if_neg h]
        refine ⟨h2.1, ?_⟩
        rcases h2.2 with h2 | ⟨g, cap, cur, hv, hgg, hh, rest⟩
        · exact .inl h2
        · refine .inr ⟨g, cap, cur, hv, hgg, ?_, rest⟩
          rw [hg.block g (block_lt hh) (fun he => h (r.inj c b _ _ g hc hb (by rw [h1, hv]; rfl) (by rw [q1, ← he])))]
          exact hh
  · simp only at h3 h4
    rw [look_put] at h1 h2
    have far : ∀ c k, c ≠ b → look s.M c = some k → σ.blk c = some β → v'.ownBlock = some β → False := by
      intro c k hcb hc h3 h4
      rcases hplace with hp | hp
      · exact hcb (r.inj c b _ _ β hc hb h3 (by rw [q1, ← hp, h4]))
      · rw [hp] at h4
        have := r.blk_lt hc h3
        have := Option.some.inj h4
        omega
    by_cases e1 : c = b <;> by_cases e2 : c' = b
    · rw [e1, e2]
    · rw [if_pos e1] at h3
      rw [if_neg e2] at h4 h2
      exact (far c' _ e2 h2 h4 h3).elim
    · rw [if_neg e1] at h3 h1
      rw [if_pos e2] at h4
      exact (far c _ e1 h1 h3 h4).elim
    · rw [if_neg e1] at h3 h1
      rw [if_neg e2] at h4 h2
      exact r.inj c c' _ _ β h1 h2 h3 h4
  · refine ⟨hg.os.trans r.frm.os, hg.tape.trans r.frm.tape, hg.output.trans r.frm.output, Nat.le_trans r.frm.size hg.size, fun k hk hF => ?_⟩
    rw [hg.block k (Nat.lt_of_lt_of_le hk r.frm.size) (fun h => by have := (oldlt k h.symm).1; omega)]
    exact r.frm.block k hk hF

/-- What an append's source reads as. -/
theorem src_row (r : Rel w0 F σ s a w) {t : TypeId} {tab : Tab} {y : Operand} {d z z' : D} (hd : toD s.M (evA s.T y) = some d) (hz : catD z (castD tab t d) = some z') (hi : (isInts z || isD (evA s.T y)) = true) :
    ∃ ad m cp news, a.eval y = .slice ad m cp ∧ At w (fun β => β < w.heap.size) ad news ∧ news.length = m * eszD z ∧ (∀ u ∈ news, isCell u = true) ∧
      (∀ w' X' n cs, (∀ β, Xs σ s.M w β → X' β ∧ w'.heap[β]? = w.heap[β]?) → RowC w (Xs σ s.M w) z (eszD z) n cs → RowC w' X' z' (eszD z) (n + m) (cs ++ news)) ∧ lenD z' = lenD z + m := by
  have hX : ∀ β, Xs σ s.M w β → β < w.heap.size ∧ w.heap[β]? = w.heap[β]? := fun β hβ => ⟨hβ.1, rfl⟩
  obtain ⟨h1, h2⟩ := toD_sound r (ev_sound r y) hd
  have cast : ∀ {X : Nat → Prop}, VR w X d (a.eval y) → VR w X (castD tab t d) (a.eval y) := fun {X} h => by
    by_cases ht : d.isTup = false
    · exact (castD_sound (VR.one h ht)).up
    · cases d <;> first | exact absurd rfl ht | exact h
  generalize castD tab t d = D' at *
  unfold catD at hz
  split at hz
  · rename_i k l k' m
    by_cases hk : k' = k
    · subst hk
      simp only [decide_true, cond_true, Option.some.injEq] at hz
      subst hz
      obtain ⟨ad, cp, hv, hlc, hat⟩ := cast h1
      simp only [List.cons.injEq, and_true] at hv
      refine ⟨ad, m.length, cp, m.map (Value.int k'), hv, hat, by simp [eszD], fun u hu => by obtain ⟨_, _, rfl⟩ := List.mem_map.1 hu; rfl, fun w' X' n cs hX' hr => ?_, by simp [lenD]⟩
      obtain ⟨_, rfl, rfl⟩ := hr
      exact ⟨rfl, by simp, by simp⟩
    · simp only [decide_eq_false hk, cond_false] at hz
      cases hz
  · rename_i sz xs sz' ys
    rcases beq_cases sz' sz with ⟨hb, rfl⟩ | ⟨hb, _⟩
    · simp only [hb, cond_true, Option.some.injEq] at hz
      subst hz
      have hdd : ∃ x, evA s.T y = .d x := by
        cases hev : evA s.T y with
        | d x => exact ⟨x, rfl⟩
        | _ => rw [hev] at hi; cases hi
      obtain ⟨ad, cp, cs', hv, hlc, hat, her⟩ := cast (h2 hdd)
      simp only [List.cons.injEq, and_true] at hv
      have hlen := ER.len _ _ her
      refine ⟨ad, ys.length, cp, cs', hv, hat.mono hX, hlen, fun u hu => ER.cell _ _ her u hu, fun w' X' n cs hX' hr => ?_, by simp [lenD]⟩
      · obtain ⟨h0, hp, rfl, he⟩ := hr
        refine ⟨h0, hp, by simp, ?_⟩
        exact ER.append _ _ _ _ (ER.mono hX' _ _ _ he) (ER.mono hX' _ _ _ her)
    · simp only [hb, cond_false] at hz
      cases hz
  · cases hz

theorem gApp_sound {C : Ctx} (T : TabOk P C.tab) (r : Rel w0 F σ s a w) {c : Call} {t t2 e : TypeId} {x y : Operand} {b : Nat} {z : D} (ho : o.op = .call c) (hcal : c.callee = .builtin .append) (hargs : c.args.toList = [x, y]) (hat : c.argTypes.toList = [t, t2])
    (hty : (tg C.tab t).ty = .slice e) (hb : look s.M b = some (.row e z)) (hx : a.eval x = σ.rv b) (hc : (gApp C o.dst t t2 b z (evA s.T y) s.T s.M).1) (Q : Exit → Act → World → Prop) :
    o.wp P a w (fun a' w' => ∃ σ', Rel w0 F σ' (gApp C o.dst t t2 b z (evA s.T y) s.T s.M).2 a' w') Q := by
  have e1 : c.args = #[x, y] := by rw [← Array.toList_inj, hargs]
  have ht := (T t (tg_lt' (by rw [hty]; simp))).tslice _ hty
  unfold gApp at hc ⊢
  simp only [hty] at hc ⊢
  cases hd : toD s.M (evA s.T y) with
  | none => rw [hd] at hc; exact hc.elim
  | some d =>
    rw [hd] at hc
    simp only at hc ⊢
    cases hz : catD z (castD C.tab t d) with
    | none => rw [hz] at hc; exact hc.elim
    | some z' =>
      rw [hz] at hc
      simp only at hc ⊢
      obtain ⟨rfl, hi, hle, hby, hs0, hsz⟩ := hc
      have e2 : c.argTypes = #[t2, t2] := by rw [← Array.toList_inj, hat]
      obtain ⟨ad, m, cp, news, hv, hatn, hnl, hnc, hcat, hlen⟩ := src_row r hd hz hi
      obtain ⟨cs, sz, n, q1, q2, q3⟩ := r.mem b _ hb
      have hsz' : sz = eszD z ∧ n = lenD z := by
        cases z with
        | ints k l => obtain ⟨rfl, rfl, _⟩ := q3; exact ⟨rfl, rfl⟩
        | slc s' xs => obtain ⟨rfl, _, rfl, _⟩ := q3; exact ⟨rfl, rfl⟩
        | _ => exact q3.elim
      obtain ⟨rfl, rfl⟩ := hsz'
      have hs1 : (tg C.tab e).size ≠ 0 := hs0
      obtain ⟨i, zv, hinf, hisz, hiby, hzv, hzr⟩ := (T e (tg_lt hs1)).info
      have hzs : zv.cells.size = eszD z := by
        have := CR.sklen (VR1.cells (hzr w (Xs σ s.M w)))
        rw [(T e (tg_lt hs1)).sksz, Array.length_toList] at this
        omega
      rw [hlen] at hle hby
      obtain ⟨v', w', hrun, hown, hg, hplace⟩ := app_own (P := P) w w0.heap.size t2 o.type e i zv (eszD z) (tg C.tab e).bytes ht hinf hzv (by rw [hisz, hsz]) hiby hzs (by omega) (σ.rv b) (lenD z) cs q2 ad m cp news hnl hatn hnc (by unfold maxLen; omega) hby r.frm.size
      have hrunO : (execOp a.eval o).run P w = .ok (.value v') w' := by
        unfold execOp
        simp only [ho, resolve, hcal, e1, e2, Sem.run_bind, Sem.run_pure, Result.andThen_ok, invoke, builtin, List.map_toArray, List.map_cons, List.map_nil, hx, hv, hrun]
      unfold Oper.wp
      rw [hrunO]
      have R' := r.rerow (z' := z') hb hg hown hplace (fun X' hX' => hcat w' X' _ _ hX' q3)
      refine ⟨_, R'.put o.dst ?_⟩
      exact ⟨e, z', by rw [look_put, if_pos rfl], (if_pos rfl).symm⟩

theorem gAppend_sound {C : Ctx} (T : TabOk P C.tab) (r : Rel w0 F σ s a w) {c : Call} {t t2 : TypeId} {x y : Operand} (ho : o.op = .call c) (hcal : c.callee = .builtin .append) (hargs : c.args.toList = [x, y]) (hat : c.argTypes.toList = [t, t2])
    (hc : (gAppend C o.dst t t2 (evA s.T x) (evA s.T y) s).1) (Q : Exit → Act → World → Prop) :
    o.wp P a w (fun a' w' => ∃ σ', Rel w0 F σ' (gAppend C o.dst t t2 (evA s.T x) (evA s.T y) s).2 a' w') Q := by
  have hx := ev_sound r x
  unfold gAppend at hc ⊢
  split at hc
  · rename_i b hev
    rw [hev] at hx
    obtain ⟨e0, z0, hb0, hv0⟩ := hx
    split at hc
    · rename_i e' z e hb hty
      rw [hb0] at hb
      obtain ⟨rfl, rfl⟩ := Blk.row.inj (Option.some.inj hb)
      obtain ⟨rfl, hc⟩ := hc
      simp only [hb0, hty]
      exact gApp_sound T r ho hcal hargs hat hty hb0 hv0 hc Q
    · exact hc.elim
  · rename_i hev
    rw [hev] at hx
    have ex := ar_val hx
    split at hc
    · rename_i d e hdst hty
      split at hc
      · rename_i hlook
        obtain ⟨hs0, hc⟩ := hc
        simp only [hdst, hty, hlook]
        have R' := r.new' (k := .row e (castD C.tab t (.val (.slice none 0 0)))) hlook (fun σ' h1 h2 => by
            refine ⟨[], eszD (castD C.tab t (.val (.slice none 0 0))), 0, by rw [h1, h2]; rfl, by rw [h2]; exact World.ownsRow_nil _ _ _ _, ?_⟩
            unfold castD
            simp only [hty]
            split
            · exact ⟨rfl, rfl, rfl⟩
            · exact ⟨rfl, Nat.pos_of_ne_zero hs0, rfl, rfl⟩)
        have := gApp_sound (o := o) (b := d) T R' ho hcal hargs hat hty (by rw [look_put, if_pos rfl]) (by simp [ex]) (by rw [hdst]; exact hc) Q
        rw [hdst] at this
        exact this
      · exact hc.elim
    · exact hc.elim
  · exact hc.elim

end
end Go.Vg
