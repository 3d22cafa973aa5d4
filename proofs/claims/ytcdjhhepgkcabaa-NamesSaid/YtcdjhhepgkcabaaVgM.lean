/- Vg, part M: what is owed for a function's whole text. -/
import Derived.Test.YtcdjhhepgkcabaaVgL
namespace Go.Vg
open Go Go.RowKit

/-- A region, told by what is to be shown behind it. -/
def runR (C : Ctx) (ops : List Oper) (K : St → Prop) : List Oper → St → Prop
  | [], s => K s
  | o :: os, s => match o.guard with
    | none => match gstep C o s with
      | (c, s') => c ∧ runR C ops K os s'
    | some (j, want) => match dstOf ops j with
      | none => False
      | some dj => match s.T.getD dj .any with
        | .d (.val (.bool t)) => match t with
          | true => bif want then (match gstep C o ⟨s.T.set dj (.d (.val (.bool true))), s.M⟩ with | (c, s') => c ∧ runR C ops K os s')
              else runR C ops K os (St.put ⟨s.T.set dj (.d (.val (.bool true))), s.M⟩ o.dst .any)
          | false => bif want then runR C ops K os (St.put ⟨s.T.set dj (.d (.val (.bool false))), s.M⟩ o.dst .any)
              else (match gstep C o ⟨s.T.set dj (.d (.val (.bool false))), s.M⟩ with | (c, s') => c ∧ runR C ops K os s')
        | _ => False

theorem set_same {T : List AV} {d : Nat} {x : AV} (h : T.getD d .any = x) (hx : x ≠ .any) : T.set d x = T := by
  rw [List.getD_eq_getElem?_getD] at h
  cases hd : T[d]? with
  | none => rw [hd] at h; exact absurd h.symm hx
  | some y =>
    rw [hd] at h
    simp only [Option.getD_some] at h
    subst h
    apply List.ext_getElem?
    intro i
    rw [List.getElem?_set]
    split
    · rename_i hi
      subst hi
      have := (List.getElem?_eq_some_iff.1 hd).1
      rw [if_pos this, hd]
    · rfl

theorem runR_sound {C : Ctx} {ops : List Oper} {K : St → Prop} : ∀ (os : List Oper) (s : St), runR C ops K os s → (foldI C ops os s).1 ∧ K (foldI C ops os s).2
  | [], s, h => ⟨trivial, h⟩
  | o :: os, s, h => by
    simp only [runR] at h
    simp only [foldI]
    have fin : ∀ {s'}, (step1 C ops o s).1 → (step1 C ops o s).2 = s' → runR C ops K os s' → ((step1 C ops o s).1 ∧ (foldI C ops os (step1 C ops o s).2).1) ∧ K (foldI C ops os (step1 C ops o s).2).2 := by
      intro s' h1 h2 h3
      have := runR_sound os s' h3
      rw [h2]
      exact ⟨⟨h1, this.1⟩, this.2⟩
    cases hg : o.guard with
    | none =>
      rw [hg] at h
      obtain ⟨h1, h2⟩ := h
      have e : step1 C ops o s = gstep C o s := by unfold step1; rw [hg]
      exact fin (by rw [e]; exact h1) (by rw [e]) h2
    | some g =>
      obtain ⟨j, want⟩ := g
      rw [hg] at h
      simp only at h
      cases hd : dstOf ops j with
      | none => rw [hd] at h; exact h.elim
      | some dj =>
        rw [hd] at h
        simp only at h
        split at h
        · rename_i t hT
          have hy : yA ops s.T j = some t := by unfold yA; rw [hd]; simp only [hT]
          have hset : (⟨s.T.set dj (.d (.val (.bool t))), s.M⟩ : St) = s := by rw [set_same hT (by simp)]
          have e : step1 C ops o s = bif t == want then gstep C o s else (True, s.put o.dst .any) := by unfold step1; rw [hg]; simp only [hy]
          cases t <;> cases want <;> simp only [cond_true, cond_false, hset] at h <;> simp only [beq_self_eq_true, cond_true, show (false == true) = false from rfl, show (true == false) = false from rfl, cond_false] at e
          · exact fin (by rw [e]; exact h.1) (by rw [e]) h.2
          · exact fin (by rw [e]; trivial) (by rw [e]) h
          · exact fin (by rw [e]; trivial) (by rw [e]) h
          · exact fin (by rw [e]; exact h.1) (by rw [e]) h.2
        · exact h.elim

/-- How a piece of text is left. -/
inductive Ex where
  | normal
  | exit (id : Nat)
  | ret

def Ex.up : Ex → Exit
  | .normal => .normal
  | .exit id => .exit id
  | .ret => .ret

/-- What holds at a loop's head: its variables, the slots and blocks that hold them, the invariant (which may speak of the state at the loop's begin), a measure. -/
structure Inv where
  α : Type
  slots : α → List (Nat × AV)
  mem : α → List (Nat × Blk)
  abs : St → α
  I : St → α → Prop
  μ : α → Nat

def writes : Code → List Nat
  | .region _ ops _ => ops.toList.filterMap (·.dst)
  | .seq a b => writes a ++ writes b
  | .cond _ a b => writes a ++ writes b
  | .block _ a => writes a
  | .loop a => writes a
  | _ => []

def memN (n : Nat) : List Nat → Bool
  | [] => false
  | k :: l => Nat.beq k n || memN n l

def anyAt (ws : List Nat) : Nat → List AV → List AV
  | _, [] => []
  | i, x :: xs => (bif memN i ws then .any else x) :: anyAt ws (i + 1) xs

def killB (ws : List Nat) : AV → AV
  | .ptr b p => bif memN b ws then .any else .ptr b p
  | .own b p o l c => bif memN b ws then .any else .own b p o l c
  | .row b => bif memN b ws then .any else .row b
  | x => x

def hav (ws : List Nat) (s : St) : St := ⟨(anyAt ws 0 s.T).map (killB ws), s.M.filter fun p => !memN p.1 ws⟩

def setAll (T : List AV) : List (Nat × AV) → List AV
  | [] => T
  | (i, x) :: l => setAll (T.set i x) l

def putAll (M : Mem) : List (Nat × Blk) → Mem
  | [] => M
  | (b, k) :: l => putAll (putM M b k) l

def Inv.shape (v : Inv) (ws : List Nat) (s : St) (x : v.α) : St := ⟨setAll (hav ws s).T (v.slots x), putAll (hav ws s).M (v.mem x)⟩

def leT : List AV → List AV → Prop
  | _ :: xs, .any :: ys => leT xs ys
  | x :: xs, y :: ys => x = y ∧ leT xs ys
  | [], [] => True
  | _, _ => False

def leM : Mem → Mem → Prop
  | [], _ => True
  | (b, k) :: m, M => look M b = some k ∧ leM m M

def refOK (M : Mem) : AV → Bool
  | .ptr b _ => (match look M b with | some (.fix _) => true | _ => false)
  | .own b _ _ _ _ => (match look M b with | some (.fix _) => true | _ => false)
  | .row b => (match look M b with | some (.row _ _) => true | _ => false)
  | _ => true

def refsOK (M : Mem) : List AV → Bool
  | [] => true
  | x :: xs => refOK M x && refsOK M xs

def le (s t : St) : Prop := leT s.T t.T ∧ leM t.M s.M ∧ refsOK t.M t.T = true

theorem leT_get : ∀ (xs ys : List AV), leT xs ys → xs.length = ys.length ∧ ∀ (i : Nat) (y : AV), ys[i]? = some y → y = .any ∨ xs[i]? = some y
  | [], [], _ => ⟨rfl, fun i y h => by simp at h⟩
  | [], y :: ys, h => by cases y <;> exact h.elim
  | x :: xs, [], h => h.elim
  | x :: xs, y :: ys, h => by
    have key : (y = .any ∨ x = y) ∧ leT xs ys := by
      cases y with
      | any => exact ⟨.inl rfl, h⟩
      | _ => exact ⟨.inr h.1, h.2⟩
    obtain ⟨h1, h2⟩ := leT_get xs ys key.2
    refine ⟨by simp [h1], fun i z hz => ?_⟩
    cases i with
    | zero =>
      simp only [List.getElem?_cons_zero, Option.some.injEq] at hz
      subst hz
      rcases key.1 with h | h
      · exact .inl h
      · exact .inr (by simp [h])
    | succ i => simpa using h2 i z (by simpa using hz)

theorem leM_get : ∀ (m M : Mem), leM m M → ∀ b k, look m b = some k → look M b = some k
  | [], M, _, b, k, h => by simp [look] at h
  | (c, x) :: m, M, h, b, k, hk => by
    simp only [look] at hk
    rcases beq_cases c b with ⟨hb, rfl⟩ | ⟨hb, hn⟩
    · simp only [hb, cond_true, Option.some.injEq] at hk
      subst hk
      exact h.1
    · simp only [hb, cond_false] at hk
      exact leM_get m M h.2 b k hk

theorem refsOK_get {M : Mem} : ∀ (T : List AV), refsOK M T = true → ∀ (i : Nat) (x : AV), T[i]? = some x → refOK M x = true
  | [], _, i, x, h => by simp at h
  | y :: T, h, i, x, hx => by
    simp only [refsOK, Bool.and_eq_true] at h
    cases i with
    | zero => simp at hx; subst hx; exact h.1
    | succ i => exact refsOK_get T h.2 i x (by simpa using hx)

section
variable {P : Program} {C : Ctx} {w0 : World} {F : Env} {σ : Sg} {s t : St} {a : Act} {w : World}

theorem le_sound (r : Rel w0 F σ s a w) (h : le s t) : Rel w0 F σ t a w := by
  obtain ⟨hT, hM, hR⟩ := h
  obtain ⟨hl, hget⟩ := leT_get _ _ hT
  have hm := leM_get _ _ hM
  have hX : ∀ β, Xs σ s.M w β → Xs σ t.M w β ∧ w.heap[β]? = w.heap[β]? := fun β hβ => ⟨⟨hβ.1, hβ.2.1, fun b x hb => hβ.2.2 b x (hm b x hb)⟩, rfl⟩
  refine ⟨r.defs, by rw [r.len, hl], fun i y hy => ?_, fun b k hk => ?_, fun b b' k k' β h1 h2 h3 h4 => r.inj b b' k k' β (hm b k h1) (hm b' k' h2) h3 h4, r.frm, r.okn⟩
  · rcases hget i y hy with rfl | hs
    · have hlt : i < a.tmps.size := by
        rw [r.len, hl]
        exact (List.getElem?_eq_some_iff.1 hy).1
      exact ⟨a.tmps[i], by simp [hlt], trivial⟩
    · obtain ⟨v, hv, ha⟩ := r.tmp i y hs
      refine ⟨v, hv, ?_⟩
      have href := refsOK_get _ hR i y hy
      cases y with
      | d x => exact VR.mono hX x v ha
      | any => trivial
      | dat x => exact AR.mono (σ := σ) (M := s.M) hX (.dat x) v ha
      | row b =>
        obtain ⟨e, x, hb, hv'⟩ := ha
        simp only [refOK] at href
        split at href
        · rename_i e' x' hb'
          exact ⟨e', x', hb', hv'⟩
        · cases href
      | ptr b p =>
        obtain ⟨x, β, hb, rest⟩ := ha
        simp only [refOK] at href
        split at href
        · rename_i x' hb'
          have := hm b _ hb'
          rw [hb] at this
          obtain rfl := Blk.fix.inj (Option.some.inj this)
          exact ⟨x, β, hb', rest⟩
        · cases href
      | own b p o l c =>
        obtain ⟨x, β, k, n, l', α, hb, rest⟩ := ha
        simp only [refOK] at href
        split at href
        · rename_i x' hb'
          have := hm b _ hb'
          rw [hb] at this
          obtain rfl := Blk.fix.inj (Option.some.inj this)
          exact ⟨x, β, k, n, l', α, hb', rest⟩
        · cases href
  · have hmk := r.mem b k (hm b k hk)
    cases k with
    | fix z =>
      obtain ⟨γ, ds, e', h1, h2, h3, h4⟩ := hmk
      exact ⟨γ, ds, e', h1, h2, h3, CR.mono hX z ds h4⟩
    | row e' z =>
      obtain ⟨ds, sz, n, h1, h2, h3⟩ := hmk
      exact ⟨ds, sz, n, h1, h2, h3.mono hX⟩

end

/-- The number by which a loop is told: its first region's. -/
def loopId : Code → Nat
  | .region id _ _ => id
  | .seq a _ => loopId a
  | .cond _ a _ => loopId a
  | .block _ a => loopId a
  | .loop a => loopId a
  | _ => 0

/-- What is owed for a text. -/
def vc (C : Ctx) (inv : Nat → Option Inv) : Code → (Ex → St → Prop) → St → Prop
  | .skip, K, s => K .normal s
  | .region _ ops _, K, s => runR C ops.toList (K .normal) ops.toList s
  | .seq a b, K, s => vc C inv a (fun e s' => match e with | .normal => vc C inv b K s' | e => K e s') s
  | .cond c x y, K, s => match evA s.T c with
    | .d (.val (.bool t)) => match t with
      | true => vc C inv x K s
      | false => vc C inv y K s
    | _ => False
  | .block id c, K, s => vc C inv c (fun e s' => match e with | .exit id' => (bif Nat.beq id' id then K .normal s' else K (.exit id') s') | e => K e s') s
  | .loop c, K, s => match inv (loopId c) with
    | none => False
    | some v => (le s (v.shape (writes c) s (v.abs s)) ∧ v.I s (v.abs s)) ∧ ∀ x, v.I s x →
        vc C inv c (fun e s' => match e with
          | .normal => le s' (v.shape (writes c) s (v.abs s')) ∧ v.I s (v.abs s') ∧ v.μ (v.abs s') < v.μ x
          | e => K e s') (v.shape (writes c) s x)
  | .exit id, K, s => K (.exit id) s
  | .ret, K, s => K .ret s
  | _, _, _ => False

/-- The check of all regions that draw. -/
def statOK (C : Ctx) : Code → Bool
  | .region _ ops draw => bif draw then regionOK C ops.toList else true
  | .seq a b => statOK C a && statOK C b
  | .cond _ a b => statOK C a && statOK C b
  | .block _ a => statOK C a
  | .loop a => statOK C a
  | _ => true

theorem wp_loop_rel {P : Program} {c : Code} {Q : Exit → Act → World → Prop} (R : Nat → Act → World → Prop) (round : ∀ n a w, R n a w → c.wp P (Exit.then (fun a' w' => ∃ m, m < n ∧ R m a' w') Q) a w) :
    ∀ (n : Nat) (a : Act) (w : World), R n a w → (Code.loop c).wp P Q a w := by
  intro n a w h b k cs
  have key : ∀ n a w, R n a w → ∃ e a' w', Q e a' w' ∧ Arrives P (lone (b.at a (.code c :: .inLoop c :: k)) cs w) b k cs e a' w' := by
    intro n
    induction n using Nat.strongRecOn with
    | _ n ih =>
      intro a w hR
      obtain ⟨e, a₁, w₁, hq, harr⟩ := round n a w hR b (.inLoop c :: k) cs
      cases e with
      | normal =>
        obtain ⟨m, hlt, hR'⟩ := hq
        obtain ⟨e₂, a₂, w₂, hq₂, harr₂⟩ := ih m hlt a₁ w₁ hR'
        exact ⟨e₂, a₂, w₂, hq₂, .of_steps (Steps.trans harr (.one step_inLoop)) harr₂⟩
      | exit id => exact ⟨_, a₁, w₁, hq, .pass (x := .inLoop c) rfl (fun _ _ => .inl (by simp)) harr⟩
      | goto l => exact ⟨_, a₁, w₁, hq, .pass (x := .inLoop c) rfl (fun _ _ => .inl (by simp)) harr⟩
      | ret => exact ⟨_, a₁, w₁, hq, .pass (x := .inLoop c) rfl (fun _ _ => .inl (by simp)) harr⟩
      | panic ch => exact ⟨_, a₁, w₁, hq, .pass (x := .inLoop c) rfl (fun _ _ => .inl (by simp)) harr⟩
      | outgrown => exact ⟨_, a₁, w₁, hq, .pass (x := .inLoop c) rfl (fun _ _ => .inl (by simp)) harr⟩
  obtain ⟨e, a', w', hq, harr⟩ := key n a w h
  exact ⟨e, a', w', hq, .of_steps (.one step_loop) harr⟩

theorem vc_sound {P : Program} {C : Ctx} (K0 : CtxOk P C) (hm : P.follows .mixedOrders = true) {inv : Nat → Option Inv} {w0 : World} {F : Env} : ∀ (c : Code) (K : Ex → St → Prop) (Q : Exit → Act → World → Prop) (σ : Sg) (s : St) (a : Act) (w : World),
    statOK C c = true → Rel w0 F σ s a w → vc C inv c K s → (∀ e s' σ' a' w', Rel w0 F σ' s' a' w' → K e s' → Q e.up a' w') → c.wp P Q a w := by
  intro c
  induction c with
  | skip => intro K Q σ s a w _ r h hQ; exact wp_skip (hQ .normal s σ a w r h)
  | region id ops draw =>
    intro K Q σ s a w hst r h hQ
    obtain ⟨h1, h2⟩ := runR_sound _ _ h
    exact region_sound K0 hm r (fun hd => by subst hd; simpa [statOK] using hst) h1 (fun σ' a' w' r' => hQ .normal _ σ' a' w' r' h2)
  | seq x y ihx ihy =>
    intro K Q σ s a w hst r h hQ
    simp only [statOK, Bool.and_eq_true] at hst
    refine wp_seq (ihx _ _ σ s a w hst.1 r h ?_)
    intro e s' σ' a' w' r' hk
    cases e with
    | normal => exact ihy K Q σ' s' a' w' hst.2 r' hk hQ
    | exit id => exact hQ (.exit id) s' σ' a' w' r' hk
    | ret => exact hQ .ret s' σ' a' w' r' hk
  | cond c x y ihx ihy =>
    intro K Q σ s a w hst r h hQ
    simp only [statOK, Bool.and_eq_true] at hst
    have hc := ev_sound r c
    simp only [vc] at h
    split at h
    · rename_i t hev
      rw [hev] at hc
      have ec := ar_val hc
      cases t with
      | true => exact wp_cond_true ec (ihx K Q σ s a w hst.1 r h hQ)
      | false => exact wp_cond_false ec (ihy K Q σ s a w hst.2 r h hQ)
    · exact h.elim
  | block id c ih =>
    intro K Q σ s a w hst r h hQ
    refine wp_block (ih _ _ σ s a w hst r h ?_)
    intro e s' σ' a' w' r' hk
    cases e with
    | normal => exact hQ .normal s' σ' a' w' r' hk
    | ret => exact hQ .ret s' σ' a' w' r' hk
    | exit id' =>
      simp only at hk
      simp only [Ex.up, Exit.inBlock]
      rcases beq_cases id' id with ⟨hb, rfl⟩ | ⟨hb, hn⟩
      · rw [hb] at hk
        rw [if_pos rfl]
        exact hQ .normal s' σ' a' w' r' hk
      · rw [hb] at hk
        rw [if_neg hn]
        exact hQ (.exit id') s' σ' a' w' r' hk
  | loop c ih =>
    intro K Q σ s a w hst r h hQ
    simp only [vc] at h
    split at h
    · exact h.elim
    · rename_i v _
      obtain ⟨⟨hle, hI⟩, hround⟩ := h
      refine wp_loop_rel (fun n a w => ∃ x σ, n = v.μ x ∧ v.I s x ∧ Rel w0 F σ (v.shape (writes c) s x) a w) ?_ (v.μ (v.abs s)) a w ⟨v.abs s, σ, rfl, hI, le_sound r hle⟩
      rintro n a w ⟨x, σ, rfl, hx, r'⟩
      refine ih _ _ σ _ a w hst r' (hround x hx) ?_
      intro e s' σ' a' w' r'' hk
      cases e with
      | normal =>
        obtain ⟨k1, k2, k3⟩ := hk
        exact ⟨_, k3, v.abs s', σ', rfl, k2, le_sound r'' k1⟩
      | exit id => exact hQ (.exit id) s' σ' a' w' r'' hk
      | ret => exact hQ .ret s' σ' a' w' r'' hk
  | exit id => intro K Q σ s a w _ r h hQ; exact wp_exit (hQ (.exit id) s σ a w r h)
  | ret => intro K Q σ s a w _ r h hQ; exact wp_ret (hQ .ret s σ a w r h)
  | _ => intro K Q σ s a w _ r h hQ; exact h.elim

end Go.Vg
