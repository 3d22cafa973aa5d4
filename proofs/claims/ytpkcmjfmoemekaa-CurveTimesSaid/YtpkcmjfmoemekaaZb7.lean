/- Vg, part L: a region that draws its order. -/
import Derived.Test.YtpkcmjfmoemekaaZb6
namespace Go.Vg
open Go Go.RowKit
def remI (n : Nat) (listed : Array Bool) : List Nat := (List.range n).filter fun i => !listed.getD i true
def opsAt (ops : List Oper) (is : List Nat) : List Oper := is.filterMap (ops[·]?)
def Closed (ops : List Oper) (listed : Array Bool) : Prop :=
 ∀ k o e, ops[k]? = some o → listed.getD k false = true → e ∈ o.after.toList → Region.binds .any e = true → listed.getD e.on false = true
theorem mask_listed {ops : List Oper} {listed : Array Bool} (hcl : Closed ops listed) : ∀ (i : Nat) (o : Oper) (j : Nat), ops[i]? = some o → (∀ e ∈ o.after.toList, Region.binds .any e = true → listed.getD e.on false = true) →
  ((masks ops []).getD i 0).testBit j = true → listed.getD j false = true := by
 intro i
 induction i using Nat.strongRecOn with
 | _ i ih =>
  intro o j ho hd hm
  have hat := masks_at ops [] i o ho
  simp only [List.length_nil, Nat.zero_add] at hat
  rw [hat] at hm
  unfold maskOf at hm
  rcases fold_mask _ j _ _ hm with h | ⟨e, he, hb, h⟩
  ·simp at h
  ·rcases h with rfl | h
   ·exact hd e he hb
   ·have hl := hd e he hb
    by_cases hlt : e.on < i
    ·have hget : ((masks ops []).take i).getD e.on 0 = (masks ops []).getD e.on 0 := by
      simp only [List.getD_eq_getElem?_getD, List.getElem?_take, hlt, if_true]
     rw [hget] at h
     cases hoe : ops[e.on]? with
     | none =>
      have : (masks ops []).length ≤ e.on := by
       rw [masks_len]
       have := List.getElem?_eq_none_iff.1 hoe
       simpa using this
      rw [List.getD_eq_getElem?_getD, List.getElem?_eq_none this] at h
      simp at h
     | some oe => exact ih e.on hlt oe j hoe (fun e' he' hb' => hcl e.on oe e' hoe hl he' hb') h
    ·have : ((masks ops []).take i).getD e.on 0 = 0 := by
      rw [List.getD_eq_getElem?_getD, List.getElem?_eq_none (by simp; omega)]
      rfl
     rw [this] at h
     simp at h
theorem range_split (n i : Nat) (h : i < n) : List.range n = List.range i ++ i :: List.range' (i + 1) (n - i - 1) := by
 rw [List.range_eq_range', List.range_eq_range', show n = i + (1 + (n - i - 1)) from by omega]
 rw [← List.range'_append_1]
 congr 1
 rw [Nat.zero_add, Nat.add_comm 1, List.range'_succ]
 congr 2
 omega
theorem getD_true {listed : Array Bool} {i : Nat} (h : i < listed.size) (d : Bool) : listed.getD i d = listed.getD i true := by
 simp [Array.getD_eq_getD_getElem?, h]
theorem region_any {P : Program} {C : Ctx} (K : CtxOk P C) {w0 : World} {F : Env} {ops : List Oper} {Q : Exit → Act → World → Prop} (hok : regionOK C ops = true) : ∀ (fuel : Nat) (listed : Array Bool) (σ : Sg) (s : St) (a : Act) (w : World), listed.size = ops.length →
  fuel = (remI ops.length listed).length → Closed ops listed → Rel w0 F σ s a w → (foldI C ops (opsAt ops (remI ops.length listed)) s).1 → (∀ σ' a' w', Rel w0 F σ' (foldI C ops (opsAt ops (remI ops.length listed)) s).2 a' w' → Q .normal a' w') →
  wpAny P .any ops.toArray Q fuel listed a w := by
 have hok' : ∀ i oi, ops[i]? = some oi → (∀ e ∈ oi.after.toList, Region.binds .any e = true → e.on < i) ∧ ∀ j oj, j < i → ops[j]? = some oj → ((masks ops []).getD i 0).testBit j = true ∨ commOK C ops oj oi = true := by
  intro i oi hi
  have hlt : i < ops.length := (List.getElem?_eq_some_iff.1 hi).1
  unfold regionOK pairsOK at hok
  rw [List.all_eq_true] at hok
  have h := hok i (List.mem_range.2 hlt)
  rw [hi] at h
  simp only [Bool.and_eq_true] at h
  obtain ⟨h1, h2⟩ := h
  rw [List.all_eq_true] at h1 h2
  refine ⟨fun e he hb => ?_, fun j oj hj hoj => ?_⟩
  ·have := h1 e he
   rw [hb] at this
   simpa [Nat.blt_eq] using this
  ·have := h2 j (List.mem_range.2 hj)
   rw [hoj] at this
   simpa using this
 have hready : ∀ listed i, i ∈ Region.ready .any ops.toArray listed ↔ listed.getD i true = false ∧ ∃ o, ops[i]? = some o ∧ ∀ e ∈ o.after.toList, Region.binds .any e = true → listed.getD e.on false = true := by
  intro listed i
  rw [mem_ready]
  simp only [List.getElem?_toArray, Array.mem_toList_iff]
 intro fuel
 induction fuel with
 | zero =>
  intro listed σ s a w hsz hf hcl r hc h
  have hrem : remI ops.length listed = [] := List.eq_nil_of_length_eq_zero hf.symm
  rw [hrem] at h
  refine ⟨?_, h σ a w r⟩
  apply List.eq_nil_iff_forall_not_mem.2
  intro i hi
  obtain ⟨hun, o, ho, _⟩ := (hready listed i).1 hi
  have hlt : i < ops.length := (List.getElem?_eq_some_iff.1 ho).1
  have : i ∈ remI ops.length listed := List.mem_filter.2 ⟨List.mem_range.2 hlt, by rw [hun]; rfl⟩
  rw [hrem] at this
  cases this
 | succ fuel ih =>
  intro listed σ s a w hsz hf hcl r hc h
  refine ⟨fun hr => ?_, fun i hi => ?_⟩
  ·exfalso
   cases hrem : remI ops.length listed with
   | nil => rw [hrem] at hf; cases hf
   | cons i rest =>
    have hmem : i ∈ remI ops.length listed := by rw [hrem]; simp
    obtain ⟨hir, hun⟩ := List.mem_filter.1 hmem
    have hlt := List.mem_range.1 hir
    have hoi : ops[i]? = some ops[i] := List.getElem?_eq_getElem hlt
    have hin : i ∈ Region.ready .any ops.toArray listed := by
     refine (hready listed i).2 ⟨by simpa using hun, ops[i], hoi, fun e he hb => ?_⟩
     have hlt' := (hok' i _ hoi).1 e he hb
     cases hl : listed.getD e.on false with
     | true => rfl
     | false =>
      exfalso
      have hun' : listed.getD e.on true = false := by rw [← getD_true (by omega) false]; exact hl
      -- the first that is left is i: none smaller is left
      have hsplit := range_split ops.length i hlt
      unfold remI at hrem
      rw [hsplit, List.filter_append] at hrem
      have hin' : e.on ∈ (List.range i).filter fun i => !listed.getD i true := List.mem_filter.2 ⟨List.mem_range.2 hlt', by rw [hun']; rfl⟩
      cases hp : (List.range i).filter fun i => !listed.getD i true with
      | nil => rw [hp] at hin'; cases hin'
      | cons q qs =>
       rw [hp] at hrem
       have hq : q = i := by simpa using (List.cons.inj hrem).1
       have : q ∈ (List.range i).filter fun i => !listed.getD i true := by rw [hp]; simp
       have := List.mem_range.1 (List.mem_filter.1 this).1
       omega
    rw [hr] at hin
    cases hin
  ·obtain ⟨hun, oi, hoi, hdir⟩ := (hready listed i).1 hi
   have hlt : i < ops.length := (List.getElem?_eq_some_iff.1 hoi).1
   have hsplit := range_split ops.length i hlt
   have hrem : remI ops.length listed = (List.range i).filter (fun i => !listed.getD i true) ++ i :: (List.range' (i + 1) (ops.length - i - 1)).filter (fun i => !listed.getD i true) := by
    unfold remI
    rw [hsplit, List.filter_append, List.filter_cons]
    simp [hun]
   have hset : ∀ k, k ≠ i → (listed.setIfInBounds i true).getD k true = listed.getD k true := fun k hk => getD_set_ne true (Ne.symm hk)
   have hrem' : remI ops.length (listed.setIfInBounds i true) = (List.range i).filter (fun i => !listed.getD i true) ++ (List.range' (i + 1) (ops.length - i - 1)).filter (fun i => !listed.getD i true) := by
    unfold remI
    rw [hsplit, List.filter_append, List.filter_cons]
    have h1 : (listed.setIfInBounds i true).getD i true = true := by
     have hsi : i < listed.size := by omega
     simp [Array.getD_eq_getD_getElem?, Array.getElem?_setIfInBounds, hsi]
    simp only [h1, Bool.not_true, Bool.false_eq_true, if_false]
    congr 1
    ·refine List.filter_congr fun k hk => ?_
     have := List.mem_range.1 hk
     rw [hset k (by omega)]
    ·refine List.filter_congr fun k hk => ?_
     have := List.mem_range'_1.1 hk
     rw [hset k (by omega)]
   have hops : opsAt ops (remI ops.length listed) = opsAt ops ((List.range i).filter (fun i => !listed.getD i true)) ++ oi :: opsAt ops ((List.range' (i + 1) (ops.length - i - 1)).filter (fun i => !listed.getD i true)) := by
    rw [hrem]
    unfold opsAt
    rw [List.filterMap_append, List.filterMap_cons]
    simp only [hoi]
   have hops' : opsAt ops (remI ops.length (listed.setIfInBounds i true)) = opsAt ops ((List.range i).filter (fun i => !listed.getD i true)) ++ opsAt ops ((List.range' (i + 1) (ops.length - i - 1)).filter (fun i => !listed.getD i true)) := by
    rw [hrem']
    unfold opsAt
    rw [List.filterMap_append]
   rw [hops] at hc h
   have hcomm : ∀ x ∈ opsAt ops ((List.range i).filter (fun i => !listed.getD i true)), commOK C ops x oi = true := by
    intro x hx
    unfold opsAt at hx
    obtain ⟨j, hj, hxj⟩ := List.mem_filterMap.1 hx
    obtain ⟨hjr, hjun⟩ := List.mem_filter.1 hj
    have hji := List.mem_range.1 hjr
    rcases (hok' i oi hoi).2 j x hji hxj with h | h
    ·exfalso
     have := mask_listed hcl i oi j hoi hdir h
     rw [getD_true (by omega) false] at this
     rw [this] at hjun
     cases hjun
    ·exact h
   obtain ⟨b1, b2, b3⟩ := bubble _ _ s hcomm hc
   refine wpOp_mono ?_ (step1_sound K r hoi b1 Q)
   rintro a' w' ⟨σ', r'⟩
   refine ih (listed.setIfInBounds i true) σ' _ a' w' (by simpa using hsz) ?_ ?_ r' (by rw [hops']; exact b2) (fun σ'' a'' w'' r'' => h σ'' a'' w'' (by rw [← b3, ← hops']; exact r''))
   ·rw [hrem'] ; rw [hrem] at hf; simp only [List.length_append, List.length_cons] at hf ⊢; omega
   ·intro k o e hk hl he hb
    by_cases hki : k = i
    ·subst hki
     rw [hoi] at hk
     obtain rfl := Option.some.inj hk
     exact getD_set_true (hdir e he hb)
    ·rw [getD_set_ne false (Ne.symm hki)] at hl
     exact getD_set_true (hcl k o e hk hl he hb)
theorem remI_none (n : Nat) : remI n (Array.replicate n false) = List.range n := by
 unfold remI
 rw [List.filter_eq_self]
 intro i hi
 have := List.mem_range.1 hi
 simp [Array.getD_eq_getD_getElem?, this]
theorem opsAt_range (ops : List Oper) : opsAt ops (List.range ops.length) = ops := by
 unfold opsAt
 apply List.ext_getElem?
 intro i
 have : ∀ (l : List Nat), (∀ k ∈ l, k < ops.length) → l.filterMap (ops[·]?) = l.map fun k => ops.getD k default := by
  intro l hl
  induction l with
  | nil => rfl
  | cons k l ih =>
   have hk := hl k (by simp)
   rw [List.filterMap_cons, List.getElem?_eq_getElem hk]
   simp [ih (fun k hk => hl k (by simp [hk])), List.getElem?_eq_getElem hk]
 rw [this _ (fun k hk => List.mem_range.1 hk)]
 rcases Nat.lt_or_ge i ops.length with h | h
 ·simp [h]
 ·simp [h]
theorem region_sound {P : Program} {C : Ctx} (K : CtxOk P C) (hm : P.follows .mixedOrders = true) {w0 : World} {F : Env} {σ : Sg} {s : St} {a : Act} {w : World} {id : Nat} {ops : Array Oper} {draw : Bool} {Q : Exit → Act → World → Prop} (r : Rel w0 F σ s a w)
  (hok : draw = true → regionOK C ops.toList = true) (hc : (foldI C ops.toList ops.toList s).1) (h : ∀ σ' a' w', Rel w0 F σ' (foldI C ops.toList ops.toList s).2 a' w' → Q .normal a' w') : (Code.region id ops draw).wp P Q a w := by
 cases draw with
 | false =>
  refine wp_region ?_
  have := region_seq (P := P) (Q := Q) K ops.toList 0 σ s a w (fun j => by simp) (by simp) r hc h
  simpa [List.range_eq_range'] using this
 | true =>
  refine wp_region_any hm ?_
  have := region_any (P := P) (Q := Q) K (hok rfl) ops.size (Array.replicate ops.size false) σ s a { w with drawn := w.drawn + 1 } (by simp) (by rw [← Array.length_toList, remI_none]; simp) (by
   intro k o e hk hl
   simp [Array.getD_eq_getD_getElem?, Array.getElem?_replicate] at hl
   split at hl <;> simp at hl) (r.grow ⟨rfl, rfl, rfl, Nat.le_refl _, fun _ _ => rfl⟩) (by
   rw [← Array.length_toList, remI_none, opsAt_range]; exact hc) (by
   rw [← Array.length_toList, remI_none, opsAt_range]; exact h)
  simpa using this
end Go.Vg
namespace Go.Vg
open Go Go.RowKit
def runR (C : Ctx) (ops : List Oper) (K : St → Prop) : List Oper → St → Prop
 | [], s => K s
 | o :: os, s => match o.guard with
  | none => match gstep C o s with
   | (c, s') => c ∧ runR C ops K os s'
  | some (j, want) => match dstOf ops j with
   | none => False
   | some dj => match s.T.getD dj .any with
    | .d (.val (.bool t)) => match t with
     | true => bif want then (match gstep C o ⟨s.T.set dj (.d (.val (.bool true))), s.M⟩ with | (c, s') => c ∧ runR C ops K os s')
       else runR C ops K os (St.put ⟨s.T.set dj (.d (.val (.bool true))), s.M⟩ o.dst (.d (.tup [])))
     | false => bif want then runR C ops K os (St.put ⟨s.T.set dj (.d (.val (.bool false))), s.M⟩ o.dst (.d (.tup [])))
       else (match gstep C o ⟨s.T.set dj (.d (.val (.bool false))), s.M⟩ with | (c, s') => c ∧ runR C ops K os s')
    | .d (.tup []) => runR C ops K os (St.put s o.dst (.d (.tup [])))
    | _ => False
theorem set_same {T : List AV} {d : Nat} {x : AV} (h : T.getD d .any = x) (hx : x ≠ .any) : T.set d x = T := by
 rw [List.getD_eq_getElem?_getD] at h
 cases hd : T[d]? with
 | none => rw [hd] at h; exact absurd h.symm hx
 | some y =>
  rw [hd] at h
  simp only [Option.getD_some] at h
  subst h
  apply List.ext_getElem?
  intro i
  rw [List.getElem?_set]
  split
  ·rename_i hi
   subst hi
   have := (List.getElem?_eq_some_iff.1 hd).1
   rw [if_pos this, hd]
  ·rfl
theorem runR_sound {C : Ctx} {ops : List Oper} {K : St → Prop} : ∀ (os : List Oper) (s : St), runR C ops K os s → (foldI C ops os s).1 ∧ K (foldI C ops os s).2
 | [], s, h => ⟨trivial, h⟩
 | o :: os, s, h => by
  simp only [runR] at h
  simp only [foldI]
  have fin : ∀ {s'}, (step1 C ops o s).1 → (step1 C ops o s).2 = s' → runR C ops K os s' → ((step1 C ops o s).1 ∧ (foldI C ops os (step1 C ops o s).2).1) ∧ K (foldI C ops os (step1 C ops o s).2).2 := by
   intro s' h1 h2 h3
   have := runR_sound os s' h3
   rw [h2]
   exact ⟨⟨h1, this.1⟩, this.2⟩
  cases hg : o.guard with
  | none =>
   rw [hg] at h
   obtain ⟨h1, h2⟩ := h
   have e : step1 C ops o s = gstep C o s := by unfold step1; rw [hg]
   exact fin (by rw [e]; exact h1) (by rw [e]) h2
  | some g =>
   obtain ⟨j, want⟩ := g
   rw [hg] at h
   simp only at h
   cases hd : dstOf ops j with
   | none => rw [hd] at h; exact h.elim
   | some dj =>
    rw [hd] at h
    simp only at h
    split at h
    ·rename_i t hT
     have hy : yA ops s.T j = some (some t) := by unfold yA; rw [hd]; simp only [hT]
     have hset : (⟨s.T.set dj (.d (.val (.bool t))), s.M⟩ : St) = s := by rw [set_same hT (by simp)]
     have e : step1 C ops o s = bif (some t == some want) then gstep C o s else (True, s.put o.dst (.d (.tup []))) := by unfold step1; rw [hg]; simp only [hy]
     cases t <;> cases want <;> simp only [cond_true, cond_false, hset] at h <;> simp only [beq_self_eq_true, cond_true, show (some false == some true) = false from rfl, show (some true == some false) = false from rfl, cond_false] at e
     ·exact fin (by rw [e]; exact h.1) (by rw [e]) h.2
     ·exact fin (by rw [e]; trivial) (by rw [e]) h
     ·exact fin (by rw [e]; trivial) (by rw [e]) h
     ·exact fin (by rw [e]; exact h.1) (by rw [e]) h.2
    ·rename_i hT
     have hy : yA ops s.T j = some none := by unfold yA; rw [hd]; simp only [hT]
     have e : step1 C ops o s = (True, s.put o.dst (.d (.tup []))) := by unfold step1; rw [hg]; simp only [hy]; rfl
     exact fin (by rw [e]; trivial) (by rw [e]) h
    ·exact h.elim
inductive Ex where
 | normal
 | exit (id : Nat)
 | ret
def Ex.up : Ex → Exit
 | .normal => .normal
 | .exit id => .exit id
 | .ret => .ret
structure Inv where
 α : Type
 slots : α → List (Nat × AV)
 mem : α → List (Nat × Blk)
 abs : St → α
 I : St → α → Prop
 μ : α → Nat
def writes : Code → List Nat
 | .region _ ops _ => ops.toList.filterMap (·.dst)
 | .seq a b => writes a ++ writes b
 | .cond _ a b => writes a ++ writes b
 | .block _ a => writes a
 | .loop a => writes a
 | _ => []
def memN (n : Nat) : List Nat → Bool
 | [] => false
 | k :: l => Nat.beq k n || memN n l
def anyAt (ws : List Nat) : Nat → List AV → List AV
 | _, [] => []
 | i, x :: xs => (bif memN i ws then .any else x) :: anyAt ws (i + 1) xs
def killB (ws : List Nat) : AV → AV
 | .ptr b p => bif memN b ws then .any else .ptr b p
 | .own b p o l c => bif memN b ws then .any else .own b p o l c
 | .row b => bif memN b ws then .any else .row b
 | .rpt b i n => match n with
  | none => .any
  | some n => bif memN b ws then .any else .rpt b i (some n)
 | .tpl b rs => bif memN b ws then .any else .tpl b rs
 | .tpr _ _ => .any
 | .lp b p => bif memN b ws then .any else .lp b p
 | .sub b p o n => bif memN b ws then .any else .sub b p o n
 | x => x
def hav (ws : List Nat) (s : St) : St := ⟨(anyAt ws 0 s.T).map (killB ws), s.M.filter fun p => !memN p.1 ws⟩
def setAll (T : List AV) : List (Nat × AV) → List AV
 | [] => T
 | (i, x) :: l => setAll (T.set i x) l
def putAll (M : Mem) : List (Nat × Blk) → Mem
 | [] => M
 | (b, k) :: l => putAll (putM M b k) l
def Inv.shape (v : Inv) (ws : List Nat) (s : St) (x : v.α) : St := ⟨setAll (hav ws s).T (v.slots x), putAll (hav ws s).M (v.mem x)⟩
def leV (x y : AV) : Prop :=
 match x, y with
 | .d (.val (.slice none 0 0)), .d (.ints _ l) => l = []
 | .d (.val (.slice none 0 0)), .d (.slc _ l) => l = []
 | x, y => x = y
theorem leV_of {x y : AV} (h : x = y) : leV x y := by
 unfold leV
 split
 ·cases h
 ·cases h
 ·exact h
theorem leV_rfl (x : AV) : leV x x := leV_of rfl
def leT : List AV → List AV → Prop
 | _ :: xs, .any :: ys => leT xs ys
 | x :: xs, y :: ys => leV x y ∧ leT xs ys
 | [], [] => True
 | _, _ => False
def leM : Mem → Mem → Prop
 | [], _ => True
 | (b, k) :: m, M => look M b = some k ∧ leM m M
def refOK (M : Mem) : AV → Bool
 | .ptr b _ => (match look M b with | some (.fix _) => true | _ => false)
 | .own b _ _ _ _ => (match look M b with | some (.fix _) => true | _ => false)
 | .row b => (match look M b with | some (.row _ _) => true | _ => false)
 | .rpt b _ _ => (match look M b with | some (.row _ _) => true | _ => false)
 | .tpl b _ => (match look M b with | some (.fix _) => true | _ => false)
 | .tpr _ _ => false
 | .lp b _ => (match look M b with | some (.lnk _ _ _) => true | _ => false)
 | .sub b _ _ _ => (match look M b with | some (.fix _) => true | _ => false)
 | _ => true
def refs1 (M : Mem) : List AV → Bool
 | [] => true
 | x :: xs => refOK M x && refs1 M xs
def lksOK (M : Mem) : Mem → Bool
 | [] => true
 | (_, .lnk _ _ (some r)) :: m => (match look M r with | some (.row _ _) => true | _ => false) && lksOK M m
 | _ :: m => lksOK M m
def refsOK (M : Mem) (T : List AV) : Bool := refs1 M T && lksOK M M
def le (s t : St) : Prop := leT s.T t.T ∧ leM t.M s.M ∧ refsOK t.M t.T = true
theorem leT_get : ∀ (xs ys : List AV), leT xs ys → xs.length = ys.length ∧ ∀ (i : Nat) (y : AV), ys[i]? = some y → y = .any ∨ ∃ x, xs[i]? = some x ∧ leV x y
 | [], [], _ => ⟨rfl, fun i y h => by simp at h⟩
 | [], y :: ys, h => by cases y <;> exact h.elim
 | x :: xs, [], h => h.elim
 | x :: xs, y :: ys, h => by
  have key : (y = .any ∨ leV x y) ∧ leT xs ys := by
   cases y with
   | any => exact ⟨.inl rfl, h⟩
   | _ => exact ⟨.inr h.1, h.2⟩
  obtain ⟨h1, h2⟩ := leT_get xs ys key.2
  refine ⟨by simp [h1], fun i z hz => ?_⟩
  cases i with
  | zero =>
   simp only [List.getElem?_cons_zero, Option.some.injEq] at hz
   subst hz
   rcases key.1 with h | h
   ·exact .inl h
   ·exact .inr ⟨x, rfl, h⟩
  | succ i => simpa using h2 i z (by simpa using hz)
theorem leM_get : ∀ (m M : Mem), leM m M → ∀ b k, look m b = some k → look M b = some k
 | [], M, _, b, k, h => by simp [look] at h
 | (c, x) :: m, M, h, b, k, hk => by
  simp only [look] at hk
  rcases beq_cases c b with ⟨hb, rfl⟩ | ⟨hb, hn⟩
  ·simp only [hb, cond_true, Option.some.injEq] at hk
   subst hk
   exact h.1
  ·simp only [hb, cond_false] at hk
   exact leM_get m M h.2 b k hk
theorem refs1_get {M : Mem} : ∀ (T : List AV), refs1 M T = true → ∀ (i : Nat) (x : AV), T[i]? = some x → refOK M x = true
 | [], _, i, x, h => by simp at h
 | y :: T, h, i, x, hx => by
  simp only [refs1, Bool.and_eq_true] at h
  cases i with
  | zero => simp at hx; subst hx; exact h.1
  | succ i => exact refs1_get T h.2 i x (by simpa using hx)
theorem refsOK_get {M : Mem} (T : List AV) (h : refsOK M T = true) (i : Nat) (x : AV) (hx : T[i]? = some x) : refOK M x = true := by
 simp only [refsOK, Bool.and_eq_true] at h
 exact refs1_get T h.1 i x hx
theorem lksOK_get {M : Mem} : ∀ (m : Mem), lksOK M m = true → ∀ b fs i r, look m b = some (.lnk fs i (some r)) → ∃ e x, look M r = some (.row e x)
 | [], _, b, fs, i, r, h => by cases h
 | (c, k) :: m, h, b, fs, i, r, hb => by
  simp only [look] at hb
  cases hcb : Nat.beq c b with
  | true =>
   rw [hcb] at hb
   obtain rfl := Option.some.inj hb
   simp only [lksOK, Bool.and_eq_true] at h
   have h1 := h.1
   split at h1
   ·rename_i e x hr; exact ⟨e, x, hr⟩
   ·cases h1
  | false =>
   rw [hcb] at hb
   simp only [cond_false] at hb
   refine lksOK_get m ?_ b fs i r hb
   unfold lksOK at h
   split at h
   ·rename_i heq; cases heq
   ·rename_i heq
    simp only [List.cons.injEq, Prod.mk.injEq] at heq
    obtain ⟨_, rfl⟩ := heq
    simp only [Bool.and_eq_true] at h
    exact h.2
   ·rename_i heq
    simp only [List.cons.injEq] at heq
    obtain ⟨_, rfl⟩ := heq
    exact h
theorem refsOK_lks {M : Mem} {T : List AV} (h : refsOK M T = true) : Lks M := by
 simp only [refsOK, Bool.and_eq_true] at h
 exact lksOK_get M h.2
section
variable {P : Program} {C : Ctx} {w0 : World} {F : Env} {σ : Sg} {s t : St} {a : Act} {w : World}
theorem leV_AR {X : Nat → Prop} {d e : D} {v : Value} (hn : d = .val (.slice none 0 0)) (he : (∃ k, e = .ints k []) ∨ ∃ sz, e = .slc sz []) (h : VR w X d v) : VR w X e v := by
 subst hn
 obtain ⟨hv, _⟩ := h
 simp only [List.cons.injEq, and_true] at hv
 subst hv
 rcases he with ⟨k, rfl⟩ | ⟨sz, rfl⟩
 ·exact ⟨none, 0, rfl, Nat.le_refl _, .inl rfl⟩
 ·exact ⟨none, 0, [], rfl, Nat.le_refl _, .inl rfl, rfl⟩
theorem le_sound (r : Rel w0 F σ s a w) (h : le s t) : Rel w0 F σ t a w := by
 obtain ⟨hT, hM, hR⟩ := h
 obtain ⟨hl, hget⟩ := leT_get _ _ hT
 have hm := leM_get _ _ hM
 have hX : ∀ β, Xs σ s.M w β → Xs σ t.M w β ∧ w.heap[β]? = w.heap[β]? := fun β hβ => ⟨⟨hβ.1, hβ.2.1, fun b x hb => hβ.2.2 b x (hm b x hb)⟩, rfl⟩
 refine ⟨r.defs, by rw [r.len, hl], fun i y hy => ?_, fun b k hk => ?_, fun b b' k k' β h1 h2 h3 h4 => r.inj b b' k k' β (hm b k h1) (hm b' k' h2) h3 h4, refsOK_lks hR, r.frm, r.okn⟩
 ·rcases hget i y hy with rfl | ⟨x0, hs, hle⟩
  ·have hlt : i < a.tmps.size := by
    rw [r.len, hl]
    exact (List.getElem?_eq_some_iff.1 hy).1
   exact ⟨a.tmps[i], by simp [hlt], trivial⟩
  ·obtain ⟨v, hv, ha0⟩ := r.tmp i x0 hs
   have ha : AR σ s.M w (Xs σ s.M w) y v := by
    unfold leV at hle
    split at hle
    ·subst hle
     exact leV_AR rfl (.inl ⟨_, rfl⟩) ha0
    ·subst hle
     exact leV_AR rfl (.inr ⟨_, rfl⟩) ha0
    ·subst hle
     exact ha0
   refine ⟨v, hv, ?_⟩
   have href := refsOK_get _ hR i y hy
   cases y with
   | d x => exact VR.mono hX x v ha
   | any => trivial
   | bq p q => exact ha
   | rpt b i n =>
    obtain ⟨e, x, hb, rest⟩ := ha
    simp only [refOK] at href
    split at href
    ·rename_i e' x' hb'
     have := hm b _ hb'
     rw [hb] at this
     obtain ⟨rfl, rfl⟩ := Blk.row.inj (Option.some.inj this)
     exact ⟨e, x, hb', rest⟩
    ·cases href
   | tpr b rs => cases href
   | lp b p =>
    obtain ⟨fs, i, q, β, hb, rest⟩ := ha
    simp only [refOK] at href
    split at href
    ·rename_i fs' i' q' hb'
     have := hm b _ hb'
     rw [hb] at this
     obtain ⟨rfl, rfl, rfl⟩ := Blk.lnk.inj (Option.some.inj this)
     exact ⟨fs, i, q, β, hb', rest⟩
    ·cases href
   | sub b p o n =>
    obtain ⟨x, β, k, m, l', hb, rest⟩ := ha
    simp only [refOK] at href
    split at href
    ·rename_i x' hb'
     have := hm b _ hb'
     rw [hb] at this
     obtain rfl := Blk.fix.inj (Option.some.inj this)
     exact ⟨x, β, k, m, l', hb', rest⟩
    ·cases href
   | tpl b rs =>
    obtain ⟨x, β, vs, hb, hσ, hv', hr⟩ := ha
    simp only [refOK] at href
    split at href
    ·rename_i x' hb'
     have := hm b _ hb'
     rw [hb] at this
     obtain rfl := Blk.fix.inj (Option.some.inj this)
     exact ⟨x, β, vs, hb', hσ, hv', hr.mono fun d u hu => VR.mono hX d u hu⟩
    ·cases href
   | dat x => exact AR.mono (σ := σ) (M := s.M) hX (.dat x) v ha
   | row b =>
    obtain ⟨e, x, hb, hv'⟩ := ha
    simp only [refOK] at href
    split at href
    ·rename_i e' x' hb'
     exact ⟨e', x', hb', hv'⟩
    ·cases href
   | ptr b p =>
    obtain ⟨x, β, hb, rest⟩ := ha
    simp only [refOK] at href
    split at href
    ·rename_i x' hb'
     have := hm b _ hb'
     rw [hb] at this
     obtain rfl := Blk.fix.inj (Option.some.inj this)
     exact ⟨x, β, hb', rest⟩
    ·cases href
   | own b p o l c =>
    obtain ⟨x, β, k, n, l', α, hb, rest⟩ := ha
    simp only [refOK] at href
    split at href
    ·rename_i x' hb'
     have := hm b _ hb'
     rw [hb] at this
     obtain rfl := Blk.fix.inj (Option.some.inj this)
     exact ⟨x, β, k, n, l', α, hb', rest⟩
    ·cases href
 ·have hmk := r.mem b k (hm b k hk)
  cases k with
  | fix z =>
   obtain ⟨γ, ds, e', h1, h2, h3, h4⟩ := hmk
   exact ⟨γ, ds, e', h1, h2, h3, CR.mono hX z ds h4⟩
  | row e' z =>
   obtain ⟨ds, sz, n, h1, h2, h3, hRB⟩ := hmk
   exact ⟨ds, sz, n, h1, h2, h3.mono hX, hRB⟩
  | lnk fs i q =>
   obtain ⟨g1, g2, u, g3, g4, γ, ds, e', h1, h2, h3, h4⟩ := hmk
   exact ⟨g1, g2, u, g3, g4, γ, ds, e', h1, h2, h3, CR.mono hX _ ds h4⟩
end
def loopId : Code → Nat
 | .region id _ _ => id
 | .seq a _ => loopId a
 | .cond _ a _ => loopId a
 | .block _ a => loopId a
 | .loop a => loopId a
 | _ => 0
def frzFree (C : Ctx) : Code → Bool
 | .region _ ops _ => ops.toList.all fun o => match o.dst with | some d => !C.frz.contains d | none => true
 | .seq a b => frzFree C a && frzFree C b
 | .cond _ a b => frzFree C a && frzFree C b
 | .block _ a => frzFree C a
 | .loop a => frzFree C a
 | _ => true
def noRows : List AV → Bool
 | [] => true
 | .row _ :: _ => false
 | .rpt _ _ _ :: _ => false
 | .tpr _ _ :: _ => false
 | _ :: xs => noRows xs
def leS (T : List AV) : List (Nat × AV) → Prop
 | [] => True
 | (i, x) :: l => leV (T.getD i .any) x ∧ leS T l
def isRow : AV → Bool
 | .row _ => true
 | _ => false
def isAny : AV → Bool
 | .any => true
 | _ => false
def slotsIn2 (ws : List Nat) (T : List AV) : List (Nat × AV) → Bool
 | [] => true
 | (i, x) :: l => (memN i ws || (isAny x && isRow (T.getD i .any))) && slotsIn2 ws T l
def leQ (s : St) (v : Inv) (ws : List Nat) (s0 : St) (x : v.α) : Prop := leS s.T (v.slots x) ∧ leM (v.shape ws s0 x).M s.M ∧ refsOK (v.shape ws s0 x).M (v.shape ws s0 x).T = true
def cutK (q : Bool) (v : Inv) (ws : List Nat) (s : St) (K : Ex → St → Prop) : Ex → St → Prop
 | .normal, s' => (match q with | true => leQ s' v ws s (v.abs s') | false => le s' (v.shape ws s (v.abs s'))) ∧ v.I s (v.abs s')
 | e, s' => K e s'
def plainC (C : Ctx) (inv : Nat → Option Inv) : Code → Bool
 | .skip => true
 | .region _ ops _ => ops.toList.all fun o => match kindOf C o with | .plain => true | _ => false
 | .seq a b => plainC C inv a && plainC C inv b
 | .cond _ x y => (inv (loopId x + 100000)).isNone && plainC C inv x && plainC C inv y
 | .block _ a => plainC C inv a
 | .exit _ => true
 | .ret => true
 | _ => false
def vc (C : Ctx) (inv : Nat → Option Inv) : Code → (Ex → St → Prop) → St → Prop
 | .skip, K, s => K .normal s
 | .region _ ops _, K, s => runR C ops.toList (K .normal) ops.toList s
 | .seq a b, K, s => vc C inv a (fun e s' => match e with | .normal => vc C inv b K s' | e => K e s') s
 | .cond c x y, K, s => match inv (loopId x + 100000) with
  | none => match evA s.T c with
   | .d (.val (.bool t)) => match t with
    | true => vc C inv x K s
    | false => vc C inv y K s
   | .bq p q => (p → vc C inv x K s) ∧ (q → vc C inv y K s)
   | _ => False
  | some v => (match evA s.T c with
   | .d (.val (.bool t)) => match t with
    | true => vc C inv x (cutK ((frzFree C x && frzFree C y && noRows (hav (writes x ++ writes y) s).T) || (plainC C inv x && plainC C inv y)) v (writes x ++ writes y) s K) s
    | false => vc C inv y (cutK ((frzFree C x && frzFree C y && noRows (hav (writes x ++ writes y) s).T) || (plainC C inv x && plainC C inv y)) v (writes x ++ writes y) s K) s
   | _ => False) ∧ ∀ z, v.I s z → slotsIn2 (writes x ++ writes y) s.T (v.slots z) = true ∧ K .normal (v.shape (writes x ++ writes y) s z)
 | .block id c, K, s => vc C inv c (fun e s' => match e with | .exit id' => (bif Nat.beq id' id then K .normal s' else K (.exit id') s') | e => K e s') s
 | .loop c, K, s => match inv (loopId c) with
  | none => False
  | some v => bif frzFree C c && noRows (hav (writes c) s).T then
    (leQ s v (writes c) s (v.abs s) ∧ v.I s (v.abs s)) ∧ ∀ x, v.I s x → slotsIn2 (writes c) s.T (v.slots x) = true ∧
    vc C inv c (fun e s' => match e with
     | .normal => leQ s' v (writes c) s (v.abs s') ∧ v.I s (v.abs s') ∧ v.μ (v.abs s') < v.μ x
     | e => K e s') (v.shape (writes c) s x)
   else (le s (v.shape (writes c) s (v.abs s)) ∧ v.I s (v.abs s)) ∧ ∀ x, v.I s x → slotsIn2 (writes c) s.T (v.slots x) = true ∧
    vc C inv c (fun e s' => match e with
     | .normal => le s' (v.shape (writes c) s (v.abs s')) ∧ v.I s (v.abs s') ∧ v.μ (v.abs s') < v.μ x
     | e => K e s') (v.shape (writes c) s x)
 | .exit id, K, s => K (.exit id) s
 | .ret, K, s => K .ret s
 | _, _, _ => False
def statOK (C : Ctx) : Code → Bool
 | .region _ ops draw => bif draw then regionOK C ops.toList else true
 | .seq a b => statOK C a && statOK C b
 | .cond _ a b => statOK C a && statOK C b
 | .block _ a => statOK C a
 | .loop a => statOK C a
 | _ => true
theorem wp_loop_rel {P : Program} {c : Code} {Q : Exit → Act → World → Prop} (R : Nat → Act → World → Prop) (round : ∀ n a w, R n a w → c.wp P (Exit.then (fun a' w' => ∃ m, m < n ∧ R m a' w') Q) a w) :
  ∀ (n : Nat) (a : Act) (w : World), R n a w → (Code.loop c).wp P Q a w := by
 intro n a w h b k cs
 have key : ∀ n a w, R n a w → ∃ e a' w', Q e a' w' ∧ Arrives P (lone (b.at a (.code c :: .inLoop c :: k)) cs w) b k cs e a' w' := by
  intro n
  induction n using Nat.strongRecOn with
  | _ n ih =>
   intro a w hR
   obtain ⟨e, a₁, w₁, hq, harr⟩ := round n a w hR b (.inLoop c :: k) cs
   cases e with
   | normal =>
    obtain ⟨m, hlt, hR'⟩ := hq
    obtain ⟨e₂, a₂, w₂, hq₂, harr₂⟩ := ih m hlt a₁ w₁ hR'
    exact ⟨e₂, a₂, w₂, hq₂, .of_steps (Steps.trans harr (.one step_inLoop)) harr₂⟩
   | exit id => exact ⟨_, a₁, w₁, hq, .pass (x := .inLoop c) rfl (fun _ _ => .inl (by simp)) harr⟩
   | goto l => exact ⟨_, a₁, w₁, hq, .pass (x := .inLoop c) rfl (fun _ _ => .inl (by simp)) harr⟩
   | ret => exact ⟨_, a₁, w₁, hq, .pass (x := .inLoop c) rfl (fun _ _ => .inl (by simp)) harr⟩
   | panic ch => exact ⟨_, a₁, w₁, hq, .pass (x := .inLoop c) rfl (fun _ _ => .inl (by simp)) harr⟩
   | outgrown => exact ⟨_, a₁, w₁, hq, .pass (x := .inLoop c) rfl (fun _ _ => .inl (by simp)) harr⟩
 obtain ⟨e, a', w', hq, harr⟩ := key n a w h
 exact ⟨e, a', w', hq, .of_steps (.one step_loop) harr⟩
def Fr (T0 T : List AV) : Prop := T.length = T0.length ∧ ∀ (i : Nat) (y : AV), T0[i]? = some y → y = .any ∨ T[i]? = some y
theorem Fr.set {T0 T : List AV} (h : Fr T0 T) {d : Nat} {x : AV} (hd : ∀ y : AV, T0[d]? = some y → y = .any) : Fr T0 (T.set d x) := by
 refine ⟨by simp [h.1], fun i y hy => ?_⟩
 rcases h.2 i y hy with h1 | h1
 ·exact .inl h1
 ·by_cases hi : d = i
  ·subst hi
   exact .inl (hd y hy)
  ·exact .inr (by rw [List.getElem?_set, if_neg hi]; exact h1)
theorem Fr.map {T0 T : List AV} (h : Fr T0 T) {g : AV → AV} (hg : ∀ (i : Nat) (y : AV), T0[i]? = some y → g y = y ∨ y = .any) : Fr T0 (T.map g) := by
 refine ⟨by simp [h.1], fun i y hy => ?_⟩
 rcases h.2 i y hy with h1 | h1
 ·exact .inl h1
 ·rcases hg i y hy with h2 | h2
  ·exact .inr (by rw [List.getElem?_map, h1]; simp [h2])
  ·exact .inl h2
theorem memN_iff {n : Nat} : ∀ {l : List Nat}, memN n l = true ↔ n ∈ l
 | [] => by simp [memN]
 | k :: l => by
  simp only [memN, Bool.or_eq_true, Nat.beq_eq, List.mem_cons, memN_iff (l := l)]
  exact or_congr ⟨fun h => h.symm, fun h => h.symm⟩ Iff.rfl
theorem noRows_get : ∀ {T : List AV}, noRows T = true → ∀ (i b : Nat), T[i]? ≠ some (.row b) ∧ (∀ j n, T[i]? ≠ some (.rpt b j n)) ∧ ∀ rs, T[i]? ≠ some (.tpr b rs)
 | [], _, i, b => by simp
 | x :: T, h, i, b => by
  cases i with
  | zero =>
   refine ⟨fun e => ?_, fun j n e => ?_, fun rs e => ?_⟩ <;>
   ·simp at e
    subst e
    simp [noRows] at h
  | succ i =>
   have : noRows T = true := by cases x <;> first | exact h | cases h
   simpa using noRows_get this i b
structure Hid (ws : List Nat) (T0 : List AV) : Prop where
 any : ∀ i ∈ ws, ∀ y : AV, T0[i]? = some y → y = .any
 row : ∀ (i b : Nat), T0[i]? ≠ some (.row b) ∧ (∀ j n, T0[i]? ≠ some (.rpt b j n)) ∧ ∀ rs, T0[i]? ≠ some (.tpr b rs)
 ptr : ∀ (i b : Nat) p, b ∈ ws → T0[i]? ≠ some (.ptr b p)
 own : ∀ (i b : Nat) p o l c, b ∈ ws → T0[i]? ≠ some (.own b p o l c)
 tpl : ∀ (i b : Nat) rs, b ∈ ws → T0[i]? ≠ some (.tpl b rs)
 lp : ∀ (i b : Nat) p, b ∈ ws → T0[i]? ≠ some (.lp b p)
 sub : ∀ (i b : Nat) p o n, b ∈ ws → T0[i]? ≠ some (.sub b p o n)
theorem Hid.mono {ws ws' : List Nat} {T0 : List AV} (h : Hid ws T0) (hs : ∀ i ∈ ws', i ∈ ws) : Hid ws' T0 :=
 ⟨fun i hi => h.any i (hs i hi), h.row, fun i b p hb => h.ptr i b p (hs b hb), fun i b p o l c hb => h.own i b p o l c (hs b hb), fun i b rs hb => h.tpl i b rs (hs b hb), fun i b p hb => h.lp i b p (hs b hb), fun i b p o n hb => h.sub i b p o n (hs b hb)⟩
theorem anyAt_len (ws : List Nat) : ∀ (T : List AV) (k : Nat), (anyAt ws k T).length = T.length
 | [], k => rfl
 | x :: T, k => by simp only [anyAt, List.length_cons, anyAt_len ws T]
theorem anyAt_get (ws : List Nat) : ∀ (T : List AV) (k i : Nat), (anyAt ws k T)[i]? = (T[i]?).map fun x => bif memN (k + i) ws then .any else x
 | [], k, i => by simp [anyAt]
 | x :: T, k, i => by
  cases i with
  | zero => simp [anyAt]
  | succ i =>
   simp only [anyAt, List.getElem?_cons_succ]
   rw [anyAt_get ws T (k + 1) i, show k + 1 + i = k + (i + 1) by omega]
theorem hav_get (ws : List Nat) (s : St) (i : Nat) : (hav ws s).T[i]? = (s.T[i]?).map fun x => killB ws (bif memN i ws then .any else x) := by
 unfold hav
 simp only [List.getElem?_map, anyAt_get, Option.map_map, Nat.zero_add]
 rfl
theorem hav_row {ws : List Nat} {s : St} (hn : noRows (hav ws s).T = true) (i b : Nat) (hi : s.T[i]? = some (.row b)) (y : AV) (hy : (hav ws s).T[i]? = some y) : y = .any := by
 have hy' := hy
 rw [hav_get, hi] at hy'
 simp only [Option.map_some, Option.some.injEq] at hy'
 cases hm : memN i ws with
 | true => rw [hm] at hy'; exact hy'.symm
 | false =>
  rw [hm] at hy'
  simp only [cond_false, killB] at hy'
  cases hb : memN b ws with
  | true => rw [hb] at hy'; exact hy'.symm
  | false =>
   rw [hb] at hy'
   simp only [cond_false] at hy'
   subst hy'
   exact absurd hy (noRows_get hn i b).1
theorem killB_ptr {ws : List Nat} {z : AV} {b : Nat} {p : List Nat} (h : killB ws z = .ptr b p) : memN b ws = false := by
 cases z <;> simp only [killB] at h <;> first | cases h | (rename_i b' _; cases hm : memN b' ws <;> rw [hm] at h <;> cases h; exact hm) | (rename_i b' _ _ _ _; cases hm : memN b' ws <;> rw [hm] at h <;> cases h) | (rename_i b'; cases hm : memN b' ws <;> rw [hm] at h <;> cases h) | (rename_i b' _; cases hm : memN b' ws <;> rw [hm] at h <;> cases h) | (rename_i b' _ _ _; cases hm : memN b' ws <;> rw [hm] at h <;> cases h) | (rename_i b' _ n; cases n <;> simp only at h <;> first | cases h | (cases hm : memN b' ws <;> rw [hm] at h <;> cases h))
theorem killB_tpl {ws : List Nat} {z : AV} {b : Nat} {rs : List D} (h : killB ws z = .tpl b rs) : memN b ws = false := by
 cases z <;> simp only [killB] at h <;> first | cases h | (rename_i b' _; cases hm : memN b' ws <;> rw [hm] at h <;> cases h; exact hm) | (rename_i b' _ _ _ _; cases hm : memN b' ws <;> rw [hm] at h <;> cases h) | (rename_i b'; cases hm : memN b' ws <;> rw [hm] at h <;> cases h) | (rename_i b' _; cases hm : memN b' ws <;> rw [hm] at h <;> cases h) | (rename_i b' _ _ _; cases hm : memN b' ws <;> rw [hm] at h <;> cases h) | (rename_i b' _ n; cases n <;> simp only at h <;> first | cases h | (cases hm : memN b' ws <;> rw [hm] at h <;> cases h))
theorem killB_lp {ws : List Nat} {z : AV} {b : Nat} {p : List Nat} (h : killB ws z = .lp b p) : memN b ws = false := by
 cases z <;> simp only [killB] at h <;> first | cases h | (rename_i b' _; cases hm : memN b' ws <;> rw [hm] at h <;> cases h; exact hm) | (rename_i b' _ _ _ _; cases hm : memN b' ws <;> rw [hm] at h <;> cases h) | (rename_i b'; cases hm : memN b' ws <;> rw [hm] at h <;> cases h) | (rename_i b' _; cases hm : memN b' ws <;> rw [hm] at h <;> cases h) | (rename_i b' _ _ _; cases hm : memN b' ws <;> rw [hm] at h <;> cases h) | (rename_i b' _ n; cases n <;> simp only at h <;> first | cases h | (cases hm : memN b' ws <;> rw [hm] at h <;> cases h))
theorem killB_own {ws : List Nat} {z : AV} {b : Nat} {p : List Nat} {o l c : Nat} (h : killB ws z = .own b p o l c) : memN b ws = false := by
 cases z <;> simp only [killB] at h <;> first | cases h | (rename_i b' _ _ _ _; cases hm : memN b' ws <;> rw [hm] at h <;> cases h; exact hm) | (rename_i b'; cases hm : memN b' ws <;> rw [hm] at h <;> cases h) | (rename_i b' _; cases hm : memN b' ws <;> rw [hm] at h <;> cases h) | (rename_i b' _ _ _; cases hm : memN b' ws <;> rw [hm] at h <;> cases h) | (rename_i b' _ n; cases n <;> simp only at h <;> first | cases h | (cases hm : memN b' ws <;> rw [hm] at h <;> cases h))
theorem killB_sub {ws : List Nat} {z : AV} {b : Nat} {p : List Nat} {o n : Nat} (h : killB ws z = .sub b p o n) : memN b ws = false := by
 cases z <;> simp only [killB] at h <;> first | cases h | (rename_i b' _ _ _; cases hm : memN b' ws <;> rw [hm] at h <;> cases h; exact hm) | (rename_i b' _ _ _ _; cases hm : memN b' ws <;> rw [hm] at h <;> cases h) | (rename_i b'; cases hm : memN b' ws <;> rw [hm] at h <;> cases h) | (rename_i b' _; cases hm : memN b' ws <;> rw [hm] at h <;> cases h) | (rename_i b' _ n; cases n <;> simp only at h <;> first | cases h | (cases hm : memN b' ws <;> rw [hm] at h <;> cases h))
theorem Hid.hav {ws : List Nat} {s : St} (h : noRows (hav ws s).T = true) : Hid ws (hav ws s).T := by
 refine ⟨fun i hi y hy => ?_, noRows_get h, fun i b p hb e => ?_, fun i b p o l c hb e => ?_, fun i b rs hb e => ?_, fun i b p hb e => ?_, fun i b p o n hb e => ?_⟩
 ·rw [hav_get] at hy
  simp only [Option.map_eq_some_iff] at hy
  obtain ⟨x, _, rfl⟩ := hy
  rw [memN_iff.2 hi]
  rfl
 ·rw [hav_get] at e
  simp only [Option.map_eq_some_iff] at e
  obtain ⟨x, _, hx⟩ := e
  have := killB_ptr hx
  rw [memN_iff.2 hb] at this
  cases this
 ·rw [hav_get] at e
  simp only [Option.map_eq_some_iff] at e
  obtain ⟨x, _, hx⟩ := e
  have := killB_own hx
  rw [memN_iff.2 hb] at this
  cases this
 ·rw [hav_get] at e
  simp only [Option.map_eq_some_iff] at e
  obtain ⟨x, _, hx⟩ := e
  have := killB_tpl hx
  rw [memN_iff.2 hb] at this
  cases this
 ·rw [hav_get] at e
  simp only [Option.map_eq_some_iff] at e
  obtain ⟨x, _, hx⟩ := e
  have := killB_lp hx
  rw [memN_iff.2 hb] at this
  cases this
 ·rw [hav_get] at e
  simp only [Option.map_eq_some_iff] at e
  obtain ⟨x, _, hx⟩ := e
  have := killB_sub hx
  rw [memN_iff.2 hb] at this
  cases this
theorem Fr.hav {ws : List Nat} {T0 : List AV} {s : St} (h : Fr T0 s.T) (hh : Hid ws T0) : Fr T0 (hav ws s).T := by
 refine ⟨by rw [← h.1]; simp only [Go.Vg.hav, List.length_map]; exact anyAt_len ws _ _, fun i y hy => ?_⟩
 rcases h.2 i y hy with h1 | h1
 ·exact .inl h1
 ·rw [hav_get, h1]
  cases hm : memN i ws with
  | true => exact .inl (hh.any i (memN_iff.1 hm) y hy)
  | false =>
   simp only [cond_false, Option.map_some, Option.some.injEq]
   cases y with
   | row b => exact absurd hy (hh.row i b).1
   | rpt b j n => exact absurd hy ((hh.row i b).2.1 j n)
   | tpr b rs => exact absurd hy ((hh.row i b).2.2 rs)
   | ptr b p =>
    right
    simp only [killB]
    cases hb : memN b ws with
    | true => exact absurd hy (hh.ptr i b p (memN_iff.1 hb))
    | false => rfl
   | own b p o l c =>
    right
    simp only [killB]
    cases hb : memN b ws with
    | true => exact absurd hy (hh.own i b p o l c (memN_iff.1 hb))
    | false => rfl
   | tpl b rs =>
    right
    simp only [killB]
    cases hb : memN b ws with
    | true => exact absurd hy (hh.tpl i b rs (memN_iff.1 hb))
    | false => rfl
   | lp b p =>
    right
    simp only [killB]
    cases hb : memN b ws with
    | true => exact absurd hy (hh.lp i b p (memN_iff.1 hb))
    | false => rfl
   | sub b p o n =>
    right
    simp only [killB]
    cases hb : memN b ws with
    | true => exact absurd hy (hh.sub i b p o n (memN_iff.1 hb))
    | false => rfl
   | _ => exact .inr rfl
theorem Fr.setAll {ws : List Nat} {T0 TS : List AV} (hh : Hid ws T0) (hr : ∀ (i b : Nat), TS[i]? = some (.row b) → ∀ y : AV, T0[i]? = some y → y = .any) : ∀ (l : List (Nat × AV)) {T : List AV}, Fr T0 T → slotsIn2 ws TS l = true → Fr T0 (setAll T l)
 | [], T, h, _ => h
 | (i, x) :: l, T, h, hs => by
  simp only [slotsIn2, Bool.and_eq_true, Bool.or_eq_true] at hs
  refine Fr.setAll hh hr l (h.set ?_) hs.2
  rcases hs.1 with h1 | h1
  ·exact hh.any i (memN_iff.1 h1)
  ·have h2 := h1.2
   rw [List.getD_eq_getElem?_getD] at h2
   cases hz : TS[i]? with
   | none => rw [hz] at h2; cases h2
   | some z =>
    rw [hz] at h2
    cases z <;> first | cases h2 | skip
    exact hr i _ hz
theorem fr_put {T0 : List AV} {s : St} {d : Option Nat} {x : AV} (h : Fr T0 s.T) (hd : ∀ i : Nat, d = some i → ∀ y : AV, T0[i]? = some y → y = .any) : Fr T0 (s.put d x).T := by
 cases d with
 | none => exact h
 | some i => exact h.set (hd i rfl)
theorem fr_gstep {C : Ctx} {T0 : List AV} {o : Oper} {s : St} (h : Fr T0 s.T) (hrow : ∀ (i b : Nat), T0[i]? ≠ some (.row b) ∧ (∀ j n, T0[i]? ≠ some (.rpt b j n)) ∧ ∀ rs, T0[i]? ≠ some (.tpr b rs)) (hd : ∀ i : Nat, o.dst = some i → ∀ y : AV, T0[i]? = some y → y = .any)
  (hf : ∀ d, o.dst = some d → C.frz.contains d = false) : Fr T0 (gstep C o s).2.T := by
 have hk : ∀ b, Fr T0 (s.T.map (killR b)) := fun b => h.map fun i y hy => by
  cases y with
  | row c => exact absurd hy (hrow i c).1
  | rpt c j n => exact absurd hy ((hrow i c).2.1 j n)
  | tpr c rs => exact absurd hy ((hrow i c).2.2 rs)
  | _ => exact .inl rfl
 have happ : ∀ t t2 b z y M, Fr T0 (gApp C o.dst t t2 b z y s.T M).2.T := by
  intro t t2 b z y M
  unfold gApp
  split
  ·split
   ·exact fr_put (s := ⟨_, _⟩) (hk b) hd
   ·exact h
  ·exact h
 unfold gstep
 cases hkind : kindOf C o with
 | plain => exact fr_put (s := ⟨s.T, _⟩) h hd
 | cio f args =>
  simp only
  unfold ioStep
  split
  ·exact h
  ·rename_i sp _
   split
   ·split
    ·split
     ·split
      ·split
       ·exact fr_put (s := ⟨_, _⟩) (hk _) hd
       ·exact h
      ·exact h
     ·exact h
    ·exact h
   cases isIo sp
   ·simp only [cond_false]
    split
    ·split
     ·rename_i d ds hdst _
      split
      ·rw [hdst] at hd
       exact fr_put (s := ⟨s.T, _⟩) h hd
      ·exact h
     ·exact h
    split
    ·rename_i d ds hdst _
     split
     ·rw [hdst] at hd
      exact fr_put (s := ⟨s.T, _⟩) h hd
     ·exact h
    ·exact h
   ·simp only [cond_true]
    split
    ·split
     ·split
      ·exact fr_put (s := ⟨s.T, _⟩) h hd
      ·exact h
     ·exact h
    ·exact h
 | frz args =>
  exfalso
  unfold kindOf at hkind
  split at hkind
  ·split at hkind
   ·split at hkind
    ·rename_i x' _ _ _ _ _
     cases hcp : copies C o x' <;> rw [hcp] at hkind <;> cases hkind
    ·cases hkind
   ·rename_i g _
    cases hio : ioCall C g with
    | true => rw [hio] at hkind; simp only [cond_true] at hkind; cases hkind
    | false =>
     rw [hio] at hkind
     simp only [cond_false] at hkind
     split at hkind
     ·rename_i d hdst
      rw [hf d hdst] at hkind
      simp only [cond_false] at hkind
      cases hf2 : C.frz.contains (d + 100000) <;> rw [hf2] at hkind <;> cases hkind
     ·cases hkind
   ·cases hkind
  ·split at hkind
   ·rename_i d hdst
    rw [hf d hdst] at hkind
    cases hkind
   ·cases hkind
  ·split at hkind
   ·rename_i d hdst
    rw [hf d hdst] at hkind
    cases hkind
   ·cases hkind
  ·split at hkind
   ·rename_i d hdst
    rw [hf d hdst] at hkind
    simp only [cond_false] at hkind
    cases hf2 : C.frz.contains (d + 500000) <;> rw [hf2] at hkind
    ·cases hkind
    ·simp only [cond_true] at hkind
     split at hkind <;> cases hkind
   ·cases hkind
  ·cases hkind
 | trunc t x hi =>
  simp only
  unfold gTrunc
  split
  ·split
   ·exact fr_put (s := ⟨_, _⟩) (hk _) hd
   ·exact h
  ·exact h
 | frzR args =>
  have hrow1 : ∀ (b : Nat) (s : St), Fr T0 s.T → Fr T0 (frzRow b s).T := by
   intro b s h
   unfold frzRow
   split
   ·rename_i e x _
    cases Nat.blt b 1000
    ·exact h
    ·exact h.map fun i y hy => by
      cases y with
      | row c => exact absurd hy (hrow i c).1
      | rpt c j n => exact absurd hy ((hrow i c).2.1 j n)
      | tpr c rs => exact absurd hy ((hrow i c).2.2 rs)
      | _ => exact .inl rfl
   ·exact h
  have hrows : ∀ (as : List AV) (s : St), Fr T0 s.T → Fr T0 (frzRows as s).T := by
   intro as
   induction as with
   | nil => exact fun s h => h
   | cons y as ih =>
    intro s h
    cases y with
    | row b => exact ih _ (hrow1 b s h)
    | _ => exact ih _ h
  exact fr_put (s := ⟨_, _⟩) (hrows _ _ h) hd
 | app t t2 x y =>
  simp only
  unfold gAppend
  split
  ·split
   ·exact happ _ _ _ _ _ _
   ·exact h
  ·split
   ·rename_i d e hdst _
    split
    ·have := happ t t2 d (castD C.tab t (.val (.slice none 0 0))) (evA s.T y) (putM s.M d (.row e (castD C.tab t (.val (.slice none 0 0)))))
     rw [hdst] at this
     exact this
    ·exact h
   ·exact h
  ·exact h
theorem runR_fr {C : Ctx} {ops : List Oper} {T0 : List AV} {K : St → Prop} (hrow : ∀ (i b : Nat), T0[i]? ≠ some (.row b) ∧ (∀ j n, T0[i]? ≠ some (.rpt b j n)) ∧ ∀ rs, T0[i]? ≠ some (.tpr b rs)) : ∀ (os : List Oper) (s : St), (∀ o ∈ os, (∀ i : Nat, o.dst = some i → ∀ y : AV, T0[i]? = some y → y = .any) ∧ ∀ d, o.dst = some d → C.frz.contains d = false) →
  Fr T0 s.T → runR C ops K os s → runR C ops (fun s' => K s' ∧ Fr T0 s'.T) os s
 | [], s, _, hT, h => ⟨h, hT⟩
 | o :: os, s, ho, hT, h => by
  have ho1 := ho o (by simp)
  have ho2 := fun o' h' => ho o' (List.mem_cons_of_mem _ h')
  simp only [runR] at h ⊢
  cases hg : o.guard with
  | none =>
   rw [hg] at h
   exact ⟨h.1, runR_fr hrow os _ ho2 (fr_gstep hT hrow ho1.1 ho1.2) h.2⟩
  | some g =>
   obtain ⟨j, want⟩ := g
   rw [hg] at h
   simp only at h ⊢
   cases hd : dstOf ops j with
   | none => rw [hd] at h; exact h.elim
   | some dj =>
    rw [hd] at h
    simp only at h ⊢
    split at h
    ·rename_i t hTj
     have hset : s.T.set dj (.d (.val (.bool t))) = s.T := set_same hTj (by simp)
     cases t <;> cases want <;> simp only [cond_true, cond_false, hset, hTj] at h ⊢
     ·exact ⟨h.1, runR_fr hrow os _ ho2 (fr_gstep (s := ⟨s.T, s.M⟩) hT hrow ho1.1 ho1.2) h.2⟩
     ·exact runR_fr hrow os _ ho2 (fr_put (s := ⟨s.T, s.M⟩) hT ho1.1) h
     ·exact runR_fr hrow os _ ho2 (fr_put (s := ⟨s.T, s.M⟩) hT ho1.1) h
     ·exact ⟨h.1, runR_fr hrow os _ ho2 (fr_gstep (s := ⟨s.T, s.M⟩) hT hrow ho1.1 ho1.2) h.2⟩
    ·rename_i hTj
     exact runR_fr hrow os _ ho2 (fr_put (s := s) hT ho1.1) h
    ·exact h.elim
theorem runR_mono {C : Ctx} {ops : List Oper} {K K' : St → Prop} (hK : ∀ s, K s → K' s) : ∀ (os : List Oper) (s : St), runR C ops K os s → runR C ops K' os s
 | [], s, h => hK s h
 | o :: os, s, h => by
  simp only [runR] at h ⊢
  cases hg : o.guard with
  | none =>
   rw [hg] at h
   exact ⟨h.1, runR_mono hK os _ h.2⟩
  | some g =>
   obtain ⟨j, want⟩ := g
   rw [hg] at h
   simp only at h ⊢
   cases hd : dstOf ops j with
   | none => rw [hd] at h; exact h.elim
   | some dj =>
    rw [hd] at h
    simp only at h ⊢
    split at h
    ·rename_i t hTj
     cases t <;> cases want <;> simp only [cond_true, cond_false, hTj] at h ⊢
     ·exact ⟨h.1, runR_mono hK os _ h.2⟩
     ·exact runR_mono hK os _ h
     ·exact runR_mono hK os _ h
     ·exact ⟨h.1, runR_mono hK os _ h.2⟩
    ·rename_i hTj
     exact runR_mono hK os _ h
    ·exact h.elim
theorem vc_mono {C : Ctx} {inv : Nat → Option Inv} : ∀ (c : Code) {K K' : Ex → St → Prop} {s : St}, (∀ e s', K e s' → K' e s') → vc C inv c K s → vc C inv c K' s := by
 intro c
 induction c with
 | skip => intro K K' s hK h; exact hK _ _ h
 | region id ops draw =>
  intro K K' s hK h
  simp only [vc] at h ⊢
  exact runR_mono (fun s' => hK _ s') _ _ h
 | seq x y ihx ihy =>
  intro K K' s hK h
  simp only [vc] at h ⊢
  refine ihx (fun e s' h' => ?_) h
  cases e with
  | normal => exact ihy hK h'
  | _ => exact hK _ _ h'
 | cond c x y ihx ihy =>
  intro K K' s hK h
  simp only [vc] at h ⊢
  split at h
  ·split at h
   ·rename_i t hev
    cases t
    ·exact ihy hK h
    ·exact ihx hK h
   ·exact ⟨fun hp => ihx hK (h.1 hp), fun hq => ihy hK (h.2 hq)⟩
   ·exact h.elim
  ·rename_i v _
   have hK2 : ∀ q e s', cutK q v (writes x ++ writes y) s K e s' → cutK q v (writes x ++ writes y) s K' e s' := by
    intro q e s' h'
    cases e with
    | normal => exact h'
    | exit id => exact hK _ _ h'
    | ret => exact hK _ _ h'
   refine ⟨?_, fun z hz => ⟨(h.2 z hz).1, hK _ _ (h.2 z hz).2⟩⟩
   have h := h.1
   split at h
   ·rename_i t hev
    cases t
    ·exact ihy (hK2 _) h
    ·exact ihx (hK2 _) h
   ·exact h.elim
 | block id c ih =>
  intro K K' s hK h
  simp only [vc] at h ⊢
  refine ih (fun e s' h' => ?_) h
  cases e with
  | exit id' =>
   simp only at h' ⊢
   cases hb : Nat.beq id' id <;> rw [hb] at h' <;> exact hK _ _ h'
  | _ => exact hK _ _ h'
 | loop c ih =>
  intro K K' s hK h
  simp only [vc] at h ⊢
  split at h
  ·exact h.elim
  ·rename_i v _
   generalize (frzFree C c && noRows (hav (writes c) s).T) = bb at h ⊢
   cases bb
   all_goals simp only [cond_true, cond_false] at h ⊢
   all_goals
    refine ⟨h.1, fun x hx => ⟨(h.2 x hx).1, ih (fun e s' h' => ?_) (h.2 x hx).2⟩⟩
    cases e with
    | normal => exact h'
    | _ => exact hK _ _ h'
 | exit id => intro K K' s hK h; exact hK _ _ h
 | ret => intro K K' s hK h; exact hK _ _ h
 | _ => intro K K' s hK h; exact h.elim
theorem vc_fr {C : Ctx} {inv : Nat → Option Inv} {T0 : List AV} : ∀ (c : Code) {K : Ex → St → Prop} {s : St}, Hid (writes c) T0 → frzFree C c = true → Fr T0 s.T → vc C inv c K s → vc C inv c (fun e s' => K e s' ∧ Fr T0 s'.T) s := by
 intro c
 induction c with
 | skip => intro K s _ _ hT h; exact ⟨h, hT⟩
 | region id ops draw =>
  intro K s hh hf hT h
  simp only [vc] at h ⊢
  refine runR_fr hh.row _ _ (fun o ho => ⟨fun i hi => hh.any i ?_, fun d hd => ?_⟩) hT h
  ·simp only [writes, List.mem_filterMap]
   exact ⟨o, ho, hi⟩
  ·simp only [frzFree, List.all_eq_true] at hf
   have := hf o ho
   rw [hd] at this
   simpa using this
 | seq x y ihx ihy =>
  intro K s hh hf hT h
  simp only [frzFree, Bool.and_eq_true] at hf
  have h1 : Hid (writes x) T0 := hh.mono fun i hi => by simp [writes, hi]
  have h2 : Hid (writes y) T0 := hh.mono fun i hi => by simp [writes, hi]
  simp only [vc] at h ⊢
  refine vc_mono x (fun e s' h' => ?_) (ihx h1 hf.1 hT h)
  cases e with
  | normal => exact ihy h2 hf.2 h'.2 h'.1
  | _ => exact h'
 | cond c x y ihx ihy =>
  intro K s hh hf hT h
  simp only [frzFree, Bool.and_eq_true] at hf
  have h1 : Hid (writes x) T0 := hh.mono fun i hi => by simp [writes, hi]
  have h2 : Hid (writes y) T0 := hh.mono fun i hi => by simp [writes, hi]
  simp only [vc] at h ⊢
  split at h
  ·split at h
   ·rename_i t hev
    cases t
    ·exact ihy h2 hf.2 hT h
    ·exact ihx h1 hf.1 hT h
   ·exact ⟨fun hp => ihx h1 hf.1 hT (h.1 hp), fun hq => ihy h2 hf.2 hT (h.2 hq)⟩
   ·exact h.elim
  ·rename_i v _
   have hh' : Hid (writes x ++ writes y) T0 := hh
   have hK2 : ∀ q e s', (cutK q v (writes x ++ writes y) s K e s' ∧ Fr T0 s'.T) → cutK q v (writes x ++ writes y) s (fun e s' => K e s' ∧ Fr T0 s'.T) e s' := by
    intro q e s' h'
    cases e with
    | normal => exact h'.1
    | exit id => exact h'
    | ret => exact h'
   refine ⟨?_, fun z hz => ⟨(h.2 z hz).1, (h.2 z hz).2, ?_⟩⟩
   ·have h := h.1
    split at h
    ·rename_i t hev
     cases t
     ·exact vc_mono y (hK2 _) (ihy h2 hf.2 hT h)
     ·exact vc_mono x (hK2 _) (ihx h1 hf.1 hT h)
    ·exact h.elim
   ·exact Fr.setAll hh' (fun i b hi y hy => (hT.2 i y hy).resolve_right fun e => (hh'.row i b).1 (by rw [hy, ← e, hi])) _ (hT.hav hh') (h.2 z hz).1
 | block id c ih =>
  intro K s hh hf hT h
  simp only [vc] at h ⊢
  refine vc_mono c (fun e s' h' => ?_) (ih hh hf hT h)
  cases e with
  | exit id' =>
   simp only at h' ⊢
   cases hb : Nat.beq id' id <;> rw [hb] at h' <;> exact h'
  | _ => exact h'
 | loop c ih =>
  intro K s hh hf hT h
  simp only [vc] at h ⊢
  split at h
  ·exact h.elim
  ·rename_i v _
   generalize (frzFree C c && noRows (hav (writes c) s).T) = bb at h ⊢
   cases bb
   all_goals simp only [cond_true, cond_false] at h ⊢
   all_goals
    refine ⟨h.1, fun x hx => ⟨(h.2 x hx).1, ?_⟩⟩
    have hT' : Fr T0 (v.shape (writes c) s x).T := Fr.setAll hh (fun i b hi y hy => (hT.2 i y hy).resolve_right fun e => (hh.row i b).1 (by rw [hy, ← e, hi])) _ (hT.hav hh) (h.2 x hx).1
    refine vc_mono c (fun e s' h' => ?_) (ih hh hf hT' (h.2 x hx).2)
    cases e with
    | normal => exact h'.1
    | _ => exact h'
 | exit id => intro K s _ _ hT h; exact ⟨h, hT⟩
 | ret => intro K s _ _ hT h; exact ⟨h, hT⟩
 | _ => intro K s _ _ _ h; exact h.elim
theorem leT_of : ∀ {xs ys : List AV}, xs.length = ys.length → (∀ (i : Nat) (y : AV), ys[i]? = some y → y = .any ∨ ∃ x, xs[i]? = some x ∧ leV x y) → leT xs ys
 | [], [], _, _ => trivial
 | [], _ :: _, h, _ => by simp at h
 | _ :: _, [], h, _ => by simp at h
 | x :: xs, y :: ys, h, hg => by
  have h1 := hg 0 y rfl
  have h2 : leT xs ys := leT_of (by simpa using h) fun i z hz => by simpa using hg (i + 1) z (by simpa using hz)
  rcases h1 with rfl | h1
  ·cases x <;> exact h2
  ·obtain ⟨z, h1, h3⟩ := h1
   simp only [List.getElem?_cons_zero, Option.some.injEq] at h1
   subst h1
   cases y <;> first | exact h2 | exact ⟨h3, h2⟩
theorem setAll_get : ∀ (l : List (Nat × AV)) (T : List AV) (i : Nat) (y : AV), (setAll T l)[i]? = some y → T[i]? = some y ∨ (i, y) ∈ l
 | [], T, i, y, h => .inl h
 | (j, x) :: l, T, i, y, h => by
  rcases setAll_get l (T.set j x) i y h with h1 | h1
  ·rw [List.getElem?_set] at h1
   split at h1
   ·rename_i hj
    subst hj
    split at h1
    ·obtain rfl := Option.some.inj h1
     exact .inr (by simp)
    ·cases h1
   ·exact .inl h1
  ·exact .inr (List.mem_cons_of_mem _ h1)
theorem setAll_len : ∀ (l : List (Nat × AV)) (T : List AV), (setAll T l).length = T.length
 | [], T => rfl
 | (j, x) :: l, T => by simp only [setAll]; rw [setAll_len l]; simp
theorem leV_any {y : AV} (h : leV .any y) : y = .any := by
 unfold leV at h
 split at h
 ·rename_i h1; cases h1
 ·rename_i h1; cases h1
 ·exact h.symm
theorem leS_get {T : List AV} : ∀ {l : List (Nat × AV)}, leS T l → ∀ p ∈ l, leV (T.getD p.1 .any) p.2
 | [], _, p, h => by simp at h
 | (i, x) :: l, h, p, hp => by
  simp only [List.mem_cons] at hp
  rcases hp with rfl | hp
  ·exact h.1
  ·exact leS_get h.2 p hp
theorem leQ_le {s' s0 : St} {v : Inv} {ws : List Nat} {x : v.α} (hF : Fr (hav ws s0).T s'.T) (h : leQ s' v ws s0 x) : le s' (v.shape ws s0 x) := by
 refine ⟨leT_of ?_ fun i y hy => ?_, h.2.1, h.2.2⟩
 ·rw [hF.1]
  exact (setAll_len _ _).symm
 ·rcases setAll_get _ _ _ _ hy with h1 | h1
  ·rcases hF.2 i y h1 with h2 | h2
   ·exact .inl h2
   ·exact .inr ⟨y, h2, leV_rfl y⟩
  ·have h2 := leS_get h.1 _ h1
   simp only [List.getD_eq_getElem?_getD] at h2
   cases hT : s'.T[i]? with
   | none => rw [hT] at h2; exact .inl (leV_any h2)
   | some z => rw [hT] at h2; exact .inr ⟨z, rfl, h2⟩
theorem hav_any (ws : List Nat) (s : St) (i : Nat) (hi : i ∈ ws) (y : AV) (hy : (hav ws s).T[i]? = some y) : y = .any := by
 rw [hav_get] at hy
 simp only [Option.map_eq_some_iff] at hy
 obtain ⟨x, _, rfl⟩ := hy
 rw [memN_iff.2 hi]
 rfl
theorem fr_plain {C : Ctx} {T0 : List AV} {o : Oper} {s : St} (h : Fr T0 s.T) (hk : kindOf C o = .plain) (hd : ∀ i : Nat, o.dst = some i → ∀ y : AV, T0[i]? = some y → y = .any) : Fr T0 (gstep C o s).2.T := by
 unfold gstep
 rw [hk]
 exact fr_put (s := ⟨_, _⟩) h hd
theorem runR_pl {C : Ctx} {ops : List Oper} {T0 : List AV} {K : St → Prop} : ∀ (os : List Oper) (s : St), (∀ o ∈ os, (∀ i : Nat, o.dst = some i → ∀ y : AV, T0[i]? = some y → y = .any) ∧ kindOf C o = .plain) →
  Fr T0 s.T → runR C ops K os s → runR C ops (fun s' => K s' ∧ Fr T0 s'.T) os s
 | [], s, _, hT, h => ⟨h, hT⟩
 | o :: os, s, ho, hT, h => by
  have ho1 := ho o (by simp)
  have ho2 := fun o' h' => ho o' (List.mem_cons_of_mem _ h')
  simp only [runR] at h ⊢
  cases hg : o.guard with
  | none =>
   rw [hg] at h
   exact ⟨h.1, runR_pl os _ ho2 (fr_plain hT ho1.2 ho1.1) h.2⟩
  | some g =>
   obtain ⟨j, want⟩ := g
   rw [hg] at h
   simp only at h ⊢
   cases hd : dstOf ops j with
   | none => rw [hd] at h; exact h.elim
   | some dj =>
    rw [hd] at h
    simp only at h ⊢
    split at h
    ·rename_i t hTj
     have hset : s.T.set dj (.d (.val (.bool t))) = s.T := set_same hTj (by simp)
     cases t <;> cases want <;> simp only [cond_true, cond_false, hset, hTj] at h ⊢
     ·exact ⟨h.1, runR_pl os _ ho2 (fr_plain (s := ⟨s.T, s.M⟩) hT ho1.2 ho1.1) h.2⟩
     ·exact runR_pl os _ ho2 (fr_put (s := ⟨s.T, s.M⟩) hT ho1.1) h
     ·exact runR_pl os _ ho2 (fr_put (s := ⟨s.T, s.M⟩) hT ho1.1) h
     ·exact ⟨h.1, runR_pl os _ ho2 (fr_plain (s := ⟨s.T, s.M⟩) hT ho1.2 ho1.1) h.2⟩
    ·rename_i hTj
     exact runR_pl os _ ho2 (fr_put (s := s) hT ho1.1) h
    ·exact h.elim
theorem vc_pl {C : Ctx} {inv : Nat → Option Inv} {T0 : List AV} : ∀ (c : Code) {K : Ex → St → Prop} {s : St}, (∀ i ∈ writes c, ∀ y : AV, T0[i]? = some y → y = .any) → plainC C inv c = true → Fr T0 s.T → vc C inv c K s → vc C inv c (fun e s' => K e s' ∧ Fr T0 s'.T) s := by
 intro c
 induction c with
 | skip => intro K s _ _ hT h; exact ⟨h, hT⟩
 | region id ops draw =>
  intro K s hh hf hT h
  simp only [vc] at h ⊢
  refine runR_pl _ _ (fun o ho => ⟨fun i hi => hh i ?_, ?_⟩) hT h
  ·simp only [writes, List.mem_filterMap]
   exact ⟨o, ho, hi⟩
  ·simp only [plainC, List.all_eq_true] at hf
   have := hf o ho
   split at this
   ·assumption
   ·cases this
 | seq x y ihx ihy =>
  intro K s hh hf hT h
  simp only [plainC, Bool.and_eq_true] at hf
  have h1 : ∀ i ∈ writes x, ∀ y : AV, T0[i]? = some y → y = .any := fun i hi => hh i (by simp [writes, hi])
  have h2 : ∀ i ∈ writes y, ∀ y : AV, T0[i]? = some y → y = .any := fun i hi => hh i (by simp [writes, hi])
  simp only [vc] at h ⊢
  refine vc_mono x (fun e s' h' => ?_) (ihx h1 hf.1 hT h)
  cases e with
  | normal => exact ihy h2 hf.2 h'.2 h'.1
  | _ => exact h'
 | cond c x y ihx ihy =>
  intro K s hh hf hT h
  simp only [plainC, Bool.and_eq_true, Option.isNone_iff_eq_none] at hf
  have h1 : ∀ i ∈ writes x, ∀ y : AV, T0[i]? = some y → y = .any := fun i hi => hh i (by simp [writes, hi])
  have h2 : ∀ i ∈ writes y, ∀ y : AV, T0[i]? = some y → y = .any := fun i hi => hh i (by simp [writes, hi])
  simp only [vc, hf.1.1] at h ⊢
  split at h
  ·rename_i t hev
   cases t
   ·exact ihy h2 hf.2 hT h
   ·exact ihx h1 hf.1.2 hT h
  ·exact ⟨fun hp => ihx h1 hf.1.2 hT (h.1 hp), fun hq => ihy h2 hf.2 hT (h.2 hq)⟩
  ·exact h.elim
 | block id a ih =>
  intro K s hh hf hT h
  simp only [vc] at h ⊢
  refine vc_mono a (fun e s' h' => ?_) (ih (fun i hi => hh i (by simpa [writes] using hi)) hf hT h)
  cases e with
  | normal => exact h'
  | exit id' =>
   simp only at h' ⊢
   cases hb : Nat.beq id' id
   ·simp only [hb, cond_false] at h' ⊢
    exact h'
   ·simp only [hb, cond_true] at h' ⊢
    exact h'
  | ret => exact h'
 | exit id => intro K s _ _ hT h; exact ⟨h, hT⟩
 | ret => intro K s _ _ hT h; exact ⟨h, hT⟩
 | _ => intro K s _ hf _ _; simp [plainC] at hf
theorem hav_fr (ws : List Nat) (s : St) : Fr (hav ws s).T s.T := by
 refine ⟨by simp only [hav, List.length_map]; exact (anyAt_len ws _ _).symm, fun i y hy => ?_⟩
 rw [hav_get] at hy
 simp only [Option.map_eq_some_iff] at hy
 obtain ⟨x, hx, rfl⟩ := hy
 cases hm : memN i ws with
 | true => exact .inl rfl
 | false =>
  simp only [cond_false]
  cases x with
  | ptr b p =>
   simp only [killB]
   cases hb : memN b ws with
   | true => exact .inl rfl
   | false => exact .inr hx
  | own b p o l c =>
   simp only [killB]
   cases hb : memN b ws with
   | true => exact .inl rfl
   | false => exact .inr hx
  | row b =>
   simp only [killB]
   cases hb : memN b ws with
   | true => exact .inl rfl
   | false => exact .inr hx
  | rpt b i n =>
   cases n with
   | none => exact .inl rfl
   | some n =>
    simp only [killB]
    cases hb : memN b ws with
    | true => exact .inl rfl
    | false => exact .inr hx
  | tpl b rs =>
   simp only [killB]
   cases hb : memN b ws with
   | true => exact .inl rfl
   | false => exact .inr hx
  | tpr b rs => exact .inl rfl
  | lp b p =>
   simp only [killB]
   cases hb : memN b ws with
   | true => exact .inl rfl
   | false => exact .inr hx
  | sub b p o n =>
   simp only [killB]
   cases hb : memN b ws with
   | true => exact .inl rfl
   | false => exact .inr hx
  | _ => exact .inr hx
theorem vc_sound {P : Program} {C : Ctx} (K0 : CtxOk P C) (hm : P.follows .mixedOrders = true) {inv : Nat → Option Inv} {w0 : World} {F : Env} : ∀ (c : Code) (K : Ex → St → Prop) (Q : Exit → Act → World → Prop) (σ : Sg) (s : St) (a : Act) (w : World),
  statOK C c = true → Rel w0 F σ s a w → vc C inv c K s → (∀ e s' σ' a' w', Rel w0 F σ' s' a' w' → K e s' → Q e.up a' w') → c.wp P Q a w := by
 intro c
 induction c with
 | skip => intro K Q σ s a w _ r h hQ; exact wp_skip (hQ .normal s σ a w r h)
 | region id ops draw =>
  intro K Q σ s a w hst r h hQ
  obtain ⟨h1, h2⟩ := runR_sound _ _ h
  exact region_sound K0 hm r (fun hd => by subst hd; simpa [statOK] using hst) h1 (fun σ' a' w' r' => hQ .normal _ σ' a' w' r' h2)
 | seq x y ihx ihy =>
  intro K Q σ s a w hst r h hQ
  simp only [statOK, Bool.and_eq_true] at hst
  refine wp_seq (ihx _ _ σ s a w hst.1 r h ?_)
  intro e s' σ' a' w' r' hk
  cases e with
  | normal => exact ihy K Q σ' s' a' w' hst.2 r' hk hQ
  | exit id => exact hQ (.exit id) s' σ' a' w' r' hk
  | ret => exact hQ .ret s' σ' a' w' r' hk
 | cond c x y ihx ihy =>
  intro K Q σ s a w hst r h hQ
  simp only [statOK, Bool.and_eq_true] at hst
  have hc := ev_sound r c
  simp only [vc] at h
  split at h
  ·split at h
   ·rename_i t hev
    rw [hev] at hc
    have ec := ar_val hc
    cases t with
    | true => exact wp_cond_true ec (ihx K Q σ s a w hst.1 r h hQ)
    | false => exact wp_cond_false ec (ihy K Q σ s a w hst.2 r h hQ)
   ·rename_i hev
    rw [hev] at hc
    obtain ⟨t, ec, hp, hq⟩ := hc
    cases t with
    | true => exact wp_cond_true ec (ihx K Q σ s a w hst.1 r (h.1 (hp rfl)) hQ)
    | false => exact wp_cond_false ec (ihy K Q σ s a w hst.2 r (h.2 (hq rfl)) hQ)
   ·exact h.elim
  ·rename_i v _
   have hQ2 : ∀ e s' σ' a' w', Rel w0 F σ' s' a' w' → cutK false v (writes x ++ writes y) s K e s' → Q e.up a' w' := by
    intro e s' σ' a' w' r' hk
    cases e with
    | normal => exact hQ .normal _ σ' a' w' (le_sound r' hk.1) (h.2 _ hk.2).2
    | exit id => exact hQ (.exit id) s' σ' a' w' r' hk
    | ret => exact hQ .ret s' σ' a' w' r' hk
   have h := h.1
   have low : ∀ z, (z = x ∨ z = y) → vc C inv z (cutK ((frzFree C x && frzFree C y && noRows (hav (writes x ++ writes y) s).T) || (plainC C inv x && plainC C inv y)) v (writes x ++ writes y) s K) s → vc C inv z (cutK false v (writes x ++ writes y) s K) s := by
    intro z hz hv
    cases hpb : plainC C inv x && plainC C inv y with
    | true =>
     rw [hpb, Bool.or_true] at hv
     obtain ⟨hpx, hpy⟩ := Bool.and_eq_true_iff.1 hpb
     have hzw : ∀ i ∈ writes z, i ∈ writes x ++ writes y := by
      intro i hi
      rcases hz with rfl | rfl
      ·exact List.mem_append.2 (.inl hi)
      ·exact List.mem_append.2 (.inr hi)
     have hzp : plainC C inv z = true := by rcases hz with rfl | rfl <;> assumption
     refine vc_mono z (fun e s' h' => ?_) (vc_pl z (fun i hi => hav_any _ _ i (hzw i hi)) hzp (hav_fr _ _) hv)
     cases e with
     | normal => exact ⟨leQ_le h'.2 h'.1.1, h'.1.2⟩
     | exit id => exact h'.1
     | ret => exact h'.1
    | false =>
    rw [hpb, Bool.or_false] at hv
    cases hb : frzFree C x && frzFree C y && noRows (hav (writes x ++ writes y) s).T with
    | false =>
     rw [hb] at hv
     exact hv
    | true =>
     rw [hb] at hv
     obtain ⟨hf, hn⟩ := Bool.and_eq_true_iff.1 hb
     obtain ⟨hfx, hfy⟩ := Bool.and_eq_true_iff.1 hf
     have hh := Hid.hav hn
     have hzw : ∀ i ∈ writes z, i ∈ writes x ++ writes y := by
      intro i hi
      rcases hz with rfl | rfl
      ·exact List.mem_append.2 (.inl hi)
      ·exact List.mem_append.2 (.inr hi)
     have hzf : frzFree C z = true := by rcases hz with rfl | rfl <;> assumption
     refine vc_mono z (fun e s' h' => ?_) (vc_fr z (hh.mono hzw) hzf (hav_fr _ _) hv)
     cases e with
     | normal => exact ⟨leQ_le h'.2 h'.1.1, h'.1.2⟩
     | exit id => exact h'.1
     | ret => exact h'.1
   split at h
   ·rename_i t hev
    rw [hev] at hc
    have ec := ar_val hc
    cases t with
    | true => exact wp_cond_true ec (ihx _ Q σ s a w hst.1 r (low x (.inl rfl) h) hQ2)
    | false => exact wp_cond_false ec (ihy _ Q σ s a w hst.2 r (low y (.inr rfl) h) hQ2)
   ·exact h.elim
 | block id c ih =>
  intro K Q σ s a w hst r h hQ
  refine wp_block (ih _ _ σ s a w hst r h ?_)
  intro e s' σ' a' w' r' hk
  cases e with
  | normal => exact hQ .normal s' σ' a' w' r' hk
  | ret => exact hQ .ret s' σ' a' w' r' hk
  | exit id' =>
   simp only at hk
   simp only [Ex.up, Exit.inBlock]
   rcases beq_cases id' id with ⟨hb, rfl⟩ | ⟨hb, hn⟩
   ·rw [hb] at hk
    rw [if_pos rfl]
    exact hQ .normal s' σ' a' w' r' hk
   ·rw [hb] at hk
    rw [if_neg hn]
    exact hQ (.exit id') s' σ' a' w' r' hk
 | loop c ih =>
  intro K Q σ s a w hst r h hQ
  simp only [vc] at h
  split at h
  ·exact h.elim
  ·rename_i v _
   have key : (le s (v.shape (writes c) s (v.abs s)) ∧ v.I s (v.abs s)) ∧ ∀ x, v.I s x → vc C inv c (fun e s' => match e with
     | .normal => le s' (v.shape (writes c) s (v.abs s')) ∧ v.I s (v.abs s') ∧ v.μ (v.abs s') < v.μ x
     | e => K e s') (v.shape (writes c) s x) := by
    cases hb : frzFree C c && noRows (hav (writes c) s).T with
    | false =>
     rw [hb] at h
     exact ⟨h.1, fun x hx => (h.2 x hx).2⟩
    | true =>
     rw [hb] at h
     simp only [cond_true] at h
     obtain ⟨hf, hn⟩ := Bool.and_eq_true_iff.1 hb
     refine ⟨⟨leQ_le (hav_fr _ _) h.1.1, h.1.2⟩, fun x hx => ?_⟩
     have hh := Hid.hav hn
     refine vc_mono c (fun e s' h' => ?_) (vc_fr c hh hf (Fr.setAll hh (hav_row hn) _ ⟨rfl, fun i y hy => .inr hy⟩ (h.2 x hx).1) (h.2 x hx).2)
     cases e with
     | normal => exact ⟨leQ_le h'.2 h'.1.1, h'.1.2⟩
     | _ => exact h'.1
   obtain ⟨⟨hle, hI⟩, hround⟩ := key
   refine wp_loop_rel (fun n a w => ∃ x σ, n = v.μ x ∧ v.I s x ∧ Rel w0 F σ (v.shape (writes c) s x) a w) ?_ (v.μ (v.abs s)) a w ⟨v.abs s, σ, rfl, hI, le_sound r hle⟩
   rintro n a w ⟨x, σ, rfl, hx, r'⟩
   refine ih _ _ σ _ a w hst r' (hround x hx) ?_
   intro e s' σ' a' w' r'' hk
   cases e with
   | normal =>
    obtain ⟨k1, k2, k3⟩ := hk
    exact ⟨_, k3, v.abs s', σ', rfl, k2, le_sound r'' k1⟩
   | exit id => exact hQ (.exit id) s' σ' a' w' r'' hk
   | ret => exact hQ .ret s' σ' a' w' r'' hk
 | exit id => intro K Q σ s a w _ r h hQ; exact wp_exit (hQ (.exit id) s σ a w r h)
 | ret => intro K Q σ s a w _ r h hQ; exact wp_ret (hQ .ret s σ a w r h)
 | _ => intro K Q σ s a w _ r h hQ; exact h.elim
end Go.Vg
namespace Go.Vg
open Go Go.RowKit
def resAV (s : St) : ResultVar → AV
 | .tmp i => s.T.getD i .any
 | .cell _ _ => .any
def resV (tab : Tab) (s : St) (t : TypeId) : ResultVar → Prop × D
 | .tmp i => match reref (s.T.getD i .any) with
  | .d x => (x.isTup = false, castD tab t x)
  | _ => (False, default)
 | .cell i ty => match s.T.getD i .any with
  | .ptr b p => match look s.M b with
   | some (.fix x) => ((tg tab ty).size ≠ 0 ∧ (sk (getP x p)).size = (tg tab ty).size ∧ (getP x p).isAgg = (tg tab ty).ty.agg, getP x p)
   | _ => (False, default)
  | _ => (False, default)
def resAll (tab : Tab) (s : St) : List ResultVar → List TypeId → Prop × List D
 | [], _ => (True, [])
 | r :: rs, ts => ((resV tab s (ts.headD 0) r).1 ∧ (resAll tab s rs ts.tail).1, (resV tab s (ts.headD 0) r).2 :: (resAll tab s rs ts.tail).2)
def mkD : List D → D
 | [d] => d
 | ds => .tup ds
def post (C : Ctx) (rs : List ResultVar) (ts : List TypeId) (want : D) (s : St) : Prop :=
 match frzArgs (rs.map (resAV s)) s with
 | s' => match resAll C.tab s' rs ts with
  | (c, ds) => c ∧ mkD ds = want
def fin (C : Ctx) (rs : List ResultVar) (ts : List TypeId) (want : D) : Ex → St → Prop
 | .normal, s => post C rs ts want s
 | .ret, s => post C rs ts want s
 | .exit _, _ => False
section
variable {P : Program} {C : Ctx} {w0 : World} {F : Env} {σ : Sg} {s : St} {a : Act} {w : World}
theorem resV_sound (T : TabOk P C.tab) (r : Rel w0 F σ s a w) {t : TypeId} {rv : ResultVar} (h : (resV C.tab s t rv).1) :
  ∃ v, ((match rv with
   | .tmp i => pure (a.tmps.getD i undef)
   | .cell i ty => do loadVar ty (← asAddr (a.tmps.getD i undef)) : Sem Value)).run P w = .ok v w ∧ VR1 w (Xs σ s.M w) (resV C.tab s t rv).2 v := by
 cases rv with
 | tmp i =>
  have hx := ev_sound r (.tmp i)
  simp only [resV] at h ⊢
  simp only [evA, Act.eval] at hx
  have hx := reref_sound hx
  split at h
  ·rename_i x hT
   rw [hT] at hx
   exact ⟨_, rfl, castD_sound (VR.one hx h)⟩
  ·exact h.elim
 | cell i ty =>
  have hx := ev_sound r (.tmp i)
  simp only [resV] at h ⊢
  simp only [evA, Act.eval] at hx
  split at h
  ·rename_i b p hT
   rw [hT] at hx
   obtain ⟨x, β, hb, hσ, hp, hv⟩ := hx
   simp only [hb] at h ⊢
   obtain ⟨hs0, hs, ha⟩ := h
   obtain ⟨β', cs, e, hσ', _, hh, hcr⟩ := r.mem b _ hb
   rw [hσ] at hσ'
   obtain rfl := Option.some.inj hσ'
   obtain ⟨us, hu, hcells⟩ := ptr_cells hh hcr hp
   obtain ⟨v, hrun, hvr⟩ := run_load T hs0 hs ha hu hcells
   refine ⟨v, ?_, hvr⟩
   simp only [hv, asAddr, Sem.run_bind, Sem.run_pure, Result.andThen_ok, hrun]
  ·exact h.elim
theorem resAll_sound (T : TabOk P C.tab) (r : Rel w0 F σ s a w) : ∀ (rs : List ResultVar) (ts : List TypeId), (resAll C.tab s rs ts).1 →
  ∃ vs : List Value, (∀ g : ResultVar → Sem Value, (∀ i, g (.tmp i) = pure (a.tmps.getD i undef)) → (∀ i ty, g (.cell i ty) = (do loadVar ty (← asAddr (a.tmps.getD i undef)))) → (rs.mapM g).run P w = .ok vs w) ∧
   All2 (VR1 w (Xs σ s.M w)) (resAll C.tab s rs ts).2 vs
 | [], ts, _ => ⟨[], fun g _ _ => by simp, .nil⟩
 | rv :: rs, ts, h => by
  simp only [resAll] at h ⊢
  obtain ⟨v, h1, h2⟩ := resV_sound T r h.1
  obtain ⟨vs, h3, h4⟩ := resAll_sound T r rs ts.tail h.2
  refine ⟨v :: vs, fun g g1 g2 => ?_, .cons h2 h4⟩
  have h3 := h3 g g1 g2
  rw [List.mapM_cons]
  have h1' : (g rv).run P w = .ok v w := by
   cases rv with
   | tmp i => rw [g1]; exact h1
   | cell i ty => rw [g2]; exact h1
  simp only [Sem.run_bind, h1', Result.andThen_ok, h3, Sem.run_pure]
theorem post_sound {fn : Func} {ts : List TypeId} {want : D} (T : TabOk P C.tab) (r : Rel w0 F σ s a w) (h : post C fn.results.toList ts want s) :
  ∃ v, (results fn a.tmps).run P w = .ok v w ∧ VR w (fun β => F.ok β ∧ β < w.heap.size) want v := by
 unfold post at h
 have r' := r.frzArgs (fn.results.toList.map (resAV s))
 obtain ⟨h1, h2⟩ := h
 obtain ⟨vs, hrun, hall⟩ := resAll_sound T r' _ _ h1
 have hX : ∀ β, Xs σ (frzArgs (fn.results.toList.map (resAV s)) s).M w β → (F.ok β ∧ β < w.heap.size) ∧ w.heap[β]? = w.heap[β]? := fun β hβ => ⟨⟨by rw [← r.okn.2.1]; exact hβ.2.1, hβ.1⟩, rfl⟩
 have hall' := hall.mono fun d v hv => VR1.mono hX d v hv
 refine ⟨if h : vs.toArray.size = 1 then vs.toArray[0] else .tuple vs.toArray, ?_, ?_⟩
 ·unfold results
  rw [Array.mapM_eq_mapM_toList]
  simp only [Sem.run_bind, map_eq_pure_bind]
  rw [hrun _ (fun _ => rfl) (fun _ _ => rfl)]
  simp only [Result.andThen_ok, Sem.run_pure]
 ·generalize (resAll C.tab (frzArgs (fn.results.toList.map (resAV s)) s) fn.results.toList ts).2 = ds at h2 hall'
  rw [← h2]
  cases hall' with
  | nil => exact ⟨[], rfl, .nil⟩
  | cons q1 q2 =>
   cases q2 with
   | nil => exact VR1.up q1
   | cons q2 q3 => exact ⟨_, rfl, .cons q1 (.cons q2 q3)⟩
end
theorem meets_of_vc {P : Program} {C : Ctx} (K : CtxOk P C) (hm : P.follows .mixedOrders = true) {f : FuncId} {fn : Func} {c : Code} (hf : P.funcs[f]? = some fn) (hb : fn.body = some c) (hname : (fn.name == "runtime.NumGoroutine") = false)
  (hst : statOK C c = true) (sp : Spec) (inv : List D → Nat → Option Inv)
  (h : ∀ ds, sp.pre ds → (sp.flat = true → flatD (sp.f ds) = true) ∧ vc C (inv ds) c (fin C fn.results.toList fn.resultTypes.toList (sp.f ds)) ⟨ds.map .d ++ List.replicate (fn.ntmps - ds.length) .any, []⟩) : Meets P f sp := by
 intro ds hpre
 obtain ⟨h1, h2⟩ := h ds hpre
 refine ⟨h1, fun X w vs hgw hvs => ?_⟩
 have hlen := hvs.len
 unfold UponCall
 have hcall : (callFunc f vs.toArray).run P w = .ok (.enter f vs.toArray) w := by
  have hn : ¬ fn.name = "runtime.NumGoroutine" := by simpa using hname
  simp [callFunc, program, Sem.run, hf, hn, hb]
 rw [hcall]
 simp only
 refine calls_of_wp hf hb ?_
 let F : Env := ⟨fun _ _ => False, fun β => X β ∨ w.heap.size ≤ β⟩
 have r0 : Rel w F ⟨fun _ => none, fun _ => undef, F.ok⟩ ⟨ds.map .d ++ List.replicate (fn.ntmps - ds.length) .any, []⟩ { tmps := vs.toArray ++ Array.replicate (fn.ntmps - vs.toArray.size) undef, defers := [] } w := by
  refine ⟨rfl, by simp [hlen], fun i x hx => ?_, fun b k hk => by simp [look] at hk, fun b b' k k' β h1 => by simp [look] at h1, fun b fs i r h => by simp [look] at h, Frm.refl _ w, fun β hβ => .inr hβ, rfl, hgw.mono fun _ h _ => .inl h, fun _ _ _ _ h => h⟩
  simp only at hx ⊢
  rcases Nat.lt_or_ge i ds.length with hi | hi
  ·rw [List.getElem?_append_left (by simpa using hi)] at hx
   simp only [List.getElem?_map, Option.map_eq_some_iff] at hx
   obtain ⟨d, hd, rfl⟩ := hx
   obtain ⟨v, hv, hvr⟩ := hvs.get i d hd
   refine ⟨v, ?_, VR.mono (fun β hβ => ⟨⟨hβ.2, .inl hβ.1, fun b x hb => by simp [look] at hb⟩, rfl⟩) d v hvr⟩
   rw [Array.getElem?_append_left (by simp; omega)]
   simpa using hv
  ·rw [List.getElem?_append_right (by simpa using hi), List.getElem?_replicate] at hx
   split at hx
   ·rename_i hlt
    obtain rfl := Option.some.inj hx
    refine ⟨undef, ?_, trivial⟩
    rw [Array.getElem?_append_right (by simp; omega), Array.getElem?_replicate, if_pos (by simp only [List.length_map] at hlt; simp; omega)]
   ·cases hx
 refine vc_sound K hm c _ _ _ _ _ _ hst r0 h2 ?_
 intro e s' σ' a' w' r' hk
 have go : post C fn.results.toList fn.resultTypes.toList (sp.f ds) s' → a'.defers = [] ∧ ∃ v, (results fn a'.tmps).run P w' = .ok v w' ∧ ∃ u, Ending.returned v = .returned u ∧ Grow w w' ∧ VR w' (fun β => (X β ∨ w.heap.size ≤ β) ∧ β < w'.heap.size) (sp.f ds) u := by
  intro hp
  obtain ⟨v, hrun, hvr⟩ := post_sound K.1 r' hp
  exact ⟨r'.defs, v, hrun, v, rfl, ⟨r'.frm.os, r'.frm.tape, r'.frm.output, r'.frm.size, fun k hk => r'.frm.block k hk (fun ⟨_, h⟩ => h)⟩, hvr⟩
 cases e with
 | normal => exact go hk
 | ret => exact go hk
 | exit id => exact hk.elim
end Go.Vg
namespace Go.Vg
open Go Go.RowKit
def vEq : Value → Value → Bool
 | .bool a, .bool b => a == b
 | .int k a, .int k' b => decide (k = k') && decide (a = b)
 | .float k a, .float k' b => decide (k = k') && Nat.beq a b
 | .string s, .string t => decide (s.data.toList = t.data.toList)
 | .pointer none, .pointer none => true
 | .slice none a b, .slice none c d => Nat.beq a c && Nat.beq b d
 | .map none, .map none => true
 | .chan none, .chan none => true
 | .nilFunc, .nilFunc => true
 | .nilIface, .nilIface => true
 | _, _ => false
theorem vEq_eq {a b : Value} (h : vEq a b = true) : a = b := by
 unfold vEq at h
 split at h <;> first
  | rfl
  | cases h
  | (simp only [Bool.and_eq_true, decide_eq_true_eq, beq_iff_eq, Nat.beq_eq] at h; first | (obtain ⟨h1, h2⟩ := h; rw [h1, h2]) | rw [h])
  | skip
 rename_i s t
 have h' := of_decide_eq_true h
 congr 1
 apply ByteArray.ext
 exact Array.toList_inj.1 h'
def vsEq : List Value → List Value → Bool
 | [], [] => true
 | a :: as, b :: bs => vEq a b && vsEq as bs
 | _, _ => false
theorem vsEq_eq : ∀ {as bs : List Value}, vsEq as bs = true → as = bs
 | [], [], _ => rfl
 | [], _ :: _, h => by cases h
 | _ :: _, [], h => by cases h
 | a :: as, b :: bs, h => by
  simp only [vsEq, Bool.and_eq_true] at h
  rw [vEq_eq h.1, vsEq_eq h.2]
def zeroB (d : D) (z : Value) : Bool :=
 match zC d with
 | none => false
 | some vs => match z with
  | .agg cs => d.isAgg && vsEq vs cs.toList
  | v => !d.isAgg && vsEq vs [v]
theorem zeroB_VR {d : D} {z : Value} (h : zeroB d z = true) (w : World) (X : Nat → Prop) : VR1 w X d z := by
 unfold zeroB at h
 split at h
 ·cases h
 ·rename_i vs hz
  have hc := zC_CR w X d vs hz
  split at h
  ·rename_i cs
   simp only [Bool.and_eq_true] at h
   have := vsEq_eq h.2
   have e : cs = vs.toArray := by rw [this]
   rw [e]
   exact VR1.of_agg hc h.1
  ·simp only [Bool.and_eq_true, Bool.not_eq_true'] at h
   rw [vsEq_eq h.2] at hc
   exact VR1.of_cell hc h.1
theorem zeroB_cells {d : D} {z : Value} (h : zeroB d z = true) : zC d = some z.cells.toList := by
 unfold zeroB at h
 split at h
 ·cases h
 ·rename_i vs hz
  split at h
  ·rename_i cs
   simp only [Bool.and_eq_true] at h
   have := vsEq_eq h.2
   rw [hz, this]
   rfl
  ·simp only [Bool.and_eq_true, Bool.not_eq_true'] at h
   rename_i hn
   rw [hz, vsEq_eq h.2]
   congr 1
   cases z <;> first | rfl | exact absurd rfl (hn _)
def fieldsB (tab : Tab) (zs : List D) : Nat → List (Nat × TypeId) → List Field → Bool
 | _, [], [] => true
 | i, (o, t) :: ts, f :: fs => Nat.beq f.offset o && Nat.beq f.type t && Nat.beq o (Sk.sizes ((sks zs).take i)) && !Nat.beq (tg tab t).size 0 && Nat.beq (sk (zs.getD i default)).size (tg tab t).size && fieldsB tab zs (i + 1) ts fs
 | _, _, _ => false
def descB (tab : Tab) (ti : TI) : Option TypeDesc → Bool
 | some (.int k) => (match ti.ty with | .int k' => decide (k' = k) && (match ti.zero with | .val (.int k2 n) => decide (k2 = k) && decide (n = 0) | _ => false) | _ => false)
 | some .bool => (match ti.ty with | .bool => true | _ => false)
 | some .string => (match ti.ty with | .str => true | _ => false)
 | some (.slice e) => (match ti.ty with | .slice e' => Nat.beq e' e | _ => false)
 | some (.array n e) => (match ti.ty with | .arr n' e' => Nat.beq n' n && Nat.beq e' e | _ => false)
 | some (.struct fa) => (match ti.ty with | .st ts => (match ti.zero with | .st zs => Nat.beq zs.length ts.length && fieldsB tab zs 0 ts fa.toList | _ => false) | _ => false)
 | some (.pointer e) => (match ti.ty with | .ptr e' => Nat.beq e' e | .other => true | _ => false)
 | some _ => (match ti.ty with | .other => true | _ => false)
 | none => false
def eqTB (P : Program) (t : TypeId) : Bool :=
 !P.stoodInHeld t && !P.eqGuardType P.depth t && (match P.underlying t with | some (.struct fa) => fa.toList.all fun f => !(f.name == "_") | _ => false)
def rowB (P : Program) (tab : Tab) (t : TypeId) : Bool :=
 match P.info? t with
 | none => false
 | some i => match i.zero with
  | none => false
  | some z => Nat.beq i.size (tg tab t).size && Nat.beq i.bytes (tg tab t).bytes && zeroB (tg tab t).zero z && Nat.beq (sk (tg tab t).zero).size (tg tab t).size && descB tab (tg tab t) (P.underlying t) && (!(tg tab t).eq || eqTB P t)
def hasB (ti : TI) : Bool := !Nat.beq ti.size 0 || (match ti.ty with | .other => false | _ => true)
def tabB (P : Program) (tab : Tab) : Bool := (List.range tab.length).all fun t => !hasB (tg tab t) || rowB P tab t
theorem fieldsB_get {tab : Tab} {zs : List D} : ∀ (ts : List (Nat × TypeId)) (fs : List Field) (k : Nat), fieldsB tab zs k ts fs = true → fs.length = ts.length ∧ ∀ i o t', ts[i]? = some (o, t') → ∃ f, fs[i]? = some f ∧ f.offset = o ∧ f.type = t' ∧ o = Sk.sizes ((sks zs).take (k + i)) ∧ (tg tab t').size ≠ 0 ∧ (sk (zs.getD (k + i) default)).size = (tg tab t').size
 | [], [], k, _ => ⟨rfl, fun i o t' h => by simp at h⟩
 | [], _ :: _, k, h => by cases h
 | _ :: _, [], k, h => by cases h
 | (o, t) :: ts, f :: fs, k, h => by
  simp only [fieldsB, Bool.and_eq_true, Nat.beq_eq, Bool.not_eq_true'] at h
  obtain ⟨⟨⟨⟨⟨h1, h2⟩, h3⟩, h4⟩, h5⟩, h6⟩ := h
  obtain ⟨hl, hg⟩ := fieldsB_get ts fs (k + 1) h6
  refine ⟨by simp [hl], fun i o' t' hi => ?_⟩
  cases i with
  | zero =>
   simp only [List.getElem?_cons_zero, Option.some.injEq, Prod.mk.injEq] at hi
   obtain ⟨rfl, rfl⟩ := hi
   exact ⟨f, rfl, h1, h2, by simpa using h3, fun h0 => by rw [h0] at h4; simp at h4, by simpa using h5⟩
  | succ i =>
   have := hg i o' t' (by simpa using hi)
   rw [show k + 1 + i = k + (i + 1) from by omega] at this
   simpa using this
theorem rowB_ok {P : Program} {tab : Tab} {t : TypeId} (h : rowB P tab t = true) : RowOk P tab t := by
 unfold rowB at h
 split at h
 ·cases h
 ·rename_i i hi
  split at h
  ·cases h
  ·rename_i z hz
   simp only [Bool.and_eq_true, Nat.beq_eq] at h
   obtain ⟨⟨⟨⟨⟨h1, h2⟩, h3⟩, h4⟩, h5⟩, h6⟩ := h
   have hu : ∃ d, P.underlying t = some d := by
    cases hd : P.underlying t with
    | none => rw [hd] at h5; cases h5
    | some d => exact ⟨d, rfl⟩
   obtain ⟨d, hd⟩ := hu
   rw [hd] at h5
   refine ⟨⟨i, z, hi, h1, h2, hz, fun w X => zeroB_VR h3 w X⟩, ⟨i, z, hi, hz, zeroB_cells h3⟩, h4, ?_, ?_, ?_, ?_, ?_, ?_, ?_, ?_, ?_, ?_⟩
   ·intro k hk
    cases d <;> simp [descB, hk] at h5
    rw [hd, h5.1]
   ·intro k hk
    cases d <;> simp only [descB, hk] at h5 <;> first | cases h5 | skip
    simp only [Bool.and_eq_true, decide_eq_true_eq] at h5
    obtain ⟨rfl, h5⟩ := h5
    split at h5
    ·rename_i k2 n hzz
     simp only [Bool.and_eq_true, decide_eq_true_eq] at h5
     rw [hzz, h5.1, h5.2]
    ·cases h5
   ·intro hk
    cases d <;> simp [descB, hk] at h5
    exact hd
   ·intro hk
    cases d <;> simp [descB, hk] at h5
    exact hd
   ·intro e hk
    cases d <;> simp [descB, hk] at h5
    rw [hd, h5]
   ·intro n e hk
    cases d <;> simp [descB, hk] at h5
    rw [hd, h5.1, h5.2]
   ·intro ts hk
    cases d <;> simp only [descB, hk] at h5 <;> first | cases h5 | skip
    rename_i fa
    split at h5
    ·rename_i zs hzz
     simp only [Bool.and_eq_true, Nat.beq_eq] at h5
     obtain ⟨hl, hg⟩ := fieldsB_get ts fa.toList 0 h5.2
     refine ⟨fa, zs, hd, hzz, h5.1, by simpa using hl, fun i o t' hi' => ?_⟩
     obtain ⟨f, hf, rest⟩ := hg i o t' hi'
     rw [Nat.zero_add] at rest
     exact ⟨f, by simpa using hf, rest⟩
    ·cases h5
   ·intro e hk
    cases d <;> simp [descB, hk] at h5
    rw [hd, h5]
   ·intro he
    rw [he] at h6
    simp only [Bool.not_true, Bool.false_or, eqTB, Bool.and_eq_true, Bool.not_eq_true'] at h6
    refine ⟨h6.1.1, h6.1.2, fun fa hfa f hf => ?_⟩
    have h7 := h6.2
    rw [hfa] at h7
    simp only [List.all_eq_true] at h7
    have := h7 f hf
    intro e
    rw [e] at this
    simp at this
   ·refine ⟨d, hd, ?_⟩
    cases hty : (tg tab t).ty <;> cases d <;> first | rfl | (simp [descB, hty] at h5; done) | skip
theorem tabB_ok {P : Program} {tab : Tab} (h : tabB P tab = true) : TabOk P tab := by
 intro t ht
 have hlt : t < tab.length := by
  rcases Nat.lt_or_ge t tab.length with h' | h'
  ·exact h'
  ·have e : tg tab t = ⟨.other, 0, 0, default, false⟩ := by unfold tg; rw [List.getD_eq_getElem?_getD, List.getElem?_eq_none h']; rfl
   rcases ht with h0 | h0
   ·rw [e] at h0; exact absurd rfl h0
   ·rw [e] at h0; exact absurd rfl h0
 have hb : hasB (tg tab t) = true := by
  unfold hasB
  rcases ht with h0 | h0
  ·have : Nat.beq (tg tab t).size 0 = false := by
    rcases beq_cases (tg tab t).size 0 with ⟨_, hb⟩ | ⟨hb, _⟩
    ·exact absurd hb h0
    ·exact hb
   simp [this]
  ·cases hty : (tg tab t).ty <;> first | exact absurd hty h0 | simp
 unfold tabB at h
 rw [List.all_eq_true] at h
 have := h t (List.mem_range.2 hlt)
 rw [hb] at this
 exact rowB_ok (by simpa using this)
end Go.Vg
