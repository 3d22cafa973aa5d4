/- Vg, part L: a region that draws its order. -/
import Derived.Test.YtcdjhhepgkcabaaDoorVgK
namespace Go.Vg
open Go Go.RowKit

def remI (n : Nat) (listed : Array Bool) : List Nat := (List.range n).filter fun i => !listed.getD i true

def opsAt (ops : List Oper) (is : List Nat) : List Oper := is.filterMap (ops[·]?)

def Closed (ops : List Oper) (listed : Array Bool) : Prop :=
  ∀ k o e, ops[k]? = some o → listed.getD k false = true → e ∈ o.after.toList → Region.binds .any e = true → listed.getD e.on false = true

theorem mask_listed {ops : List Oper} {listed : Array Bool} (hcl : Closed ops listed) : ∀ (i : Nat) (o : Oper) (j : Nat), ops[i]? = some o → (∀ e ∈ o.after.toList, Region.binds .any e = true → listed.getD e.on false = true) →
    ((masks ops []).getD i 0).testBit j = true → listed.getD j false = true := by
  intro i
  induction i using Nat.strongRecOn with
  | _ i ih =>
    intro o j ho hd hm
    have hat := masks_at ops [] i o ho
    simp only [List.length_nil, Nat.zero_add] at hat
    rw [hat] at hm
    unfold maskOf at hm
    rcases fold_mask _ j _ _ hm with h | ⟨e, he, hb, h⟩
    · simp at h
    · rcases h with rfl | h
      · exact hd e he hb
      · have hl := hd e he hb
        by_cases hlt : e.on < i
        · have hget : ((masks ops []).take i).getD e.on 0 = (masks ops []).getD e.on 0 := by
            simp only [List.getD_eq_getElem?_getD, List.getElem?_take, hlt, if_true]
          rw [hget] at h
          cases hoe : ops[e.on]? with
          | none =>
            have : (masks ops []).length ≤ e.on := by
              rw [masks_len]
              have := List.getElem?_eq_none_iff.1 hoe
              simpa using this
            rw [List.getD_eq_getElem?_getD, List.getElem?_eq_none this] at h
            simp at h
          | some oe => exact ih e.on hlt oe j hoe (fun e' he' hb' => hcl e.on oe e' hoe hl he' hb') h
        · have : ((masks ops []).take i).getD e.on 0 = 0 := by
            rw [List.getD_eq_getElem?_getD, List.getElem?_eq_none (by simp; omega)]
            rfl
          rw [this] at h
          simp at h

theorem range_split (n i : Nat) (h : i < n) : List.range n = List.range i ++ i :: List.range' (i + 1) (n - i - 1) := by
  rw [List.range_eq_range', List.range_eq_range', show n = i + (1 + (n - i - 1)) from by omega]
  rw [← List.range'_append_1]
  congr 1
  rw [Nat.zero_add, Nat.add_comm 1, List.range'_succ]
  congr 2
  omega

theorem getD_true {listed : Array Bool} {i : Nat} (h : i < listed.size) (d : Bool) : listed.getD i d = listed.getD i true := by
  simp [Array.getD_eq_getD_getElem?, h]

theorem region_any {P : Program} {C : Ctx} (K : CtxOk P C) {w0 : World} {F : Env} {ops : List Oper} {Q : Exit → Act → World → Prop} (hok : regionOK C ops = true) : ∀ (fuel : Nat) (listed : Array Bool) (σ : Sg) (s : St) (a : Act) (w : World), listed.size = ops.length →
    fuel = (remI ops.length listed).length → Closed ops listed → Rel w0 F σ s a w → (foldI C ops (opsAt ops (remI ops.length listed)) s).1 → (∀ σ' a' w', Rel w0 F σ' (foldI C ops (opsAt ops (remI ops.length listed)) s).2 a' w' → Q .normal a' w') →
    wpAny P .any ops.toArray Q fuel listed a w := by
  have hok' : ∀ i oi, ops[i]? = some oi → (∀ e ∈ oi.after.toList, Region.binds .any e = true → e.on < i) ∧ ∀ j oj, j < i → ops[j]? = some oj → ((masks ops []).getD i 0).testBit j = true ∨ commOK C ops oj oi = true := by
    intro i oi hi
    have hlt : i < ops.length := (List.getElem?_eq_some_iff.1 hi).1
    unfold regionOK pairsOK at hok
    rw [List.all_eq_true] at hok
    have h := hok i (List.mem_range.2 hlt)
    rw [hi] at h
    simp only [Bool.and_eq_true] at h
    obtain ⟨h1, h2⟩ := h
    rw [List.all_eq_true] at h1 h2
    refine ⟨fun e he hb => ?_, fun j oj hj hoj => ?_⟩
    · have := h1 e he
      rw [hb] at this
      simpa [Nat.blt_eq] using this
    · have := h2 j (List.mem_range.2 hj)
      rw [hoj] at this
      simpa using this
  have hready : ∀ listed i, i ∈ Region.ready .any ops.toArray listed ↔ listed.getD i true = false ∧ ∃ o, ops[i]? = some o ∧ ∀ e ∈ o.after.toList, Region.binds .any e = true → listed.getD e.on false = true := by
    intro listed i
    rw [mem_ready]
    simp only [List.getElem?_toArray, Array.mem_toList_iff]
  intro fuel
  induction fuel with
  | zero =>
    intro listed σ s a w hsz hf hcl r hc h
    have hrem : remI ops.length listed = [] := List.eq_nil_of_length_eq_zero hf.symm
    rw [hrem] at h
    refine ⟨?_, h σ a w r⟩
    apply List.eq_nil_iff_forall_not_mem.2
    intro i hi
    obtain ⟨hun, o, ho, _⟩ := (hready listed i).1 hi
    have hlt : i < ops.length := (List.getElem?_eq_some_iff.1 ho).1
    have : i ∈ remI ops.length listed := List.mem_filter.2 ⟨List.mem_range.2 hlt, by rw [hun]; rfl⟩
    rw [hrem] at this
    cases this
  | succ fuel ih =>
    intro listed σ s a w hsz hf hcl r hc h
    refine ⟨fun hr => ?_, fun i hi => ?_⟩
    · exfalso
      cases hrem : remI ops.length listed with
      | nil => rw [hrem] at hf; cases hf
      | cons i rest =>
        have hmem : i ∈ remI ops.length listed := by rw [hrem]; simp
        obtain ⟨hir, hun⟩ := List.mem_filter.1 hmem
        have hlt := List.mem_range.1 hir
        have hoi : ops[i]? = some ops[i] := List.getElem?_eq_getElem hlt
        have hin : i ∈ Region.ready .any ops.toArray listed := by
          refine (hready listed i).2 ⟨by simpa using hun, ops[i], hoi, fun e he hb => ?_⟩
          have hlt' := (hok' i _ hoi).1 e he hb
          cases hl : listed.getD e.on false with
          | true => rfl
          | false =>
            exfalso
            have hun' : listed.getD e.on true = false := by rw [← getD_true (by omega) false]; exact hl
            -- the first that is left is i: none smaller is left
            have hsplit := range_split ops.length i hlt
            unfold remI at hrem
            rw [hsplit, List.filter_append] at hrem
            have hin' : e.on ∈ (List.range i).filter fun i => !listed.getD i true := List.mem_filter.2 ⟨List.mem_range.2 hlt', by rw [hun']; rfl⟩
            cases hp : (List.range i).filter fun i => !listed.getD i true with
            | nil => rw [hp] at hin'; cases hin'
            | cons q qs =>
              rw [hp] at hrem
              have hq : q = i := by simpa using (List.cons.inj hrem).1
              have : q ∈ (List.range i).filter fun i => !listed.getD i true := by rw [hp]; simp
              have := List.mem_range.1 (List.mem_filter.1 this).1
              omega
        rw [hr] at hin
        cases hin
    · obtain ⟨hun, oi, hoi, hdir⟩ := (hready listed i).1 hi
      have hlt : i < ops.length := (List.getElem?_eq_some_iff.1 hoi).1
      have hsplit := range_split ops.length i hlt
      have hrem : remI ops.length listed = (List.range i).filter (fun i => !listed.getD i true) ++ i :: (List.range' (i + 1) (ops.length - i - 1)).filter (fun i => !listed.getD i true) := by
        unfold remI
        rw [hsplit, List.filter_append, List.filter_cons]
        simp [hun]
      have hset : ∀ k, k ≠ i → (listed.setIfInBounds i true).getD k true = listed.getD k true := fun k hk => getD_set_ne true (Ne.symm hk)
      have hrem' : remI ops.length (listed.setIfInBounds i true) = (List.range i).filter (fun i => !listed.getD i true) ++ (List.range' (i + 1) (ops.length - i - 1)).filter (fun i => !listed.getD i true) := by
        unfold remI
        rw [hsplit, List.filter_append, List.filter_cons]
        have h1 : (listed.setIfInBounds i true).getD i true = true := by
          have hsi : i < listed.size := by omega
          simp [Array.getD_eq_getD_getElem?, Array.getElem?_setIfInBounds, hsi]
        simp only [h1, Bool.not_true, Bool.false_eq_true, if_false]
        congr 1
        · refine List.filter_congr fun k hk => ?_
          have := List.mem_range.1 hk
          rw [hset k (by omega)]
        · refine List.filter_congr fun k hk => ?_
          have := List.mem_range'_1.1 hk
          rw [hset k (by omega)]
      have hops : opsAt ops (remI ops.length listed) = opsAt ops ((List.range i).filter (fun i => !listed.getD i true)) ++ oi :: opsAt ops ((List.range' (i + 1) (ops.length - i - 1)).filter (fun i => !listed.getD i true)) := by
        rw [hrem]
        unfold opsAt
        rw [List.filterMap_append, List.filterMap_cons]
        simp only [hoi]
      have hops' : opsAt ops (remI ops.length (listed.setIfInBounds i true)) = opsAt ops ((List.range i).filter (fun i => !listed.getD i true)) ++ opsAt ops ((List.range' (i + 1) (ops.length - i - 1)).filter (fun i => !listed.getD i true)) := by
        rw [hrem']
        unfold opsAt
        rw [List.filterMap_append]
      rw [hops] at hc h
      have hcomm : ∀ x ∈ opsAt ops ((List.range i).filter (fun i => !listed.getD i true)), commOK C ops x oi = true := by
        intro x hx
        unfold opsAt at hx
        obtain ⟨j, hj, hxj⟩ := List.mem_filterMap.1 hx
        obtain ⟨hjr, hjun⟩ := List.mem_filter.1 hj
        have hji := List.mem_range.1 hjr
        rcases (hok' i oi hoi).2 j x hji hxj with h | h
        · exfalso
          have := mask_listed hcl i oi j hoi hdir h
          rw [getD_true (by omega) false] at this
          rw [this] at hjun
          cases hjun
        · exact h
      obtain ⟨b1, b2, b3⟩ := bubble _ _ s hcomm hc
      refine wpOp_mono ?_ (step1_sound K r hoi b1 Q)
      rintro a' w' ⟨σ', r'⟩
      refine ih (listed.setIfInBounds i true) σ' _ a' w' (by simpa using hsz) ?_ ?_ r' (by rw [hops']; exact b2) (fun σ'' a'' w'' r'' => h σ'' a'' w'' (by rw [← b3, ← hops']; exact r''))
      · rw [hrem'] ; rw [hrem] at hf; simp only [List.length_append, List.length_cons] at hf ⊢; omega
      · intro k o e hk hl he hb
        by_cases hki : k = i
        · subst hki
          rw [hoi] at hk
          obtain rfl := Option.some.inj hk
          exact getD_set_true (hdir e he hb)
        · rw [getD_set_ne false (Ne.symm hki)] at hl
          exact getD_set_true (hcl k o e hk hl he hb)

theorem remI_none (n : Nat) : remI n (Array.replicate n false) = List.range n := by
  unfold remI
  rw [List.filter_eq_self]
  intro i hi
  have := List.mem_range.1 hi
  simp [Array.getD_eq_getD_getElem?, this]

theorem opsAt_range (ops : List Oper) : opsAt ops (List.range ops.length) = ops := by
  unfold opsAt
  apply List.ext_getElem?
  intro i
  have : ∀ (l : List Nat), (∀ k ∈ l, k < ops.length) → l.filterMap (ops[·]?) = l.map fun k => ops.getD k default := by
    intro l hl
    induction l with
    | nil => rfl
    | cons k l ih =>
      have hk := hl k (by simp)
      rw [List.filterMap_cons, List.getElem?_eq_getElem hk]
      simp [ih (fun k hk => hl k (by simp [hk])), List.getElem?_eq_getElem hk]
  rw [this _ (fun k hk => List.mem_range.1 hk)]
  rcases Nat.lt_or_ge i ops.length with h | h
  · simp [h]
  · simp [h]

/-- A region: in the text's order if it draws none; in whatever order if each pair is ordered or may change places. -/
theorem region_sound {P : Program} {C : Ctx} (K : CtxOk P C) (hm : P.follows .mixedOrders = true) {w0 : World} {F : Env} {σ : Sg} {s : St} {a : Act} {w : World} {id : Nat} {ops : Array Oper} {draw : Bool} {Q : Exit → Act → World → Prop} (r : Rel w0 F σ s a w)
    (hok : draw = true → regionOK C ops.toList = true) (hc : (foldI C ops.toList ops.toList s).1) (h : ∀ σ' a' w', Rel w0 F σ' (foldI C ops.toList ops.toList s).2 a' w' → Q .normal a' w') : (Code.region id ops draw).wp P Q a w := by
  cases draw with
  | false =>
    refine wp_region ?_
    have := region_seq (P := P) (Q := Q) K ops.toList 0 σ s a w (fun j => by simp) (by simp) r hc h
    simpa [List.range_eq_range'] using this
  | true =>
    refine wp_region_any hm ?_
    have := region_any (P := P) (Q := Q) K (hok rfl) ops.size (Array.replicate ops.size false) σ s a { w with drawn := w.drawn + 1 } (by simp) (by rw [← Array.length_toList, remI_none]; simp) (by
      intro k o e hk hl
      simp [Array.getD_eq_getD_getElem?, Array.getElem?_replicate] at hl
      split at hl <;> simp at hl) (r.grow ⟨rfl, rfl, rfl, Nat.le_refl _, fun _ _ => rfl⟩) (by
      rw [← Array.length_toList, remI_none, opsAt_range]; exact hc) (by
      rw [← Array.length_toList, remI_none, opsAt_range]; exact h)
    simpa using this

end Go.Vg
