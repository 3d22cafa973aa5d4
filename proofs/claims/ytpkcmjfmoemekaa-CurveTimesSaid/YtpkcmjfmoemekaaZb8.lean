/- Vg, part Q: what a law is handed, read as data; and a law's row out of its meaning. -/
import Derived.Test.YtpkcmjfmoemekaaZb7
import Derived.Carry
import Derived.DataReads
import Derived.ProofKit
import Derived.OpenShut
import Derived.SizedLaws
namespace Go.Vg
open Go Go.RowKit
def OkL (R : TypeId → D → Prop) : List (Nat × TypeId) → List D → Prop
 | [], [] => True
 | (_, t) :: fs, d :: ds => R t d ∧ OkL R fs ds
 | _, _ => False
def OkT (tab : Tab) : Nat → TypeId → D → Prop
 | 0, _, _ => False
 | n + 1, t, x => match (tg tab t).ty with
  | .int k => ∃ z, x = .val (.int k z) ∧ k.min ≤ z ∧ z ≤ k.max
  | .bool => ∃ b, x = .val (.bool b)
  | .str => ∃ l, x = .str l ∧ isBytes l ∧ l.length ≤ 140737488351232
  | .slice e => match (tg tab e).ty with
   | .int k => ∃ l, x = .ints k l ∧ (∀ z ∈ l, k.min ≤ z ∧ z ≤ k.max) ∧ l.length ≤ maxLen ∧ l.length * (tg tab e).bytes ≤ 140737488351232
   | _ => ∃ xs, x = .slc (tg tab e).size xs ∧ (∀ y ∈ xs, OkT tab n e y) ∧ xs.length ≤ maxLen ∧ xs.length * (tg tab e).bytes ≤ 140737488351232
  | .arr m e => match (tg tab e).ty with
   | .int k => ∃ l, x = .arr k m l ∧ l.length = m ∧ (∀ z ∈ l, k.min ≤ z ∧ z ≤ k.max)
   | _ => False
  | .st fs => ∃ ds, x = .st ds ∧ OkL (OkT tab n) fs ds
  | _ => False
def supB (tab : Tab) : Nat → TypeId → Bool
 | 0, _ => false
 | n + 1, t => match (tg tab t).ty with
  | .int _ => true
  | .bool => true
  | .str => true
  | .slice e => match (tg tab e).ty with
   | .int _ => Nat.beq (tg tab e).size 1
   | _ => !Nat.beq (tg tab e).size 0 && supB tab n e
  | .arr m e => match (tg tab e).ty with
   | .int _ => Nat.beq (tg tab e).size 1 && Nat.beq (tg tab t).size m
   | _ => false
  | .st fs => fs.all fun f => supB tab n f.2
  | _ => false
theorem cellsOf_eq {P : Program} {tab : Tab} (T : TabOk P tab) {t : TypeId} (h : Has tab t) : P.cellsOf t = (tg tab t).size := by
 obtain ⟨i, z, hi, hsz, _⟩ := (T t h).info
 simp [Program.cellsOf, hi, hsz]
theorem wf_range {k : IntKind} {z : Int} (h : (Lit.int k z).wf = true) : k.min ≤ z ∧ z ≤ k.max := by
 unfold Lit.wf at h
 simpa using h
theorem ints_length (s : ByteArray) : (ints s).length = s.size := by unfold ints; simp
section
variable {H : Type} {enc : TypeId × Value → H} {P : Program} {tab : Tab} {w : World} {sp : Nat → Bool} {held : Bool}
theorem elems_D {e : TypeId} {n sz : Nat} {a : Addr} (len : Nat)
  (h : ∀ i, i < len → ∃ d cs, CR w (fun β => β < w.heap.size) d cs ∧ OkT tab n e d ∧ cs.length = sz ∧ ∀ (j : Nat) (v : Value), cs[j]? = some v → w.cell? (a.add (i * sz + j)) = some v) :
  ∃ xs cs, xs.length = len ∧ ER w (fun β => β < w.heap.size) sz xs cs ∧ (∀ y ∈ xs, OkT tab n e y) ∧ ∀ (j : Nat) (v : Value), cs[j]? = some v → w.cell? (a.add j) = some v := by
 induction len with
 | zero => exact ⟨[], [], rfl, by simp [ER], (fun y hy => by cases hy), (fun j v hv => by simp at hv)⟩
 | succ len ih =>
  obtain ⟨xs, cs, h1, h2, h3, h4⟩ := ih fun i hi => h i (by omega)
  obtain ⟨d, ds, g1, g2, g3, g4⟩ := h len (by omega)
  have hl := ER.len _ _ h2
  refine ⟨xs ++ [d], cs ++ ds, by simp [h1], ER.append _ _ _ _ h2 (by simp only [ER]; exact ⟨ds, [], by simp, g3, g1, rfl⟩), ?_, ?_⟩
  ·intro y hy
   rcases List.mem_append.1 hy with hy | hy
   ·exact h3 y hy
   ·simp at hy; subst hy; exact g2
  ·intro j v hv
   rcases Nat.lt_or_ge j cs.length with hj | hj
   ·rw [List.getElem?_append_left hj] at hv
    exact h4 j v hv
   ·rw [List.getElem?_append_right hj] at hv
    have := g4 _ v hv
    rw [← h1, ← hl] at this
    rwa [show cs.length + (j - cs.length) = j from by omega] at this
theorem add_add (a : Addr) (i j : Nat) : (a.add i).add j = a.add (i + j) := by
 unfold Addr.add
 by_cases hi : i = 0 <;> by_cases hj : j = 0 <;> simp [hi, hj, Nat.add_assoc]
theorem spot_none {a : Addr} {v : Value} (h : w.cell? (a.add 0) = some v) : ∃ β o, a = ⟨β, o, none⟩ ∧ β < w.heap.size := by
 have e : a.add 0 = a := by unfold Addr.add; simp
 rw [e] at h
 have h1 := World.cell?_spot h
 have h2 := block_lt_of_cell h
 cases a with
 | mk b o s => simp only at h1; subst h1; exact ⟨b, o, rfl, h2⟩
theorem fields_D {n : Nat} {cs : List Value} : ∀ (fs : List (Nat × TypeId)) (zs : List D) (k off : Nat), zs.length = fs.length →
  (∀ i o t, fs[i]? = some (o, t) → o = off + Sk.sizes ((sks zs).take i) ∧ (tg tab t).size = (sk (zs.getD i default)).size ∧ ∃ d, CR w (fun β => β < w.heap.size) d ((cs.drop o).take (tg tab t).size) ∧ OkT tab n t d) →
  cs.length = off + Sk.sizes (sks zs) → ∃ ds, CRs w (fun β => β < w.heap.size) ds (cs.drop off) ∧ OkL (OkT tab n) fs ds
 | [], zs, k, off, hl, _, hc => by
  have : zs = [] := List.eq_nil_of_length_eq_zero (by simpa using hl)
  subst this
  refine ⟨[], ?_, by simp [OkL]⟩
  simp only [CRs]
  exact List.drop_eq_nil_of_le (by rw [hc]; simp [sks, Sk.sizes])
 | (o, t) :: fs, [], k, off, hl, _, _ => by simp at hl
 | (o, t) :: fs, z :: zs, k, off, hl, h, hc => by
  obtain ⟨h1, h2, d, h3, h4⟩ := h 0 o t rfl
  simp only [List.take_zero, Sk.sizes, Nat.add_zero] at h1
  subst h1
  have h2' : (tg tab t).size = (sk z).size := by simpa using h2
  simp only [sks, Sk.sizes] at hc
  obtain ⟨ds, h5, h6⟩ := fields_D fs zs (k + 1) (o + (sk z).size) (by simpa using hl) (fun i o' t' hi => by
   obtain ⟨q1, q2, q3⟩ := h (i + 1) o' t' (by simpa using hi)
   refine ⟨?_, by simpa using q2, q3⟩
   rw [q1]
   simp only [sks, List.take_succ_cons, Sk.sizes]
   omega) (by omega)
  refine ⟨d :: ds, ?_, by simp only [OkL]; exact ⟨h4, h6⟩⟩
  simp only [CRs]
  refine ⟨_, _, ?_, h3, h5⟩
  rw [h2', ← List.drop_drop, List.take_append_drop]
def Sz (ns : List Nat) : Prop := ∀ n ∈ ns, n ≤ 140737488351232
theorem bytesOf_eq {P : Program} {tab : Tab} (T : TabOk P tab) {t : TypeId} (h : Has tab t) : P.bytesOf t = (tg tab t).bytes := by
 obtain ⟨i, z, hi, _, hb, _⟩ := (T t h).info
 simp [Program.bytesOf, hi, hb]
theorem Sz.all {P : Program} {e : TypeId} : ∀ {l : List (DataW H)} {i : Nat} {d : DataW H}, Sz (DataW.weightsAll P e l) → l[i]? = some d → Sz (d.weights P e)
 | [], _, _, _, h => by simp at h
 | x :: l, 0, d, hz, h => by
  simp only [List.getElem?_cons_zero, Option.some.injEq] at h
  subst h
  simp only [DataW.weightsAll] at hz
  exact fun n hn => hz n (List.mem_append.2 (.inl hn))
 | x :: l, i + 1, d, hz, h => by
  simp only [List.getElem?_cons_succ] at h
  simp only [DataW.weightsAll] at hz
  exact Sz.all (fun n hn => hz n (List.mem_append.2 (.inr hn))) h
theorem Sz.each {P : Program} {ts : List TypeId} {ds : List (DataW H)} {j : Nat} {t : TypeId} {d : DataW H} (hz : Sz (DataW.weightsEach P ts ds)) (ht : ts[j]? = some t) (hd : ds[j]? = some d) : Sz (d.weights P t) :=
 fun n hn => hz n (DataW.weights_mem_each ht hd n hn)
theorem trod_D (T : TabOk P tab) : ∀ (n : Nat) (t : TypeId) (fuel : Nat) (cs : List Value) (x : DataW H × List MemPlace), supB tab n t = true → DataW.trod enc P w 0 sp held fuel t cs = some x → Sz (x.1.weights P t) →
  ∃ d, CR w (fun β => β < w.heap.size) d cs ∧ OkT tab n t d ∧ d.isAgg = (tg tab t).ty.agg := by
 intro n
 induction n with
 | zero => intro t fuel cs x h; simp [supB] at h
 | succ n ih =>
  intro t fuel cs x hs h hw
  unfold supB at hs
  unfold OkT
  cases hty : (tg tab t).ty with
  | int k =>
   have ht := (T t (tg_lt' (by rw [hty]; simp))).tint _ hty
   obtain ⟨z, rfl, _, hwf⟩ := DataW.trod_int ht h
   exact ⟨.val (.int k z), ⟨rfl, rfl⟩, ⟨z, rfl, wf_range hwf⟩, rfl⟩
  | bool =>
   have ht := (T t (tg_lt' (by rw [hty]; simp))).tbool hty
   obtain ⟨b, rfl, _⟩ := DataW.trod_bool ht h
   exact ⟨.val (.bool b), ⟨rfl, rfl⟩, ⟨b, rfl⟩, rfl⟩
  | str =>
   have ht := (T t (tg_lt' (by rw [hty]; simp))).tstr hty
   obtain ⟨s, rfl, rfl, hl⟩ := DataW.trod_string ht h
   have hl : s.size ≤ 140737488351232 := hw _ (by simp [DataW.weights])
   exact ⟨.str (ints s), ⟨by rw [ints_bstr], ints_bytes s⟩, ⟨ints s, rfl, ints_bytes s, by rw [ints_length]; exact hl⟩, rfl⟩
  | ptr e => simp [hty] at hs
  | other => simp [hty] at hs
  | slice e =>
   simp only [hty] at hs ⊢
   have ht := (T t (tg_lt' (by rw [hty]; simp))).tslice _ hty
   cases hte : (tg tab e).ty with
   | int k =>
    simp only [hte] at hs ⊢
    have he := (T e (tg_lt' (by rw [hte]; simp))).tint _ hte
    have hc1 : P.cellsOf e = 1 := by rw [cellsOf_eq T (tg_lt' (by rw [hte]; simp))]; exact Nat.eq_of_beq_eq_true hs
    have hbe := bytesOf_eq T (tg_lt' (t := e) (by rw [hte]; simp))
    have hsz : ∀ (a : Option Addr) (len cap : Nat), cs = [.slice a len cap] → len * (tg tab e).bytes ≤ 140737488351232 := by
     intro a len cap hcs
     rcases DataW.trod_slice ht h with ⟨h1, _⟩ | ⟨a', len', cap', elems, rest, m, _, h1, h2, _, _, _, hlen, _⟩
     ·rw [hcs] at h1
      simp only [List.cons.injEq, Value.slice.injEq, and_true] at h1
      rw [h1.2.1]; omega
     ·rw [hcs] at h1
      simp only [List.cons.injEq, Value.slice.injEq, and_true] at h1
      have := hw ((elems.length + rest.length) * P.bytesOf e) (by rw [h2]; simp [DataW.weights, ht])
      rw [← hbe, h1.2.1, ← hlen]
      exact Nat.le_trans (Nat.mul_le_mul_right _ (Nat.le_add_right _ _)) this
    rcases Go.ChangeShapes.open_ints ht he hc1 h with ⟨rfl, _⟩ | ⟨a, len, cap, zs, rfl, hb, hl, hm, hz, _, hcell, hwf⟩
    ·exact ⟨.ints k [], ⟨none, 0, rfl, Nat.le_refl _, .inl rfl⟩, ⟨[], rfl, (fun z hz => by cases hz), by simp, by simp⟩, rfl⟩
    ·have hlz : len ≤ zs.length := by rw [hz]; split <;> omega
     have hlen : (zs.take len).length = len := by simp; omega
     refine ⟨.ints k (zs.take len), ⟨some a, cap, by rw [hlen], by rw [hlen]; exact hl, ?_⟩, ⟨zs.take len, rfl, fun z hz => wf_range (hwf z (List.mem_of_mem_take hz)), by rw [hlen]; omega, by rw [hlen]; exact hsz _ _ _ rfl⟩, rfl⟩
     by_cases h0 : len = 0
     ·left; simp [h0]
     ·obtain ⟨β, o, rfl, hβ⟩ := spot_none (hcell 0 (by omega))
      refine .inr ⟨β, o, rfl, hβ, fun j v hj => ?_⟩
      simp only [List.getElem?_map, List.getElem?_take] at hj
      split at hj
      ·rename_i hjl
       have hjz : j < zs.length := by omega
       simp only [List.getElem?_eq_getElem hjz, Option.map_some, Option.some.injEq] at hj
       have := hcell j hjz
       rw [addr_add_none] at this
       rw [this, ← hj]
       simp [List.getElem?_eq_getElem hjz]
      ·cases hj
   | _ =>
    simp only [hte] at hs ⊢
    simp only [Bool.and_eq_true, Bool.not_eq_true'] at hs
    obtain ⟨hs0, hsup⟩ := hs
    have hs0' : (tg tab e).size ≠ 0 := fun h => by rw [h] at hs0; cases hs0
    have hce : P.cellsOf e = (tg tab e).size := cellsOf_eq T (tg_lt hs0')
    rcases DataW.trod_slice ht h with ⟨rfl, _⟩ | ⟨a, len, cap, elems, rest, m, _, rfl, hx, hb, hl, hm, hlen, hel, _⟩
    ·exact ⟨.slc _ [], ⟨none, 0, [], rfl, Nat.le_refl _, .inl rfl, rfl⟩, ⟨[], rfl, (fun z hz => by cases hz), by simp, by simp⟩, rfl⟩
    ·rw [hx] at hw
     simp only [DataW.weights, ht] at hw
     have hwe : Sz (DataW.weightsAll P e (elems.map (·.1))) := fun k hk => hw k (List.mem_cons_of_mem _ (List.mem_append.2 (.inl hk)))
     have hw0 : len * (tg tab e).bytes ≤ 140737488351232 := by
      have := hw _ (List.mem_cons_self)
      rw [bytesOf_eq T (tg_lt hs0'), List.length_map, hlen] at this
      exact Nat.le_trans (Nat.mul_le_mul_right _ (Nat.le_add_right _ _)) this
     obtain ⟨xs, ds, h1, h2, h3, h4⟩ := elems_D (w := w) (tab := tab) (e := e) (n := n) (sz := (tg tab e).size) (a := a) len (fun i hi => by
      have hi' : i < elems.length := by omega
      have := hel i hi
      rw [List.getElem?_eq_getElem hi', hce] at this
      obtain ⟨ci, hci, hti⟩ := Option.bind_eq_some_iff.1 this
      obtain ⟨_, hcl, hcc⟩ := World.cells?_some hci
      obtain ⟨d, g1, g2, _⟩ := ih e m ci _ hsup hti (hwe.all (i := i) (by simp [List.getElem?_eq_getElem hi']))
      refine ⟨d, ci, g1, g2, hcl, fun j v hv => ?_⟩
      have hj : j < ci.length := (List.getElem?_eq_some_iff.1 hv).1
      have := hcc j (by omega)
      rw [add_add, hv] at this
      exact this)
     refine ⟨.slc (tg tab e).size xs, ⟨some a, cap, ds, by rw [h1], by rw [h1]; exact hl, ?_, h2⟩, ⟨xs, rfl, h3, by rw [h1]; omega, by rw [h1]; exact hw0⟩, rfl⟩
     by_cases h0 : ds = []
     ·exact .inl h0
     ·obtain ⟨d0, dr, rfl⟩ := List.exists_cons_of_ne_nil h0
      obtain ⟨β, o, rfl, hβ⟩ := spot_none (h4 0 d0 rfl)
      exact .inr ⟨β, o, rfl, hβ, fun j v hj => by rw [← addr_add_none]; exact h4 j v hj⟩
  | arr m e =>
   simp only [hty] at hs ⊢
   have ht := (T t (tg_lt' (by rw [hty]; simp))).tarr _ _ hty
   cases hte : (tg tab e).ty with
   | int k =>
    simp only [hte] at hs ⊢
    simp only [Bool.and_eq_true] at hs
    have he := (T e (tg_lt' (by rw [hte]; simp))).tint _ hte
    have hc1 : P.cellsOf e = 1 := by rw [cellsOf_eq T (tg_lt' (by rw [hte]; simp))]; exact Nat.eq_of_beq_eq_true hs.1
    have hcm : P.cellsOf t = m := by rw [cellsOf_eq T (tg_lt' (by rw [hty]; simp))]; exact Nat.eq_of_beq_eq_true hs.2
    obtain ⟨xs, q, _, _, hlen, hxl, hall⟩ := DataW.trod_array ht h
    rw [hcm] at hlen
    have each : ∀ i (hi : i < cs.length), ∃ z, cs[i] = .int k z ∧ (Lit.int k z).wf = true := by
     intro i hi
     have := hall i (by omega)
     rw [hc1, Nat.mul_one, List.getElem?_eq_getElem (by omega)] at this
     obtain ⟨z, hz, _, hw⟩ := DataW.trod_int he this
     rw [List.drop_eq_getElem_cons hi] at hz
     simp only [List.take_succ_cons, List.take_zero, List.cons.injEq, and_true] at hz
     exact ⟨z, hz, hw⟩
    let l : List Int := cs.map fun | .int _ z => z | _ => 0
    have hl : cs = l.map (Value.int k) := by
     apply List.ext_getElem
     ·simp [l]
     ·intro i h1 h2
      obtain ⟨z, hz, _⟩ := each i h1
      simp [l, hz]
    refine ⟨.arr k m l, ⟨by simp [l, hlen], hl⟩, ⟨l, rfl, by simp [l, hlen], fun z hz => ?_⟩, rfl⟩
    obtain ⟨i, hi, rfl⟩ := List.getElem_of_mem hz
    have hi' : i < cs.length := by simpa [l] using hi
    obtain ⟨z, hz, hw⟩ := each i hi'
    have : l[i] = z := by simp [l, hz]
    rw [this]
    exact wf_range hw
   | _ => simp [hte] at hs
  | st fs =>
   simp only [hty] at hs ⊢
   have R := T t (tg_lt' (by rw [hty]; simp))
   obtain ⟨fa, zs, hu, hz, hzl, hfa, hall⟩ := R.tst fs hty
   obtain ⟨xs, q, _, hx, hlen, hxl, hf⟩ := DataW.trod_struct hu h
   rw [hx] at hw
   simp only [DataW.weights, hu] at hw
   have hsz : cs.length = Sk.sizes (sks zs) := by
    rw [hlen, cellsOf_eq T (tg_lt' (by rw [hty]; simp)), ← R.sksz, hz]; rfl
   have hsup : ∀ (i o : Nat) (t' : TypeId), fs[i]? = some (o, t') → supB tab n t' = true := by
    intro i o t' hi
    have := List.all_eq_true.1 hs (o, t') (List.mem_of_getElem? hi)
    exact this
   obtain ⟨ds, h1, h2⟩ := fields_D (w := w) (tab := tab) (n := n) (cs := cs) fs zs 0 0 hzl (fun i o t' hi => by
    obtain ⟨fd, g1, g2, g3, g4, g5, g6⟩ := hall i o t' hi
    have hsx := hf i fd g1
    have hi' : i < xs.length := by
     rw [hxl, hfa]
     exact (List.getElem?_eq_some_iff.1 hi).1
    rw [List.getElem?_eq_getElem hi', g2, g3, cellsOf_eq T (tg_lt g5)] at hsx
    obtain ⟨d, k1, k2, _⟩ := ih t' q _ _ (hsup i o t' hi) hsx (Sz.each (j := i) hw (by
     rw [List.getElem?_map, Array.getElem?_toList, g1, Option.map_some, g3]) (by simp [List.getElem?_eq_getElem hi']))
    exact ⟨by rw [Nat.zero_add]; exact g4, g6.symm, d, k1, k2⟩) (by rw [hsz]; omega)
   exact ⟨.st ds, by simp only [CR]; simpa using h1, ⟨ds, rfl, h2⟩, rfl⟩
theorem arg_D (T : TabOk P tab) {n : Nat} {t : TypeId} {v : Value} {d : DataW H} {ps : List MemPlace} {r : Reach} {b0 : Nat} (hs : supB tab n t = true) (hval : Value.okWide P w r b0 t v) (h : DataW.Trod enc P w 0 sp held t v d ps) (hw : Sz (d.weights P t)) :
  ∃ x, VR w (fun β => β < w.heap.size) x v ∧ OkT tab n t x := by
 obtain ⟨fuel, h⟩ := h
 obtain ⟨x, h1, h2, h3⟩ := trod_D T n t fuel _ _ hs h hw
 have hh : Has tab t := by
  cases n with
  | zero => simp [supB] at hs
  | succ n =>
   unfold supB at hs
   refine tg_lt' fun he => ?_
   simp [he] at hs
 obtain ⟨de, hd, hagg⟩ := (T t hh).tagg
 refine ⟨x, VR1.up ?_, h2⟩
 unfold Value.okWide at hval
 rw [hd] at hval
 cases hx : x.isAgg with
 | true =>
  rw [h3] at hx
  rw [← hagg] at hx
  have hv : ∃ cs, v = .agg cs := by
   cases de <;> simp at hx
   ·obtain ⟨cs, rfl, _⟩ := hval; exact ⟨cs, rfl⟩
   ·obtain ⟨cs, rfl, _⟩ := hval; exact ⟨cs, rfl⟩
  obtain ⟨cs, rfl⟩ := hv
  have := VR1.of_agg h1 (by rw [h3, ← hagg]; exact hx)
  simpa [Value.cells] using this
 | false =>
  have hlen := CR.len _ _ h1
  have hv : v.cells.toList = [v] := by
   cases v with
   | agg cs =>
    exfalso
    have hc : Cell.okWide P w r b0 t (.agg cs) := by
     cases de <;> first | exact hval | (rw [h3, ← hagg] at hx; cases hx)
    unfold Cell.okWide at hc
    rw [hd] at hc
    unfold Cell.ok at hc
    rw [hd] at hc
    cases de <;> simp at hc
   | _ => rfl
  rw [hv] at h1
  exact VR1.of_cell h1 hx
end
end Go.Vg
