/- Vg, part E11: append to nil, as a copy. -/
import Derived.Test.YtpkcmjfmoemekaaZb5
import Derived.Laws.AppendOwn
namespace Go.Vg
open Go Go.RowKit
theorem app_own {P : Program} (w : World) (base : Nat) (t ty e : TypeId) (i : TypeInfo) (z : Value) (size bytes : Nat) (ht : P.underlying t = some (.slice e)) (hi : P.info? e = some i) (hz : i.zero = some z)
  (hsize : i.size = size) (hby : i.bytes = bytes) (hzs : z.cells.size = size) (hsz : 0 < size)
  (v : Value) (n : Nat) (xs : List Value) (hown : w.ownsRow base e size v n xs)
  (ad : Option Addr) (m c : Nat) (news : List Value) (hl : news.length = m * size) (hat : At w (fun β => β < w.heap.size) ad news) (h1 : ∀ u ∈ news, isCell u = true)
  (h63 : n + m ≤ maxLen) (hbytes : (n + m) * bytes ≤ 140737488355328) (hbase : base ≤ w.heap.size) :
  ∃ v' w', (Builtin.append_ #[t, t] ty #[v, .slice ad m c]).run P w = .ok v' w' ∧ w'.ownsRow base e size v' (n + m) (xs ++ news) ∧ w.grownBy w' v.ownBlock ∧ (v'.ownBlock = v.ownBlock ∨ v'.ownBlock = some w.heap.size) := by
 have h1' : ∀ u ∈ news, u.oneCell' = true := fun u hu => by rw [isCell_one]; exact h1 u hu
 cases ad with
 | none =>
  have hn : news = [] := by
   rcases hat with h | ⟨_, _, h, _⟩
   ·exact h
   ·cases h
  subst hn
  have hm : m = 0 := by
   rcases Nat.eq_zero_or_pos m with h | h
   ·exact h
   ·have := Nat.mul_pos h hsz
    simp at hl
    omega
  subst hm
  refine ⟨v, w, ?_, by simpa using hown, ⟨rfl, rfl, rfl, Nat.le_refl _, fun _ _ _ => rfl⟩, .inl rfl⟩
  rcases hown.2 with ⟨rfl, rfl⟩ | ⟨g, cap, cur, rfl, _, _, hnc, _⟩
  ·simp [Builtin.append_, run_underlying ht, sizeOf, typeInfo, hi, Builtin.lenOf, Builtin.firstCells]
  ·simp [Builtin.append_, run_underlying ht, sizeOf, typeInfo, hi, Builtin.lenOf, Builtin.firstCells, hnc, storeCells]
 | some a =>
  have hnews : ∀ j u, news[j]? = some u → w.cell? (a.add j) = some u := by
   intro j u hu
   rcases hat with h | ⟨β, o', h, hX, hcells⟩
   ·rw [h] at hu; simp at hu
   ·obtain rfl := Option.some.inj h
    rw [addr_add_none]
    exact hcells j u hu
  obtain ⟨v', w', hrun, hown', hg, hiff⟩ := run_append_own (P := P) w base t ty e i z size bytes ht hi hz hsize hby hzs hsz v n xs hown a m c news hl hnews h1' h63 hbytes hbase
  refine ⟨v', w', hrun, hown', hg, ?_⟩
  subst hsize
  subst hby
  have hsmall : n + m ≤ 9223372036854775807 := by simp only [maxLen] at h63; omega
  rcases hown.2 with ⟨rfl, rfl⟩ | ⟨g, cap, cur, rfl, hbg, hgg, hnc, hcm, hcs, htake⟩
  ·by_cases hm : m = 0
   ·left
    rw [(hiff.2 ⟨rfl, hm⟩)]
   ·right
    have hr := run_append_nil (P := P) w t ty e i z ht hi hz a m c news hl hnews (by omega) (by omega) (by have hb := hbytes; simp only [Nat.zero_add] at hb; omega)
    rw [hr] at hrun
    obtain ⟨rfl, _⟩ := Result.ok.inj hrun
    rfl
  ·by_cases hroom : n + m ≤ cap
   ·left
    have hfit : n * i.size + news.length ≤ cur.size := by rw [hl, hcs, ← Nat.add_mul]; exact Nat.mul_le_mul_right _ hroom
    have hr := run_append_room (P := P) w t ty e i ht hi g n cap cur hgg a m c news hl hnews h1' hroom hfit
    rw [hr] at hrun
    obtain ⟨rfl, _⟩ := Result.ok.inj hrun
    rfl
   ·right
    have holds : ∀ j u, xs[j]? = some u → w.cell? ((⟨g, 0, none⟩ : Addr).add j) = some u := hown.cells (g := g) rfl
    have hr := run_append_grow (P := P) w t ty e i z ht hi hz ⟨g, 0, none⟩ n cap xs hown.1 holds a m c news hl hnews (by omega) (by omega) (growslice_fits (by omega) hbytes)
    rw [hr] at hrun
    obtain ⟨rfl, _⟩ := Result.ok.inj hrun
    rfl
section
variable {P : Program} {tab : Tab} {w0 : World} {F : Env} {σ : Sg} {s : St} {a : Act} {w : World} {o : Oper}
theorem X_new (r : Rel w0 F σ s a w) {w' : World} {g : Nat} (h1 : w.heap.size ≤ g) (h2 : g < w'.heap.size) : Xs σ s.M w' g := by
 refine ⟨h2, r.okn.1 _ (Nat.le_trans r.frm.size h1), fun b x hbx hσ => ?_⟩
 have := r.blk_lt hbx hσ
 omega
theorem run_app0 (w : World) (t ty e : TypeId) (i : TypeInfo) (ht : P.underlying t = some (.slice e)) (hi : P.info? e = some i) (base ad : Option Addr) (n cap c : Nat) (h : n ≤ cap) :
  (Builtin.append_ #[t, t] ty #[.slice base n cap, .slice ad 0 c]).run P w = .ok (.slice base n cap) w := by
 cases base <;> cases ad <;> simp [Builtin.append_, run_underlying ht, sizeOf, typeInfo, hi, Builtin.lenOf, Builtin.firstCells, h, storeCells, loadCells, loadCellsFrom]
theorem app0_sound {C : Ctx} (T : TabOk P C.tab) (r : Rel w0 F σ s a w) {c : Call} {t t2 : TypeId} {x y : Operand} (ho : o.op = .call c) (hcal : c.callee = .builtin .append) (hargs : c.args.toList = [x, y]) (hat : c.argTypes.toList = [t, t2])
  (hc : (aApp0 C.tab t t2 (evA s.T x) (evA s.T y) s.M).c) : Good P w0 F o s a w (aApp0 C.tab t t2 (evA s.T x) (evA s.T y) s.M) := by
 have e1 : c.args = #[x, y] := by rw [← Array.toList_inj, hargs]
 have hx := ev_sound r x
 unfold aApp0 at hc ⊢
 split at hc
 ·rename_i b p off len cap heqx
  rw [heqx] at hx
  have hx0 := hx
  obtain ⟨z, β, k0, n0, l0, α, hb, hσ, hp, hg0, hoc, hlc, hv, hα⟩ := hx
  split at hc
  ·rename_i e d hty hd
   have ht := (T t (tg_lt' (by rw [hty]; simp))).tslice _ hty
   obtain ⟨h1, _⟩ := toD_sound r (ev_sound r y) hd
   have cast : VR w (fun β => β < w.heap.size) d (a.eval y) → VR w (fun β => β < w.heap.size) (castD C.tab t d) (a.eval y) := fun h => by
    by_cases ht : d.isTup = false
    ·exact (castD_sound (VR.one h ht)).up
    ·cases d <;> first | exact absurd rfl ht | exact h
   have h1 := cast h1
   split at hc
   ·rename_i k' m hcd
    rw [hcd] at h1
    obtain ⟨c0, c1, c2⟩ := hc
    subst c0
    obtain ⟨ad, cp, hvy, _, _⟩ := h1
    simp only [List.cons.injEq, and_true, c1] at hvy
    obtain ⟨i, zv, hinf, _⟩ := (T e (tg_lt (by rw [c2]; decide))).info
    have hr := run_app0 (P := P) w t2 o.type e i ht hinf (some α) ad len cap cp hlc
    have e2 : c.argTypes = #[t2, t2] := by rw [← Array.toList_inj, hat]
    have hrunO : (execOp a.eval o).run P w = .ok (.value (.slice (some α) len cap)) w := by
     unfold execOp
     simp only [ho, resolve, hcal, e1, e2, Sem.run_bind, Sem.run_pure, Result.andThen_ok, invoke, builtin, List.map_toArray, List.map_cons, List.map_nil, hv, hvy, hr]
    rw [hv] at hx0
    intro Q
    unfold Oper.wp
    rw [hrunO]
    exact ⟨_, r.put o.dst hx0⟩
   ·exact hc.elim
  ·exact hc.elim
 ·exact hc.elim
theorem new_sound {C : Ctx} (T : TabOk P C.tab) (r : Rel w0 F σ s a w) {c : Call} {t t2 : TypeId} {x y : Operand} (ho : o.op = .call c) (hcal : c.callee = .builtin .append) (hargs : c.args.toList = [x, y]) (hat : c.argTypes.toList = [t, t2])
  (hc : (aNew C.tab t t2 (evA s.T x) (evA s.T y) s.M).c) : Good P w0 F o s a w (aNew C.tab t t2 (evA s.T x) (evA s.T y) s.M) := by
 have e1 : c.args = #[x, y] := by rw [← Array.toList_inj, hargs]
 have hx := ev_sound r x
 unfold aNew at hc ⊢
 split at hc
 ·rename_i heqx
  rw [heqx] at hx
  have ex : a.eval x = .slice none 0 0 := ar_val hx
  split at hc
  ·rename_i e d hty hd
   have ht := (T t (tg_lt' (by rw [hty]; simp))).tslice _ hty
   obtain ⟨h1, h2⟩ := toD_sound r (ev_sound r y) hd
   have cast : ∀ {X : Nat → Prop}, VR w X d (a.eval y) → VR w X (castD C.tab t d) (a.eval y) := fun {X} h => by
    by_cases ht : d.isTup = false
    ·exact (castD_sound (VR.one h ht)).up
    ·cases d <;> first | exact absurd rfl ht | exact h
   generalize castD C.tab t d = D' at *
   have main : ∀ (news : List Value) (ad : Option Addr) (m cp sz : Nat), a.eval y = .slice ad m cp → At w (fun β => β < w.heap.size) ad news → (∀ u ∈ news, isCell u = true) → news.length = m * sz → t2 = t → m ≤ 140737488355328 → m * (tg C.tab e).bytes ≤ 140737488355328 → (tg C.tab e).size = sz → sz ≠ 0 →
     ∃ v' w' ad' cap', (execOp a.eval o).run P w = .ok (.value v') w' ∧ Grow w w' ∧ v' = .slice ad' m cap' ∧ m ≤ cap' ∧ At w' (Xs σ s.M w') ad' news := by
    intro news ad m cp sz hv hatn hnc hnl ht2 hle hby hsz hs0
    subst ht2
    have e2 : c.argTypes = #[t2, t2] := by rw [← Array.toList_inj, hat]
    obtain ⟨i, zv, hinf, hisz, hiby, hzv, hzr⟩ := (T e (tg_lt (by rw [hsz]; exact hs0))).info
    have hzs : zv.cells.size = sz := by
     have := CR.sklen (VR1.cells (hzr w (Xs σ s.M w)))
     rw [(T e (tg_lt (by rw [hsz]; exact hs0))).sksz, Array.length_toList] at this
     omega
    obtain ⟨v', w', hrun, hown, hg, _⟩ := app_own (P := P) w w.heap.size t2 o.type e i zv sz (tg C.tab e).bytes ht hinf hzv (by rw [hisz, hsz]) hiby hzs (by omega) (.slice none 0 0) 0 [] (World.ownsRow_nil w _ e sz) ad m cp news hnl hatn hnc (by unfold maxLen; omega) (by rw [Nat.zero_add]; exact hby) (Nat.le_refl _)
    have hrunO : (execOp a.eval o).run P w = .ok (.value v') w' := by
     unfold execOp
     simp only [ho, resolve, hcal, e1, e2, Sem.run_bind, Sem.run_pure, Result.andThen_ok, invoke, builtin, List.map_toArray, List.map_cons, List.map_nil, ex, hv, hrun]
    rw [Nat.zero_add, List.nil_append] at hown
    obtain ⟨g1, g2, g3, g4, g5⟩ := hg
    refine ⟨v', w', ?_⟩
    rcases hown.2 with ⟨h, h0⟩ | ⟨g, cap, cur, h, hg, hh, hnc', hcm, hsz', htk⟩
    ·refine ⟨none, 0, hrunO, ⟨g1, g2, g3, g4, fun k hk => g5 k hk (by rintro ⟨⟩)⟩, by rw [h, h0], by omega, .inl ?_⟩
     exact List.eq_nil_of_length_eq_zero (by rw [hown.1, h0, Nat.zero_mul])
    ·refine ⟨some ⟨g, 0, none⟩, cap, hrunO, ⟨g1, g2, g3, g4, fun k hk => g5 k hk (by rintro ⟨⟩)⟩, h, hnc', .inr ⟨g, 0, rfl, X_new r hg (block_lt hh), fun j u hu => ?_⟩⟩
     have := hown.cells (g := g) (by rw [h]; rfl) j u hu
     rw [addr_add_none] at this
     exact this
   have keep : ∀ {w' : World}, Grow w w' → ∀ β, Xs σ s.M w β → Xs σ s.M w' β ∧ w'.heap[β]? = w.heap[β]? := fun hg => Xs.grow hg
   split at hc
   ·rename_i k l
    obtain ⟨ad, cp, hv, hlc, hatn⟩ := cast h1
    simp only [List.cons.injEq, and_true] at hv
    obtain ⟨c1, c2, c3, c4⟩ := hc
    obtain ⟨v', w', ad', cap', hrun, hg, hv', hcap, hat'⟩ := main (l.map (Value.int k)) ad l.length cp 1 hv hatn (fun u hu => by obtain ⟨_, _, rfl⟩ := List.mem_map.1 hu; rfl) (by simp) c1 c2 c3 c4 (by decide)
    intro Q
    refine good_grow (P := P) (o := o) r hrun hg ?_ Q
    subst hv'
    exact ⟨ad', cap', rfl, hcap, hat'⟩
   ·rename_i sz xs
    obtain ⟨c1, c0, c2, c3, c4, c5⟩ := hc
    have hdd : ∃ z, evA s.T y = .d z := by
     cases hev : evA s.T y with
     | d z => exact ⟨z, rfl⟩
     | _ => rw [hev] at c0; cases c0
    obtain ⟨ad, cp, cs', hv, hlc, hatn, her⟩ := cast (h2 hdd)
    simp only [List.cons.injEq, and_true] at hv
    obtain ⟨v', w', ad', cap', hrun, hg, hv', hcap, hat'⟩ := main cs' ad xs.length cp sz hv (hatn.mono fun β hβ => ⟨hβ.1, rfl⟩) (fun u hu => ER.cell _ _ her u hu) (ER.len _ _ her) c1 c2 c3 c4 c5
    intro Q
    refine good_grow (P := P) (o := o) r hrun hg ?_ Q
    subst hv'
    exact ⟨ad', cap', cs', rfl, hcap, hat', ER.mono (keep hg) _ _ _ her⟩
   ·exact hc.elim
  ·exact hc.elim
 ·rename_i b p off len cap heqx
  rw [heqx] at hx
  obtain ⟨z, β, k0, n0, l0, α, hb, hσ, hp, hg0, hoc, hlc, hv, hα⟩ := hx
  split at hc
  ·rename_i z' e d hb' hty hd
   have ezz : z' = z := by
    have := hb'.symm.trans hb
    injection this with this
    injection this
   subst ezz
   have ht := (T t (tg_lt' (by rw [hty]; simp))).tslice _ hty
   obtain ⟨h1, _⟩ := toD_sound r (ev_sound r y) hd
   have cast : VR w (fun β => β < w.heap.size) d (a.eval y) → VR w (fun β => β < w.heap.size) (castD C.tab t d) (a.eval y) := fun h => by
    by_cases ht : d.isTup = false
    ·exact (castD_sound (VR.one h ht)).up
    ·cases d <;> first | exact absurd rfl ht | exact h
   have h1 := cast h1
   split at hc
   ·rename_i k n l k' m hg' hcd
    rw [hcd] at h1
    obtain ⟨c0, c1, c2, c3, c4, c5, c6, c7⟩ := hc
    subst c0 c1 c2
    obtain ⟨ad, cp, hvy, hlcy, hatn⟩ := h1
    simp only [List.cons.injEq, and_true] at hvy
    obtain ⟨β2, o2, rfl, _, hnews⟩ : ∃ β2 o2, ad = some ⟨β2, o2, none⟩ ∧ True ∧ ∀ (j : Nat) (u : Value), (m.map (Value.int k'))[j]? = some u → w.cell? ⟨β2, o2 + j, none⟩ = some u := by
     rcases hatn with h | ⟨β2, o2, h, _, hcells⟩
     ·exact absurd (congrArg List.length h) (by rw [List.length_map]; simp; intro e; rw [e] at c4; exact absurd c4 (by decide))
     ·exact ⟨β2, o2, h, trivial, hcells⟩
    have hm := r.mem b _ hb
    obtain ⟨β', cs, e', hσ', _, hh, hcr⟩ := hm
    rw [hσ] at hσ'
    obtain rfl := Option.some.inj hσ'
    obtain ⟨us, hu, hcells⟩ := ptr_cells hh hcr hp
    rw [hg'] at hu
    simp only [CR] at hu
    rw [hg'] at hg0
    injection hg0 with q1 q2 q3
    subst q1 q2 q3
    obtain ⟨hln, hus⟩ := hu
    obtain ⟨i, zv, hinf, hisz, hiby, hzv, hzr⟩ := (T e (tg_lt (by rw [c7]; decide))).info
    have hil : i.size = 1 := by rw [hisz, c7]
    have hlo : (((l.drop off).take len).map (Value.int k')).length = len := by
     rw [List.length_map, List.length_take, List.length_drop]
     omega
    have holds : ∀ j v, (((l.drop off).take len).map (Value.int k'))[j]? = some v → w.cell? ((⟨β, offS (sk z') p + off, none⟩ : Addr).add j) = some v := by
     intro j v hj
     rw [addr_add_none, Nat.add_assoc]
     refine hcells (off + j) v ?_
     rw [hus]
     rw [List.getElem?_map, List.getElem?_take] at hj
     split at hj
     ·rw [List.getElem?_drop] at hj
      rw [List.getElem?_map]; exact hj
     ·cases hj
    have hr := run_append_grow (P := P) w t2 o.type e i zv ht hinf hzv ⟨β, offS (sk z') p + off, none⟩ len len (((l.drop off).take len).map (Value.int k')) (by rw [hlo, hil, Nat.mul_one]) holds ⟨β2, o2, none⟩ m.length cp (m.map (Value.int k')) (by rw [List.length_map, hil, Nat.mul_one])
     (fun j v hj => by rw [addr_add_none]; exact hnews j v hj) (by omega) (by omega) (growslice_fits (by omega) (by rw [hiby]; exact c6))
    have e2 : c.argTypes = #[t2, t2] := by rw [← Array.toList_inj, hat]
    have hrunO : (execOp a.eval o).run P w = .ok (.value (.slice (some ⟨w.heap.size, 0, none⟩) (len + m.length) (grownCap w (len + m.length) len e))) (w.drew.alloc (.cells ((((l.drop off).take len).map (Value.int k')).toArray ++ (m.map (Value.int k')).toArray ++ Builtin.zeroCells zv.cells (grownCap w (len + m.length) len e - (len + m.length))) e)) := by
     unfold execOp
     simp only [ho, resolve, hcal, e1, e2, Sem.run_bind, Sem.run_pure, Result.andThen_ok, invoke, builtin, List.map_toArray, List.map_cons, List.map_nil, hv, hvy, hα c3, hr]
    intro Q
    refine good_grow (P := P) (o := o) r hrunO ((Grow.drew w).trans (Grow.alloc _ _)) ?_ Q
    refine ⟨some ⟨w.heap.size, 0, none⟩, grownCap w (len + m.length) len e, ?_, ?_, .inr ⟨w.heap.size, 0, rfl, X_new r (Nat.le_refl _) (by simp), fun j u hj => ?_⟩⟩
    ·rw [List.length_append, List.length_take, List.length_drop, show min len (l.length - off) = len by omega]
    ·rw [List.length_append, List.length_take, List.length_drop, show min len (l.length - off) = len by omega]
     exact grownCap_ge w _ _ e
    ·have hnew : (w.drew.alloc (.cells ((((l.drop off).take len).map (Value.int k')).toArray ++ (m.map (Value.int k')).toArray ++ Builtin.zeroCells zv.cells (grownCap w (len + m.length) len e - (len + m.length))) e)).heap[w.heap.size]? = some (.cells ((((l.drop off).take len).map (Value.int k')).toArray ++ (m.map (Value.int k')).toArray ++ Builtin.zeroCells zv.cells (grownCap w (len + m.length) len e - (len + m.length))) e) := heap_alloc_new w.drew _
     rw [cell_of_row _ _ _ _ e (0, 0) hnew, Nat.zero_add]
     have hjl : j < (((l.drop off).take len).map (Value.int k')).length + (m.map (Value.int k')).length := by
      rcases Nat.lt_or_ge j ((((l.drop off).take len ++ m).map (Value.int k')).length) with h | h
      ·rw [List.map_append, List.length_append] at h; exact h
      ·rw [List.getElem?_eq_none h] at hj; cases hj
     rw [Array.getElem?_append_left (by simp only [Array.size_append, List.size_toArray]; exact hjl), List.append_toArray, List.getElem?_toArray, ← List.map_append]
     exact hj
   ·exact hc.elim
  ·exact hc.elim
 ·exact hc.elim
end
end Go.Vg
namespace Go.Vg
open Go Go.RowKit
theorem capD_sound {σ : Sg} {M : Mem} {w : World} {X : Nat → Prop} : ∀ {cs : List AV} {vs : List Value}, All2 (AR σ M w X) cs vs → ∀ {xs : List D}, capD cs = some xs → ER w X 1 xs vs ∧ ∀ x ∈ xs, x.isAgg = false
 | _, _, .nil, xs, h => by
  simp only [capD, Option.some.injEq] at h
  subst h
  exact ⟨by simp [ER], fun x hx => by cases hx⟩
 | _, _, .cons (a := y) (b := v) hy t, xs, h => by
  simp only [capD] at h
  split at h
  ·rename_i x hre
   have hx := reref_sound hy
   rw [hre] at hx
   cases hc : (Nat.beq (sk x).size 1 && !x.isAgg && !x.isTup) <;> rw [hc] at h
   ·cases h
   ·simp only [cond_true] at h
    split at h
    ·rename_i ys hys
     obtain rfl := Option.some.inj h
     obtain ⟨h1, h2⟩ := capD_sound t hys
     simp only [Bool.and_eq_true, Bool.not_eq_true'] at hc
     obtain ⟨⟨hsz, hagg⟩, htup⟩ := hc
     have h1' : VR1 w X x v := VR.one hx htup
     have hcr : CR w X x [v] := by
      cases x <;> first | exact h1' | (simp [D.isAgg] at hagg)
     refine ⟨?_, fun z hz => ?_⟩
     ·simp only [ER]
      exact ⟨[v], _, rfl, rfl, hcr, h1⟩
     ·rcases List.mem_cons.1 hz with rfl | hz
      ·exact hagg
      ·exact h2 z hz
    ·cases h
  ·cases h
theorem func_sound {P : Program} {w0 : World} {F : Env} {σ : Sg} {s : St} {a : Act} {w : World} {o : Oper} (r : Rel w0 F σ s a w) {fn : Fn} {first captured : Array Operand} (ho : o.op = .makeFunc fn first captured)
  (hc : (aFunc fn first.toList (captured.toList.map (evA s.T)) s.M).c) : Good P w0 F o s a w (aFunc fn first.toList (captured.toList.map (evA s.T)) s.M) := by
 unfold aFunc at hc ⊢
 split at hc
 ·rename_i f hfirst
  split at hc
  ·rename_i xs hxs
   obtain ⟨h1, h2⟩ := capD_sound (all2_evs r captured.toList) hxs
   have ef : first = #[] := by rw [← Array.toList_inj, hfirst]
   refine good_pure (v := .func (.func f) #[] (captured.toList.map a.eval).toArray) r ?_ ?_
   ·unfold execOp
    simp only [ho, ef, Instr.makeFunc, Sem.run_bind, Sem.run_pure, Result.andThen_ok]
    congr 3
    all_goals first | rfl | (apply Array.ext'; simp)
   ·exact (⟨_, rfl, h1, h2⟩ : CR w _ (.clo f xs) [_])
  ·exact hc.elim
 ·exact hc.elim
theorem cellR_c {C : Ctx} {a : Operand} {v : AV} {r : Res} (h : (cellR C a v r).c) : r.c := by
 unfold cellR at h
 split at h
 ·rename_i p
  cases hf : C.frz.contains (p + 200000) <;> rw [hf] at h
  ·exact h
  ·exact h.2
 ·exact h
theorem cellR_vM (C : Ctx) (a : Operand) (v : AV) (r : Res) : (cellR C a v r).v = r.v ∧ (cellR C a v r).M = r.M := by
 unfold cellR
 split
 ·rename_i p
  cases C.frz.contains (p + 200000) <;> exact ⟨rfl, rfl⟩
 ·exact ⟨rfl, rfl⟩
theorem cellR_good {P : Program} {w0 : World} {F : Env} {o : Oper} {s : St} {a : Act} {w : World} {C : Ctx} {x : Operand} {v : AV} {r : Res} (h : Good P w0 F o s a w r) : Good P w0 F o s a w (cellR C x v r) := by
 intro Q
 obtain ⟨h1, h2⟩ := cellR_vM C x v r
 rw [h1, h2]
 exact h Q
theorem tlR_c {C : Ctx} {a : Operand} {v : AV} {r : Res} (h : (tlR C a v r).c) : r.c := by
 unfold tlR at h
 split at h
 ·split at h
  ·exact h.2
  ·exact h
 ·exact h
theorem tlR_vM (C : Ctx) (a : Operand) (v : AV) (r : Res) : (tlR C a v r).v = r.v ∧ (tlR C a v r).M = r.M := by
 unfold tlR
 split
 ·split <;> exact ⟨rfl, rfl⟩
 ·exact ⟨rfl, rfl⟩
theorem tlR_good {P : Program} {w0 : World} {F : Env} {o : Oper} {s : St} {a : Act} {w : World} {C : Ctx} {x : Operand} {v : AV} {r : Res} (h : Good P w0 F o s a w r) : Good P w0 F o s a w (tlR C x v r) := by
 intro Q
 obtain ⟨h1, h2⟩ := tlR_vM C x v r
 rw [h1, h2]
 exact h Q
theorem tlR_ext {C : Ctx} {a : Operand} {v : AV} {r r' : Res} (hc : (tlR C a v r).c) (h : r.c → r'.c ∧ r'.v = r.v) : (tlR C a v r').c ∧ (tlR C a v r').v = (tlR C a v r).v := by
 refine ⟨?_, by rw [(tlR_vM _ _ _ _).1, (tlR_vM _ _ _ _).1]; exact (h (tlR_c hc)).2⟩
 unfold tlR at hc ⊢
 split at hc
 ·split at hc
  ·exact ⟨hc.1, (h hc.2).1⟩
  ·exact (h hc).1
 ·exact (h hc).1
theorem nfR_c {C : Ctx} {a : Operand} {v : AV} {r : Res} (h : (nfR C a v r).c) : r.c := by
 unfold nfR at h
 split at h
 ·rename_i p
  cases hf : C.frz.contains (p + 800000) <;> rw [hf] at h
  ·exact tlR_c (show (tlR C (.tmp p) v r).c from h)
  ·exact h.2
 ·exact h
theorem nfR_vM (C : Ctx) (a : Operand) (v : AV) (r : Res) : (nfR C a v r).v = r.v ∧ (nfR C a v r).M = r.M := by
 unfold nfR
 split
 ·rename_i p
  cases C.frz.contains (p + 800000)
  ·exact tlR_vM C (.tmp p) v r
  ·exact ⟨rfl, rfl⟩
 ·exact ⟨rfl, rfl⟩
theorem nfR_good {P : Program} {w0 : World} {F : Env} {o : Oper} {s : St} {a : Act} {w : World} {C : Ctx} {x : Operand} {v : AV} {r : Res} (h : Good P w0 F o s a w r) : Good P w0 F o s a w (nfR C x v r) := by
 intro Q
 obtain ⟨h1, h2⟩ := nfR_vM C x v r
 rw [h1, h2]
 exact h Q
theorem nfR_ext {C : Ctx} {a : Operand} {v : AV} {r r' : Res} (hc : (nfR C a v r).c) (h : r.c → r'.c ∧ r'.v = r.v) : (nfR C a v r').c ∧ (nfR C a v r').v = (nfR C a v r).v := by
 unfold nfR at hc ⊢
 split at hc
 ·rename_i p
  cases hf : C.frz.contains (p + 800000) <;> rw [hf] at hc
  ·exact tlR_ext (show (tlR C (.tmp p) v r).c from hc) h
  ·exact ⟨⟨hc.1, (h hc.2).1⟩, (h hc.2).2⟩
 ·exact h hc
theorem mvR_vM (C : Ctx) (x : Operand) (v : AV) (M : Mem) : (mvR C x v M).v = v ∧ (mvR C x v M).M = M := by
 unfold mvR
 split
 ·rename_i p
  cases C.frz.contains (p + 600000) <;> exact ⟨rfl, rfl⟩
 ·exact ⟨rfl, rfl⟩
theorem mvR_good {P : Program} {w0 : World} {F : Env} {o : Oper} {s : St} {a : Act} {w : World} {C : Ctx} {x : Operand} {v : AV} (h : Good P w0 F o s a w ⟨True, v, s.M⟩) : Good P w0 F o s a w (mvR C x v s.M) := by
 intro Q
 obtain ⟨h1, h2⟩ := mvR_vM C x v s.M
 rw [h1, h2]
 exact h Q
section
variable {P : Program} {w0 : World} {F : Env} {σ : Sg} {s : St} {a : Act} {w : World} {o : Oper}
set_option maxRecDepth 20000 in
theorem allocL_sound {C : Ctx} (T : TabOk P C.tab) (r : Rel w0 F σ s a w) {t : TypeId} {i : Nat} (ho : o.op = .alloc t) (hc : (aAllocL C.tab t o.dst i s.M).c) : Good P w0 F o s a w (aAllocL C.tab t o.dst i s.M) := by
 unfold aAllocL at hc ⊢
 split at hc
 ·rename_i d fs ts hdst hzero hty
  split at hc
  ·rename_i e hd hd5 hte
   obtain ⟨hc1, hs0⟩ := hc
   obtain ⟨hlt5, hi, hemp⟩ : d + 500 < 1000 ∧ i < fs.length ∧ emptyB (fs.getD i default) = true := by
    cases h : (Nat.blt (d + 500) 1000 && Nat.blt i fs.length && emptyB (fs.getD i default)) with
    | false => rw [h] at hc1; exact hc1.elim
    | true =>
     simp only [Bool.and_eq_true, Nat.blt_eq] at h
     exact ⟨h.1.1, h.1.2, h.2⟩
   have hne : d ≠ d + 500 := by omega
   have hd1000 : d < 1000 := by omega
   clear hc1 hlt5
   generalize d + 500 = r5 at *
   obtain ⟨ii, z, hii, hz, hzc⟩ := (T t (tg_lt hs0)).zc
   rw [hzero] at hzc
   have hzc : zCs fs = some z.cells.toList := hzc
   have hz2 := zCs_nil fs _ i hzc hi hemp
   have hone : sk (fs.getD i default) = .one := by
    cases hh : fs.getD i default <;> rw [hh] at hemp <;> first | rfl | cases hemp
   have R1 := r.new' (k := .row e (fs.getD i default)) hd5 rfl (fun σ' h1 h2 => by
    have h3 : ∃ sz, RowC w (Xs σ' (putM s.M r5 (.row e (fs.getD i default))) w) (fs.getD i default) sz 0 [] := by
     cases hh : fs.getD i default <;> rw [hh] at hemp <;> first | cases hemp | skip
     ·rename_i k l
      cases l with
      | nil => exact ⟨1, rfl, rfl, rfl⟩
      | cons _ _ => cases hemp
     ·rename_i sz l
      cases l with
      | nil =>
       refine ⟨sz, rfl, ?_, rfl, rfl⟩
       rcases beq_cases sz 0 with ⟨hb, h0⟩ | ⟨hb, h0⟩
       ·simp [emptyB, hb] at hemp
       ·omega
      | cons _ _ => cases hemp
    obtain ⟨sz, h3⟩ := h3
    exact ⟨[], sz, 0, by rw [h1, h2]; rfl, by rw [h2]; exact World.ownsRow_nil _ _ _ _, h3, fun g hg => by rw [h2] at hg; cases hg⟩)
   have hd' : look (putM s.M r5 (.row e (fs.getD i default))) d = none := by rw [look_put, if_neg hne]; exact hd
   have hrr : look (putM s.M r5 (.row e (fs.getD i default))) r5 = some (.row e (fs.getD i default)) := by rw [look_put, if_pos rfl]
   have hrun : (execOp a.eval o).run P w = .ok (.value (.pointer (some ⟨w.heap.size, 0, none⟩))) (w.alloc (.cells z.cells t)) := by
    unfold execOp
    simp [ho, Instr.alloc, zeroValue, typeInfo, program, Sem.run, hii, hz, newVar, newRow, newObj]
   have hg := Grow.alloc w (.cells z.cells t)
   have R2 := R1.new (k := .lnk fs i (some r5)) (v := .bool false) hd' (R1.lk.put_lnk (fun rr hr => by
     obtain rfl := Option.some.inj hr
     exact ⟨Ne.symm hne, _, _, hrr⟩) (fun e x h => by rw [hd'] at h; cases h)) hg (by simp) (fun σ' hk h0 h1 h2 h4 => by
    refine ⟨hi, hone, .slice none 0 0, rfl, fun rr hr => ?_, w.heap.size, z.cells.toList, t, h1, .inl ⟨hd1000, r.frm.size⟩, by rw [heap_alloc_new], ?_⟩
    ·obtain rfl := Option.some.inj hr
     rw [h4 _ (Ne.symm hne)]
     exact (if_pos rfl).symm
    ·simp only [CR]
     exact zCs_CRs _ _ _ _ hz2)
   intro Q
   unfold Oper.wp
   rw [hrun]
   refine ⟨_, (R2.put o.dst ?_)⟩
   exact ⟨fs, i, _, w.heap.size, by rw [look_put, if_pos rfl], if_pos rfl, by trivial, by rw [offS_nil]⟩
  ·exact hc.elim
 ·exact hc.elim
theorem isNilV_eq {d : D} (h : isNilV d = true) : d = .val (.slice none 0 0) := by
 unfold isNilV at h
 split at h
 ·rfl
 ·cases h
theorem set_back {fs : List D} {i : Nat} (d : D) (h : i < fs.length) (e : fs.getD i default = .val (.slice none 0 0)) : (fs.set i d).set i (.val (.slice none 0 0)) = fs := by
 rw [List.set_set, ← e, List.getD_eq_getElem?_getD, List.getElem?_eq_getElem h]
 exact List.set_getElem_self h
theorem Xs_row {M : Mem} {d : Nat} {k : Blk} {rv : Nat → Value} : ∀ β, Xs σ M w β → Xs ⟨fun c => if c = d then none else σ.blk c, rv, σ.ok⟩ (putM M d k) w β ∧ w.heap[β]? = w.heap[β]? := by
 intro β hβ
 refine ⟨⟨hβ.1, hβ.2.1, fun c y hc => ?_⟩, rfl⟩
 rw [look_put] at hc
 split at hc
 ·rename_i h
  simp only [h, if_true]
  intro e
  cases e
 ·rename_i h
  simp only [if_neg h]
  exact hβ.2.2 c y hc
set_option maxRecDepth 20000 in
theorem boxL_sound {C : Ctx} (r : Rel w0 F σ s a w) {t : TypeId} {i : Nat} {x : Operand} {y : D} (ho : o.op = .box t x) (hx : VR w (Xs σ s.M w) y (a.eval x)) (hc : (aBoxL C.tab t o.dst i y s.M).c) : Good P w0 F o s a w (aBoxL C.tab t o.dst i y s.M) := by
 unfold aBoxL at hc ⊢
 split at hc
 ·rename_i d zs ts fs hdst hzero hty
  split at hc
  ·rename_i e hd hd5 hte
   obtain ⟨hlt5, hi, hemp, hnil⟩ : d + 500 < 1000 ∧ i < fs.length ∧ emptyB (zs.getD i default) = true ∧ fs.getD i default = .val (.slice none 0 0) := by
    cases h : (Nat.blt (d + 500) 1000 && Nat.blt i fs.length && emptyB (zs.getD i default) && isNilV (fs.getD i default)) with
    | false => simp only [h] at hc
    | true =>
     simp only [Bool.and_eq_true, Nat.blt_eq] at h
     exact ⟨h.1.1.1, h.1.1.2, h.1.2, isNilV_eq h.2⟩
   have hne : d ≠ d + 500 := by omega
   have hd1000 : d < 1000 := by omega
   clear hc hlt5
   generalize d + 500 = r5 at *
   have hcr : CR w (Xs σ s.M w) (.st fs) (a.eval x).cells.toList := VR1.cells (VR.one hx rfl)
   have hone : sk (zs.getD i default) = .one := by
    cases hh : zs.getD i default <;> rw [hh] at hemp <;> first | rfl | cases hemp
   have R1 := r.new' (k := .row e (zs.getD i default)) hd5 rfl (fun σ' h1 h2 => by
    have h3 : ∃ sz, RowC w (Xs σ' (putM s.M r5 (.row e (zs.getD i default))) w) (zs.getD i default) sz 0 [] := by
     cases hh : zs.getD i default <;> rw [hh] at hemp <;> first | cases hemp | skip
     ·rename_i k l
      cases l with
      | nil => exact ⟨1, rfl, rfl, rfl⟩
      | cons _ _ => cases hemp
     ·rename_i sz l
      cases l with
      | nil =>
       refine ⟨sz, rfl, ?_, rfl, rfl⟩
       rcases beq_cases sz 0 with ⟨hb, h0⟩ | ⟨hb, h0⟩
       ·simp [emptyB, hb] at hemp
       ·omega
      | cons _ _ => cases hemp
    obtain ⟨sz, h3⟩ := h3
    exact ⟨[], sz, 0, by rw [h1, h2]; rfl, by rw [h2]; exact World.ownsRow_nil _ _ _ _, h3, fun g hg => by rw [h2] at hg; cases hg⟩)
   have hd' : look (putM s.M r5 (.row e (zs.getD i default))) d = none := by rw [look_put, if_neg hne]; exact hd
   have hrr : look (putM s.M r5 (.row e (zs.getD i default))) r5 = some (.row e (zs.getD i default)) := by rw [look_put, if_pos rfl]
   have hrun : (execOp a.eval o).run P w = .ok (.value (.pointer (some ⟨w.heap.size, 0, none⟩))) (w.alloc (.cells (a.eval x).cells t)) := by
    unfold execOp
    simp [ho, Instr.box, newVar, newRow, newObj, Sem.run]
   have hg := Grow.alloc w (.cells (a.eval x).cells t)
   have R2 := R1.new (k := .lnk (fs.set i (zs.getD i default)) i (some r5)) (v := .bool false) hd' (R1.lk.put_lnk (fun rr hr => by
     obtain rfl := Option.some.inj hr
     exact ⟨Ne.symm hne, _, _, hrr⟩) (fun e x h => by rw [hd'] at h; cases h)) hg (by simp) (fun σ' hk h0 h1 h2 h4 => by
    refine ⟨by rw [List.length_set]; exact hi, by rw [List.getD_eq_getElem?_getD, List.getElem?_set_self hi]; exact hone, .slice none 0 0, rfl, fun rr hr => ?_, w.heap.size, (a.eval x).cells.toList, t, h1, .inl ⟨hd1000, r.frm.size⟩, by rw [heap_alloc_new], ?_⟩
    ·obtain rfl := Option.some.inj hr
     rw [h4 _ (Ne.symm hne)]
     exact (if_pos rfl).symm
    ·rw [set_back _ hi hnil]
     have hcr1 := CR.mono (Xs_row (σ := σ) (M := s.M) (d := r5) (k := .row e (zs.getD i default)) (rv := fun c => if c = r5 then .slice none 0 0 else σ.rv c)) (.st fs) _ hcr
     exact CR.mono (Xs_new hd' hg h0 h1 hk) (.st fs) _ hcr1)
   intro Q
   unfold Oper.wp
   rw [hrun]
   refine ⟨_, (R2.put o.dst ?_)⟩
   exact ⟨_, i, _, w.heap.size, by rw [look_put, if_pos rfl], if_pos rfl, by trivial, by rw [offS_nil]⟩
  ·exact hc.elim
 ·exact hc.elim
theorem act_sound {C : Ctx} (K : CtxOk P C) (r : Rel w0 F σ s a w) (hc : (act C o (evA s.T) s.M).c) : Good P w0 F o s a w (act C o (evA s.T) s.M) := by
 have T := K.1
 unfold act at hc ⊢
 split at hc
 ·rename_i x ho; exact mvR_good (move_sound r (.inl ho))
 ·rename_i x ho; exact assign_sound T r ho hc
 ·rename_i c x y ho; exact pick_sound r ho hc
 ·rename_i t ho
  cases hlo : lnkO C o.dst with
  | some i0 =>
   simp only [hlo] at hc ⊢
   exact allocL_sound T r ho hc
  | none =>
  simp only [hlo] at hc ⊢
  obtain ⟨hc1, hs0⟩ := hc
  obtain ⟨i, z, hi, hsz, _, hz, hzr⟩ := (T t (tg_lt hs0)).info
  unfold aAlloc at hc1 ⊢
  split at hc1
  ·rename_i d hdst
   split at hc1
   ·rename_i hlook
    have hrun : (execOp a.eval o).run P w = .ok (.value (.pointer (some ⟨w.heap.size, 0, none⟩))) (w.alloc (.cells z.cells t)) := by
     unfold execOp
     simp [ho, Instr.alloc, zeroValue, typeInfo, program, Sem.run, hi, hz, newVar, newRow, newObj]
    have h1000 : d < 1000 := by
     rcases blt_spec d 1000 with ⟨h, h2⟩ | ⟨h, h2⟩
     ·exact h2
     ·simp only [h] at hc1
    have := alloc_good (t := t) r hlook h1000 hdst (hzr w (Xs σ s.M w)) hrun
    simp only [hdst] at this ⊢
    exact this
   ·exact hc1.elim
  ·exact hc1.elim
 ·rename_i t x ho
  have hx := ev_sound r x
  split at hc
  ·rename_i y hev
   rw [hev] at hx
   cases hlo : lnkO C o.dst with
   | some i0 =>
    simp only [hlo] at hc ⊢
    exact boxL_sound r ho hx hc
   | none =>
   simp only [hlo] at hc ⊢
   obtain ⟨hc1, htup⟩ := hc
   have hv : VR1 w (Xs σ s.M w) (castD C.tab t y) (a.eval x) := castD_sound (VR.one hx htup)
   unfold aAlloc at hc1 ⊢
   split at hc1
   ·rename_i d hdst
    split at hc1
    ·rename_i hlook
     have hrun : (execOp a.eval o).run P w = .ok (.value (.pointer (some ⟨w.heap.size, 0, none⟩))) (w.alloc (.cells (a.eval x).cells t)) := by
      unfold execOp
      simp [ho, Instr.box, newVar, newRow, newObj, Sem.run]
     have h1000 : d < 1000 := by
      rcases blt_spec d 1000 with ⟨h, h2⟩ | ⟨h, h2⟩
      ·exact h2
      ·simp only [h] at hc1
     have := alloc_good (t := t) r hlook h1000 hdst hv hrun
     simp only [hdst] at this ⊢
     exact this
    ·exact hc1.elim
   ·exact hc1.elim
  ·exact hc.elim
 ·rename_i t ps ho
  cases hbo : bldO C o.dst with
  | some i0 =>
   simp only [hbo] at hc ⊢
   exact buildL_sound T r ho hc
  | none =>
   simp only [hbo] at hc ⊢
   exact build_sound T r ho hc
 ·rename_i t len ps ho; exact buildSlice_sound T r ho hc
 ·rename_i t x ho
  cases hrd : isRd C x <;> simp only [hrd, cond_true, cond_false] at hc ⊢
  ·exact nfR_good (cellR_good (load_sound T r ho (cellR_c (nfR_c hc))))
  ·unfold datR at hc ⊢
   cases hd : isDat (evA s.T x) <;> simp only [hd, cond_true, cond_false] at hc ⊢
   ·exact hc.elim
   ·exact load_sound T r ho hc
 ·rename_i t x y ho
  split at hc
  ·rename_i hd
   exact cellR_good (tlR_good (aStore_sound T r ho hd (tlR_c (cellR_c hc))))
  ·exact hc.elim
 ·rename_i op t x y t2 ho; exact aBin_sound T r ho hc
 ·rename_i op t x ho; exact un_sound r ho hc
 ·rename_i t u x ho
  cases hrd : isRd C x <;> simp only [hrd, cond_true, cond_false] at hc ⊢
  ·exact conv_sound T r ho hc
  ·unfold datS at hc ⊢
   cases hd : isD (evA s.T x) <;> simp only [hd, cond_true, cond_false] at hc ⊢
   ·exact hc.elim
   ·exact conv_sound T r ho hc
 ·rename_i t x y ho; exact make_sound T r ho hc
 ·rename_i t x lo hi mx ho
  cases hrd : isRd C x <;> simp only [hrd, cond_true, cond_false] at hc ⊢
  ·exact tlR_good (slice_sound T r ho (tlR_c hc))
  ·unfold datS at hc ⊢
   cases hd : isD (evA s.T x) <;> simp only [hd, cond_true, cond_false] at hc ⊢
   ·exact hc.elim
   ·exact slice_sound T r ho hc
 ·rename_i fn first captured ho; exact func_sound r ho hc
 ·rename_i t x f ho
  cases hrd : isRd C x <;> simp only [hrd, cond_true, cond_false] at hc ⊢
  ·exact nfR_good (fieldAddr_sound T r ho (nfR_c hc))
  ·unfold datR at hc ⊢
   cases hd : isDat (evA s.T x) <;> simp only [hd, cond_true, cond_false] at hc ⊢
   ·exact hc.elim
   ·exact fieldAddr_sound T r ho hc
 ·rename_i t x f ho; exact field_sound T r ho hc
 ·rename_i t x y ho; exact nfR_good (indexAddr_sound T r ho (nfR_c hc))
 ·rename_i t x y ho; exact index_sound T r ho hc
 ·rename_i t i ho; exact extract_sound r ho hc
 ·rename_i c ho
  split at hc
  ·rename_i hcal
   split at hc
   ·rename_i x t h1 h2; exact len_sound T r ho hcal h1 h2 hc
   ·exact hc.elim
  ·rename_i hcal
   split at hc
   ·rename_i x y t ts h1 h2; exact copy_sound T r ho hcal h1 h2 hc
   ·exact hc.elim
  ·rename_i hcal
   split at hc
   ·rename_i x y t t2 h1 h2
    cases happ : app0 C o.dst with
    | true =>
     simp only [happ, cond_true] at hc ⊢
     exact app0_sound T r ho hcal h1 h2 hc
    | false =>
     simp only [happ, cond_false] at hc ⊢
     exact new_sound T r ho hcal h1 h2 hc
   ·exact hc.elim
  ·rename_i hcal; exact min_sound r false ho hcal hc
  ·rename_i hcal; exact min_sound r true ho hcal hc
  ·rename_i x hcal
   split at hc
   ·rename_i f xs hf
    obtain ⟨ps, e1, e2⟩ := fnOf_eval r hf
    exact call_sound K r ho hcal e1 e2 hc
   ·exact hc.elim
  ·exact hc.elim
  ·exact hc.elim
 ·rename_i x ho; exact nil_sound r ho hc
 ·exact hc.elim
end
end Go.Vg
namespace Go.Vg
open Go Go.RowKit
def killR (b : Nat) : AV → AV
 | .row c => bif Nat.beq c b then .any else .row c
 | .rpt _ _ _ => .any
 | .tpr _ _ => .any
 | x => x
def unlB (r : Nat) : Blk → Blk
 | .lnk fs i (some q) => bif Nat.beq q r then .lnk fs i none else .lnk fs i (some q)
 | k => k
def unl (r : Nat) : Mem → Mem
 | [] => []
 | (b, k) :: m => (b, unlB r k) :: unl r m
theorem look_unl (r : Nat) : ∀ (M : Mem) (b : Nat), look (unl r M) b = (look M b).map (unlB r)
 | [], b => rfl
 | (c, k) :: m, b => by
  simp only [unl, look]
  cases Nat.beq c b
  ·exact look_unl r m b
  ·rfl
theorem unlB_fix {r : Nat} {k : Blk} {x : D} : unlB r k = .fix x ↔ k = .fix x := by
 unfold unlB
 split
 ·rename_i fs i q
  cases Nat.beq q r <;> exact ⟨fun h => (by cases h), fun h => (by cases h)⟩
 ·exact Iff.rfl
theorem unlB_row {r : Nat} {k : Blk} {e : TypeId} {x : D} : unlB r k = .row e x ↔ k = .row e x := by
 unfold unlB
 split
 ·rename_i fs i q
  cases Nat.beq q r <;> exact ⟨fun h => (by cases h), fun h => (by cases h)⟩
 ·exact Iff.rfl
theorem unlB_lnk {r : Nat} {k : Blk} {fs : List D} {i : Nat} {q : Option Nat} (h : unlB r k = .lnk fs i q) : ∃ q0, k = .lnk fs i q0 ∧ (∀ rr, q = some rr → q0 = some rr) ∧ q ≠ some r := by
 unfold unlB at h
 split at h
 ·rename_i gs j q0
  rcases beq_cases q0 r with ⟨hb, rfl⟩ | ⟨hb, hn⟩ <;> rw [hb] at h
  ·obtain ⟨rfl, rfl, rfl⟩ := Blk.lnk.inj h
   exact ⟨_, rfl, fun rr h => (by cases h), fun h => (by cases h)⟩
  ·obtain ⟨rfl, rfl, rfl⟩ := Blk.lnk.inj h
   exact ⟨_, rfl, fun rr h => h, fun h => hn (Option.some.inj h)⟩
 ·rename_i hne
  subst h
  cases q with
  | none => exact ⟨_, rfl, fun rr h => (by cases h), fun h => (by cases h)⟩
  | some q => exact absurd rfl (hne fs i q)
theorem look_unl_fix {r b : Nat} {M : Mem} {x : D} : look (unl r M) b = some (.fix x) ↔ look M b = some (.fix x) := by
 rw [look_unl]
 cases look M b with
 | none => exact ⟨fun h => (by cases h), fun h => (by cases h)⟩
 | some k => simp only [Option.map_some, Option.some.injEq]; exact unlB_fix
theorem look_unl_row {r b : Nat} {M : Mem} {e : TypeId} {x : D} : look (unl r M) b = some (.row e x) ↔ look M b = some (.row e x) := by
 rw [look_unl]
 cases look M b with
 | none => exact ⟨fun h => (by cases h), fun h => (by cases h)⟩
 | some k => simp only [Option.map_some, Option.some.injEq]; exact unlB_row
theorem look_unl_lnk {r b : Nat} {M : Mem} {fs : List D} {i : Nat} {q : Option Nat} (h : look (unl r M) b = some (.lnk fs i q)) : ∃ q0, look M b = some (.lnk fs i q0) ∧ (∀ rr, q = some rr → q0 = some rr) ∧ q ≠ some r := by
 rw [look_unl] at h
 cases hb : look M b with
 | none => rw [hb] at h; cases h
 | some k =>
  rw [hb] at h
  simp only [Option.map_some, Option.some.injEq] at h
  obtain ⟨q0, rfl, h1, h2⟩ := unlB_lnk h
  exact ⟨q0, rfl, h1, h2⟩
theorem unlB_of_lnk (r : Nat) (fs : List D) (i : Nat) (q : Option Nat) : ∃ q', unlB r (.lnk fs i q) = .lnk fs i q' := by
 cases q with
 | none => exact ⟨none, rfl⟩
 | some q =>
  simp only [unlB]
  cases Nat.beq q r
  ·exact ⟨_, rfl⟩
  ·exact ⟨_, rfl⟩
theorem look_unl_of_lnk (r : Nat) {b : Nat} {M : Mem} {fs : List D} {i : Nat} {q : Option Nat} (h : look M b = some (.lnk fs i q)) : ∃ q', look (unl r M) b = some (.lnk fs i q') := by
 obtain ⟨q', hq⟩ := unlB_of_lnk r fs i q
 exact ⟨q', by rw [look_unl, h, Option.map_some, hq]⟩
theorem look_unl_some {r b : Nat} {M : Mem} {k : Blk} (h : look (unl r M) b = some k) : ∃ k0, look M b = some k0 := by
 rw [look_unl] at h
 cases hb : look M b with
 | none => rw [hb] at h; cases h
 | some k => exact ⟨k, rfl⟩
theorem look_some_unl (r : Nat) {b : Nat} {M : Mem} {k : Blk} (h : look M b = some k) : look (unl r M) b = some (unlB r k) := by rw [look_unl, h]; rfl
theorem Xs_unl {σ : Sg} {M : Mem} {w : World} (r : Nat) (β : Nat) : Xs σ (unl r M) w β ↔ Xs σ M w β :=
 ⟨fun h => ⟨h.1, h.2.1, fun b _ hb => h.2.2 b _ (look_some_unl r hb)⟩, fun h => ⟨h.1, h.2.1, fun b _ hb => by
  obtain ⟨k0, hk⟩ := look_unl_some hb
  exact h.2.2 b k0 hk⟩⟩
theorem AR.unl {σ : Sg} {M : Mem} {w : World} {X : Nat → Prop} {y : AV} {v : Value} (r : Nat) (hv : AR σ M w X y v) : AR σ (unl r M) w X y v := by
 cases y with
 | d y => exact hv
 | any => trivial
 | bq p q => exact hv
 | dat y => exact hv
 | tpl c rs => obtain ⟨z, β, vs, hc, rest⟩ := hv; exact ⟨z, β, vs, look_unl_fix.2 hc, rest⟩
 | tpr c rs => obtain ⟨e, z, vs, hc, rest⟩ := hv; exact ⟨e, z, vs, look_unl_row.2 hc, rest⟩
 | row c => obtain ⟨e, z, hc, rest⟩ := hv; exact ⟨e, z, look_unl_row.2 hc, rest⟩
 | rpt c i n => obtain ⟨e, z, hc, rest⟩ := hv; exact ⟨e, z, look_unl_row.2 hc, rest⟩
 | ptr c p => obtain ⟨z, β, hc, rest⟩ := hv; exact ⟨z, β, look_unl_fix.2 hc, rest⟩
 | own c p off len cap => obtain ⟨z, β, k, n, l, α, hc, rest⟩ := hv; exact ⟨z, β, k, n, l, α, look_unl_fix.2 hc, rest⟩
 | sub c p off n => obtain ⟨z, β, k, m, l, hc, rest⟩ := hv; exact ⟨z, β, k, m, l, look_unl_fix.2 hc, rest⟩
 | lp c p =>
  obtain ⟨fs, i, q, β, hc, rest⟩ := hv
  obtain ⟨q', hq⟩ := look_unl_of_lnk r hc
  exact ⟨fs, i, q', β, hq, rest⟩
theorem BR.iff {σ : Sg} {w0 : World} {F : Nat → Nat → Prop} {w : World} {X X' : Nat → Prop} (h : ∀ β, X β → X' β) {b : Nat} {k : Blk} (hb : BR σ w0 F w X b k) : BR σ w0 F w X' b k := by
 have h' : ∀ β, X β → X' β ∧ w.heap[β]? = w.heap[β]? := fun β hβ => ⟨h β hβ, rfl⟩
 cases k with
 | fix x => obtain ⟨β, cs, e, h1, h2, h3, h4⟩ := hb; exact ⟨β, cs, e, h1, h2, h3, CR.mono h' _ _ h4⟩
 | row e x => obtain ⟨cs, sz, n, h1, h2, h3, h4⟩ := hb; exact ⟨cs, sz, n, h1, h2, h3.mono h', h4⟩
 | lnk fs i q => obtain ⟨g1, g2, u, g3, g4, β, cs, e, h1, h2, h3, h4⟩ := hb; exact ⟨g1, g2, u, g3, g4, β, cs, e, h1, h2, h3, CR.mono h' _ _ h4⟩
theorem Rel.unl {w0 : World} {F : Env} {σ : Sg} {s : St} {a : Act} {w : World} (r : Rel w0 F σ s a w) (b : Nat) : Rel w0 F σ ⟨s.T, unl b s.M⟩ a w := by
 have hX : ∀ β, Xs σ s.M w β → Xs σ (Go.Vg.unl b s.M) w β := fun β hβ => (Xs_unl b β).2 hβ
 refine ⟨r.defs, r.len, fun i y hy => ?_, fun c k hc => ?_, fun c c' k k' β h1 h2 h3 h4 => ?_, fun c fs i rr hc => ?_, r.frm, r.okn⟩
 ·obtain ⟨v, hv, ha⟩ := r.tmp i y hy
  exact ⟨v, hv, AR.mono (fun β hβ => ⟨hX β hβ, rfl⟩) y v (ha.unl b)⟩
 ·cases k with
  | fix x => exact (r.mem c _ (look_unl_fix.1 hc)).iff hX
  | row e x => exact (r.mem c _ (look_unl_row.1 hc)).iff hX
  | lnk fs i q =>
   obtain ⟨q0, h0, h1, h2⟩ := look_unl_lnk hc
   obtain ⟨g1, g2, u, g3, g4, rest⟩ := (r.mem c _ h0).iff hX
   exact ⟨g1, g2, u, g3, fun rr hr => g4 rr (h1 rr hr), rest⟩
 ·obtain ⟨_, h1⟩ := look_unl_some h1
  obtain ⟨_, h2⟩ := look_unl_some h2
  exact r.inj c c' _ _ β h1 h2 h3 h4
 ·obtain ⟨q0, h0, h1, h2⟩ := look_unl_lnk hc
  obtain rfl := h1 rr rfl
  obtain ⟨e, x, hr⟩ := r.lk c fs i rr h0
  exact ⟨e, x, look_unl_row.2 hr⟩
theorem unl_free (b : Nat) (M : Mem) : ∀ c fs i q, look (unl b M) c = some (.lnk fs i q) → q ≠ some b := fun c fs i q h => by
 obtain ⟨_, _, _, h2⟩ := look_unl_lnk h
 exact h2
def catD : D → D → Option D
 | .ints k l, .ints k' m => bif decide (k' = k) then some (.ints k (l ++ m)) else none
 | .slc sz xs, .slc sz' ys => bif Nat.beq sz' sz then some (.slc sz (xs ++ ys)) else none
 | _, _ => none
def lenD : D → Nat
 | .ints _ l => l.length
 | .slc _ xs => xs.length
 | _ => 0
def isInts : D → Bool
 | .ints _ _ => true
 | _ => false
def eszD : D → Nat
 | .ints _ _ => 1
 | .slc sz _ => sz
 | _ => 0
def gApp (C : Ctx) (dst : Option Nat) (t t2 : TypeId) (b : Nat) (z : D) (y : AV) (T : List AV) (M : Mem) : Prop × St :=
 match (tg C.tab t).ty, toD M y with
 | .slice e, some d => match catD z (castD C.tab t d) with
  | some z' => ⟨t2 = t ∧ (isInts z || isD y) = true ∧ lenD z' ≤ 140737488355328 ∧ lenD z' * (tg C.tab e).bytes ≤ 140737488355328 ∧ (tg C.tab e).size ≠ 0 ∧ eszD z = (tg C.tab e).size,
    St.put ⟨T.map (killR b), putM (unl b M) b (.row e z')⟩ dst (.row b)⟩
  | none => ⟨False, ⟨T, M⟩⟩
 | _, _ => ⟨False, ⟨T, M⟩⟩
def gAppend (C : Ctx) (dst : Option Nat) (t t2 : TypeId) (x y : AV) (s : St) : Prop × St :=
 match x with
 | .row b => match look s.M b, (tg C.tab t).ty with
  | some (.row e' z), .slice e => match gApp C dst t t2 b z y s.T s.M with
   | ⟨c, s'⟩ => ⟨e' = e ∧ c, s'⟩
  | _, _ => ⟨False, s⟩
 | .d (.val (.slice none 0 0)) => match dst, (tg C.tab t).ty with
  | some d, .slice e => match look s.M d with
   | none => match gApp C (some d) t t2 d (castD C.tab t (.val (.slice none 0 0))) y s.T (putM s.M d (.row e (castD C.tab t (.val (.slice none 0 0))))) with
    | ⟨c, s'⟩ => ⟨(tg C.tab e).size ≠ 0 ∧ c, s'⟩
   | some _ => ⟨False, s⟩
  | _, _ => ⟨False, s⟩
 | _ => ⟨False, s⟩
section
variable {P : Program} {w0 : World} {F : Env} {σ : Sg} {s : St} {a : Act} {w : World} {o : Oper}
theorem AR.rerow {M : Mem} {w' : World} {X X' : Nat → Prop} {b : Nat} {e : TypeId} {z : D} {k : Blk} (hb : look M b = some (.row e z)) (h : ∀ β, X β → X' β ∧ w'.heap[β]? = w.heap[β]?) {σ' : Sg} (hσ : ∀ c, c ≠ b → σ'.blk c = σ.blk c ∧ σ'.rv c = σ.rv c)
  {y : AV} {v : Value} (hv : AR σ M w X y v) : AR σ' (putM M b k) w' X' (killR b y) v := by
 cases y with
 | d y => exact VR.mono h y v hv
 | any => trivial
 | bq p q => exact hv
 | rpt c i n => trivial
 | tpr c rs => trivial
 | lp c p =>
  obtain ⟨fs, i, q, β, hc, hβ, rest⟩ := hv
  have hn : c ≠ b := fun h => by rw [h, hb] at hc; cases hc
  exact ⟨fs, i, q, β, by rw [look_put, if_neg hn]; exact hc, by rw [(hσ c hn).1]; exact hβ, rest⟩
 | sub c p off n =>
  obtain ⟨z', β, k, m, l, hc, hβ, rest⟩ := hv
  have hn : c ≠ b := fun h => by rw [h, hb] at hc; cases hc
  exact ⟨z', β, k, m, l, by rw [look_put, if_neg hn]; exact hc, by rw [(hσ c hn).1]; exact hβ, rest⟩
 | tpl c rs =>
  obtain ⟨z', β, vs, hc, hβ, hv, hr⟩ := hv
  have hn : c ≠ b := fun h => by rw [h, hb] at hc; cases hc
  exact ⟨z', β, vs, by rw [look_put, if_neg hn]; exact hc, by rw [(hσ c hn).1]; exact hβ, hv, hr.mono fun d u hu => VR.mono h d u hu⟩
 | dat y => exact AR.mono (σ := σ) (M := M) h (.dat y) v hv
 | row c =>
  simp only [killR]
  rcases beq_cases c b with ⟨hc, rfl⟩ | ⟨hc, hn⟩
  ·simp only [hc, cond_true]; trivial
  ·simp only [hc, cond_false]
   obtain ⟨e', z', hc', hv⟩ := hv
   exact ⟨e', z', by rw [look_put, if_neg hn]; exact hc', by rw [(hσ c hn).2]; exact hv⟩
 | ptr c p =>
  obtain ⟨z', β, hc, hβ, rest⟩ := hv
  have hn : c ≠ b := fun h => by rw [h, hb] at hc; cases hc
  exact ⟨z', β, by rw [look_put, if_neg hn]; exact hc, by rw [(hσ c hn).1]; exact hβ, rest⟩
 | own c p off len cap =>
  obtain ⟨z', β, k', n, l, α, hc, hβ, rest⟩ := hv
  have hn : c ≠ b := fun h => by rw [h, hb] at hc; cases hc
  exact ⟨z', β, k', n, l, α, by rw [look_put, if_neg hn]; exact hc, by rw [(hσ c hn).1]; exact hβ, rest⟩
theorem Rel.rerow (r : Rel w0 F σ s a w) {b : Nat} {e : TypeId} {z z' : D} {v' : Value} {w' : World} {sz n : Nat} {cs : List Value} (hb : look s.M b = some (.row e z)) (hg : w.grownBy w' (σ.rv b).ownBlock)
  (hun : ∀ c fs i q, look s.M c = some (.lnk fs i q) → q ≠ some b) (hown : w'.ownsRow 0 e sz v' n cs) (hplace : v'.ownBlock = (σ.rv b).ownBlock ∨ v'.ownBlock = some w.heap.size)
  (hrow : ∀ X', (∀ β, Xs σ s.M w β → X' β ∧ w'.heap[β]? = w.heap[β]?) → RowC w' X' z' sz n cs) :
  Rel w0 F ⟨fun c => if c = b then v'.ownBlock else σ.blk c, fun c => if c = b then v' else σ.rv c, σ.ok⟩ ⟨s.T.map (killR b), putM s.M b (.row e z')⟩ a w' := by
 obtain ⟨cs0, sz0, n0, q1, q2, q3, q4⟩ := r.mem b _ hb
 have hX : ∀ β, Xs σ s.M w β → Xs ⟨fun c => if c = b then v'.ownBlock else σ.blk c, fun c => if c = b then v' else σ.rv c, σ.ok⟩ (putM s.M b (.row e z')) w' β ∧ w'.heap[β]? = w.heap[β]? := by
  intro β hβ
  refine ⟨⟨Nat.lt_of_lt_of_le hβ.1 hg.size, hβ.2.1, fun c y hc => ?_⟩, hg.block β hβ.1 (fun h => hβ.2.2 b _ hb (by rw [q1, ← h]))⟩
  rw [look_put] at hc
  split at hc
  ·rename_i h
   simp only [h, if_true]
   rcases hplace with hp | hp
   ·rw [hp, ← q1]; exact hβ.2.2 b _ hb
   ·rw [hp]
    intro e
    have := Option.some.inj e
    have := hβ.1
    omega
  ·rename_i h
   simp only [if_neg h]
   exact hβ.2.2 c y hc
 refine ⟨r.defs, by simp [r.len], fun i y hy => ?_, fun c k hc => ?_, fun c c' k k' β h1 h2 h3 h4 => ?_, r.lk.put rfl (.inl rfl), ?_, r.okn⟩
 ·simp only [List.getElem?_map, Option.map_eq_some_iff] at hy
  obtain ⟨y0, hy0, rfl⟩ := hy
  obtain ⟨v, hv, ha⟩ := r.tmp i y0 hy0
  exact ⟨v, hv, ha.rerow hb hX (fun c h => ⟨if_neg h, if_neg h⟩)⟩
 ·rw [look_put] at hc
  split at hc
  ·rename_i h
   subst h
   obtain rfl := Option.some.inj hc
   refine ⟨cs, sz, n, by simp, by simpa using hown, hrow _ hX, fun g hg => ?_⟩
   simp only [if_true] at hg
   rcases hplace with hp | hp
   ·exact q4 g (by rw [← hp]; exact hg)
   ·rw [hp] at hg
    obtain rfl := Option.some.inj hg
    exact .inl r.frm.size
  ·rename_i h
   have hm := r.mem c k hc
   cases k with
   | fix z0 =>
    obtain ⟨γ, ds, e', h1, h2, h3, h4⟩ := hm
    refine ⟨γ, ds, e', by simp only [if_neg h]; exact h1, h2, ?_, CR.mono hX z0 ds h4⟩
    rw [hg.block γ (block_lt h3) (fun he => h (r.inj c b _ _ γ hc hb h1 (by rw [q1, ← he])))]
    exact h3
   | row e' z0 =>
    obtain ⟨ds, sz', n', h1, h2, h3, hRB⟩ := hm
    refine ⟨ds, sz', n', by simp only [if_neg h]; exact h1, ?_, h3.mono hX, by simp only [if_neg h]; exact hRB⟩
    simp only [if_neg h]
    refine ⟨h2.1, ?_⟩
    rcases h2.2 with h2 | ⟨g, cap, cur, hv, hgg, hh, rest⟩
    ·exact .inl h2
    ·refine .inr ⟨g, cap, cur, hv, hgg, ?_, rest⟩
     rw [hg.block g (block_lt hh) (fun he => h (r.inj c b _ _ g hc hb (by rw [h1, hv]; rfl) (by rw [q1, ← he])))]
     exact hh
   | lnk fs i q =>
    obtain ⟨g1, g2, u, g3, g4, γ, ds, e', h1, h2, h3, h4⟩ := hm
    refine ⟨g1, g2, u, g3, fun rr hr => ?_, γ, ds, e', by simp only [if_neg h]; exact h1, h2, ?_, CR.mono hX _ ds h4⟩
    ·have : rr ≠ b := fun e => hun c fs i q hc (by rw [hr, e])
     simp only [if_neg this]
     exact g4 rr hr
    ·rw [hg.block γ (block_lt h3) (fun he => h (r.inj c b _ _ γ hc hb h1 (by rw [q1, ← he])))]
     exact h3
 ·simp only at h3 h4
  rw [look_put] at h1 h2
  have far : ∀ c k, c ≠ b → look s.M c = some k → σ.blk c = some β → v'.ownBlock = some β → False := by
   intro c k hcb hc h3 h4
   rcases hplace with hp | hp
   ·exact hcb (r.inj c b _ _ β hc hb h3 (by rw [q1, ← hp, h4]))
   ·rw [hp] at h4
    have := r.blk_lt hc h3
    have := Option.some.inj h4
    omega
  by_cases e1 : c = b <;> by_cases e2 : c' = b
  ·rw [e1, e2]
  ·rw [if_pos e1] at h3
   rw [if_neg e2] at h4 h2
   exact (far c' _ e2 h2 h4 h3).elim
  ·rw [if_neg e1] at h3 h1
   rw [if_pos e2] at h4
   exact (far c _ e1 h1 h3 h4).elim
  ·rw [if_neg e1] at h3 h1
   rw [if_neg e2] at h4 h2
   exact r.inj c c' _ _ β h1 h2 h3 h4
 ·refine ⟨hg.os.trans r.frm.os, hg.tape.trans r.frm.tape, hg.output.trans r.frm.output, Nat.le_trans r.frm.size hg.size, fun k hk hF => ?_⟩
  rw [hg.block k (Nat.lt_of_lt_of_le hk r.frm.size) (fun h => by
   rcases q4 k h.symm with q | q
   ·omega
   ·exact hF ⟨_, q.2⟩)]
  exact r.frm.block k hk hF
theorem src_row (r : Rel w0 F σ s a w) {t : TypeId} {tab : Tab} {y : Operand} {d z z' : D} (hd : toD s.M (evA s.T y) = some d) (hz : catD z (castD tab t d) = some z') (hi : (isInts z || isD (evA s.T y)) = true) :
  ∃ ad m cp news, a.eval y = .slice ad m cp ∧ At w (fun β => β < w.heap.size) ad news ∧ news.length = m * eszD z ∧ (∀ u ∈ news, isCell u = true) ∧
   (∀ w' X' n cs, (∀ β, Xs σ s.M w β → X' β ∧ w'.heap[β]? = w.heap[β]?) → RowC w (Xs σ s.M w) z (eszD z) n cs → RowC w' X' z' (eszD z) (n + m) (cs ++ news)) ∧ lenD z' = lenD z + m := by
 have hX : ∀ β, Xs σ s.M w β → β < w.heap.size ∧ w.heap[β]? = w.heap[β]? := fun β hβ => ⟨hβ.1, rfl⟩
 obtain ⟨h1, h2⟩ := toD_sound r (ev_sound r y) hd
 have cast : ∀ {X : Nat → Prop}, VR w X d (a.eval y) → VR w X (castD tab t d) (a.eval y) := fun {X} h => by
  by_cases ht : d.isTup = false
  ·exact (castD_sound (VR.one h ht)).up
  ·cases d <;> first | exact absurd rfl ht | exact h
 generalize castD tab t d = D' at *
 unfold catD at hz
 split at hz
 ·rename_i k l k' m
  by_cases hk : k' = k
  ·subst hk
   simp only [decide_true, cond_true, Option.some.injEq] at hz
   subst hz
   obtain ⟨ad, cp, hv, hlc, hat⟩ := cast h1
   simp only [List.cons.injEq, and_true] at hv
   refine ⟨ad, m.length, cp, m.map (Value.int k'), hv, hat, by simp [eszD], fun u hu => by obtain ⟨_, _, rfl⟩ := List.mem_map.1 hu; rfl, fun w' X' n cs hX' hr => ?_, by simp [lenD]⟩
   obtain ⟨_, rfl, rfl⟩ := hr
   exact ⟨rfl, by simp, by simp⟩
  ·simp only [decide_eq_false hk, cond_false] at hz
   cases hz
 ·rename_i sz xs sz' ys
  rcases beq_cases sz' sz with ⟨hb, rfl⟩ | ⟨hb, _⟩
  ·simp only [hb, cond_true, Option.some.injEq] at hz
   subst hz
   have hdd : ∃ x, evA s.T y = .d x := by
    cases hev : evA s.T y with
    | d x => exact ⟨x, rfl⟩
    | _ => rw [hev] at hi; cases hi
   obtain ⟨ad, cp, cs', hv, hlc, hat, her⟩ := cast (h2 hdd)
   simp only [List.cons.injEq, and_true] at hv
   have hlen := ER.len _ _ her
   refine ⟨ad, ys.length, cp, cs', hv, hat.mono hX, hlen, fun u hu => ER.cell _ _ her u hu, fun w' X' n cs hX' hr => ?_, by simp [lenD]⟩
   ·obtain ⟨h0, hp, rfl, he⟩ := hr
    refine ⟨h0, hp, by simp, ?_⟩
    exact ER.append _ _ _ _ (ER.mono hX' _ _ _ he) (ER.mono hX' _ _ _ her)
  ·simp only [hb, cond_false] at hz
   cases hz
 ·cases hz
theorem gApp_sound {C : Ctx} (T : TabOk P C.tab) (r : Rel w0 F σ s a w) {c : Call} {t t2 e : TypeId} {x y : Operand} {b : Nat} {z : D} (ho : o.op = .call c) (hcal : c.callee = .builtin .append) (hargs : c.args.toList = [x, y]) (hat : c.argTypes.toList = [t, t2])
  (hty : (tg C.tab t).ty = .slice e) (hb : look s.M b = some (.row e z)) (hx : a.eval x = σ.rv b) (hc : (gApp C o.dst t t2 b z (evA s.T y) s.T s.M).1) (Q : Exit → Act → World → Prop) :
  o.wp P a w (fun a' w' => ∃ σ', Rel w0 F σ' (gApp C o.dst t t2 b z (evA s.T y) s.T s.M).2 a' w') Q := by
 have e1 : c.args = #[x, y] := by rw [← Array.toList_inj, hargs]
 have ht := (T t (tg_lt' (by rw [hty]; simp))).tslice _ hty
 unfold gApp at hc ⊢
 simp only [hty] at hc ⊢
 cases hd : toD s.M (evA s.T y) with
 | none => rw [hd] at hc; exact hc.elim
 | some d =>
  rw [hd] at hc
  simp only at hc ⊢
  cases hz : catD z (castD C.tab t d) with
  | none => rw [hz] at hc; exact hc.elim
  | some z' =>
   rw [hz] at hc
   simp only at hc ⊢
   obtain ⟨rfl, hi, hle, hby, hs0, hsz⟩ := hc
   have e2 : c.argTypes = #[t2, t2] := by rw [← Array.toList_inj, hat]
   obtain ⟨ad, m, cp, news, hv, hatn, hnl, hnc, hcat, hlen⟩ := src_row r hd hz hi
   obtain ⟨cs, sz, n, q1, q2, q3, _⟩ := r.mem b _ hb
   have hsz' : sz = eszD z ∧ n = lenD z := by
    cases z with
    | ints k l => obtain ⟨rfl, rfl, _⟩ := q3; exact ⟨rfl, rfl⟩
    | slc s' xs => obtain ⟨rfl, _, rfl, _⟩ := q3; exact ⟨rfl, rfl⟩
    | _ => exact q3.elim
   obtain ⟨rfl, rfl⟩ := hsz'
   have hs1 : (tg C.tab e).size ≠ 0 := hs0
   obtain ⟨i, zv, hinf, hisz, hiby, hzv, hzr⟩ := (T e (tg_lt hs1)).info
   have hzs : zv.cells.size = eszD z := by
    have := CR.sklen (VR1.cells (hzr w (Xs σ s.M w)))
    rw [(T e (tg_lt hs1)).sksz, Array.length_toList] at this
    omega
   rw [hlen] at hle hby
   obtain ⟨v', w', hrun, hown, hg, hplace⟩ := app_own (P := P) w 0 t2 o.type e i zv (eszD z) (tg C.tab e).bytes ht hinf hzv (by rw [hisz, hsz]) hiby hzs (by omega) (σ.rv b) (lenD z) cs q2 ad m cp news hnl hatn hnc (by unfold maxLen; omega) hby (Nat.zero_le _)
   have hrunO : (execOp a.eval o).run P w = .ok (.value v') w' := by
    unfold execOp
    simp only [ho, resolve, hcal, e1, e2, Sem.run_bind, Sem.run_pure, Result.andThen_ok, invoke, builtin, List.map_toArray, List.map_cons, List.map_nil, hx, hv, hrun]
   unfold Oper.wp
   rw [hrunO]
   have R' := (r.unl b).rerow (z' := z') (look_unl_row.2 hb) hg (unl_free b s.M) hown hplace (fun X' hX' => hcat w' X' _ _ (fun β hβ => hX' β ((Xs_unl b β).2 hβ)) q3)
   refine ⟨_, R'.put o.dst ?_⟩
   exact ⟨e, z', by rw [look_put, if_pos rfl], (if_pos rfl).symm⟩
theorem gAppend_sound {C : Ctx} (T : TabOk P C.tab) (r : Rel w0 F σ s a w) {c : Call} {t t2 : TypeId} {x y : Operand} (ho : o.op = .call c) (hcal : c.callee = .builtin .append) (hargs : c.args.toList = [x, y]) (hat : c.argTypes.toList = [t, t2])
  (hc : (gAppend C o.dst t t2 (evA s.T x) (evA s.T y) s).1) (Q : Exit → Act → World → Prop) :
  o.wp P a w (fun a' w' => ∃ σ', Rel w0 F σ' (gAppend C o.dst t t2 (evA s.T x) (evA s.T y) s).2 a' w') Q := by
 have hx := ev_sound r x
 unfold gAppend at hc ⊢
 split at hc
 ·rename_i b hev
  rw [hev] at hx
  obtain ⟨e0, z0, hb0, hv0⟩ := hx
  split at hc
  ·rename_i e' z e hb hty
   rw [hb0] at hb
   obtain ⟨rfl, rfl⟩ := Blk.row.inj (Option.some.inj hb)
   obtain ⟨rfl, hc⟩ := hc
   simp only [hb0, hty]
   exact gApp_sound T r ho hcal hargs hat hty hb0 hv0 hc Q
  ·exact hc.elim
 ·rename_i hev
  rw [hev] at hx
  have ex := ar_val hx
  split at hc
  ·rename_i d e hdst hty
   split at hc
   ·rename_i hlook
    obtain ⟨hs0, hc⟩ := hc
    simp only [hdst, hty, hlook]
    have R' := r.new' (k := .row e (castD C.tab t (.val (.slice none 0 0)))) hlook rfl (fun σ' h1 h2 => by
      refine ⟨[], eszD (castD C.tab t (.val (.slice none 0 0))), 0, by rw [h1, h2]; rfl, by rw [h2]; exact World.ownsRow_nil _ _ _ _, ?_, fun g hg => by rw [h2] at hg; cases hg⟩
      unfold castD
      simp only [hty]
      split
      ·exact ⟨rfl, rfl, rfl⟩
      ·exact ⟨rfl, Nat.pos_of_ne_zero hs0, rfl, rfl⟩)
    have := gApp_sound (o := o) (b := d) T R' ho hcal hargs hat hty (by rw [look_put, if_pos rfl]) (by simp [ex]) (by rw [hdst]; exact hc) Q
    rw [hdst] at this
    exact this
   ·exact hc.elim
  ·exact hc.elim
 ·exact hc.elim
def takeD (j : Nat) : D → D
 | .ints k l => .ints k (l.take j)
 | .slc sz xs => .slc sz (xs.take j)
 | d => d
def gTrunc (C : Ctx) (dst : Option Nat) (t : TypeId) (x hi : AV) (s : St) : Prop × St :=
 match x, hi with
 | .row b, .d (.val (.int _ j)) => match look s.M b, (tg C.tab t).ty with
  | some (.row e z), .slice e' => (e' = e ∧ 0 ≤ j ∧ j ≤ lenD z ∧ (tg C.tab e).size ≠ 0 ∧ eszD z = (tg C.tab e).size, St.put ⟨s.T.map (killR b), putM (unl b s.M) b (.row e (takeD j.toNat z))⟩ dst (.row b))
  | _, _ => (False, s)
 | _, _ => (False, s)
theorem gTrunc_sound {C : Ctx} (T : TabOk P C.tab) (r : Rel w0 F σ s a w) {t : TypeId} {x hi : Operand} (ho : o.op = .slice t x none (some hi) none) (hc : (gTrunc C o.dst t (evA s.T x) (evA s.T hi) s).1) (Q : Exit → Act → World → Prop) :
  o.wp P a w (fun a' w' => ∃ σ', Rel w0 F σ' (gTrunc C o.dst t (evA s.T x) (evA s.T hi) s).2 a' w') Q := by
 have hx := ev_sound r x
 have hh := ev_sound r hi
 unfold gTrunc at hc ⊢
 split at hc
 ·rename_i b k j hev heh
  rw [hev] at hx
  rw [heh] at hh
  obtain ⟨e0, z0, hb0, hv0⟩ := hx
  have ej := ar_int hh
  split at hc
  ·rename_i e z e' hb hty
   rw [hb0] at hb
   obtain ⟨rfl, rfl⟩ := Blk.row.inj (Option.some.inj hb)
   obtain ⟨rfl, hj0, hj1, hs0, hsz⟩ := hc
   simp only [hb0, hty]
   have ht := (T t (tg_lt' (by rw [hty]; simp))).tslice _ hty
   obtain ⟨cs, sz, n, q1, q2, q3, q4⟩ := r.mem b _ hb0
   have hsz' : sz = eszD z0 ∧ n = lenD z0 := by
    cases z0 with
    | ints k l => obtain ⟨rfl, rfl, _⟩ := q3; exact ⟨rfl, rfl⟩
    | slc s' xs => obtain ⟨rfl, _, rfl, _⟩ := q3; exact ⟨rfl, rfl⟩
    | _ => exact q3.elim
   obtain ⟨rfl, rfl⟩ := hsz'
   have key : ∃ v', (Instr.sliceAt t (a.eval x) none (some (a.eval hi)) none).run P w = .ok v' w ∧ w.ownsRow 0 e' (eszD z0) v' j.toNat (cs.take (j.toNat * eszD z0)) ∧ v'.ownBlock = (σ.rv b).ownBlock := by
    have hlen := q2.1
    rcases q2.2 with ⟨h, h0⟩ | ⟨g, cap, cur, h, hg, hh', hnc, hcm, hcs, htk⟩
    ·have j0 : j = 0 := by omega
     subst j0
     refine ⟨.slice none 0 0, ?_, ?_, by rw [h]⟩
     ·rw [hv0, h, ej]
      have hbd := run_bounds (P := P) (w := w) (b := true) (len := 0) (cap := 0) (lo := none) (hi := some (Value.int k 0)) (i := 0) (j := 0) (.inl ⟨rfl, rfl⟩) (.inr ⟨k, rfl⟩) (Int.le_refl _) (Int.le_refl _) (Int.le_refl _)
      simp only [Instr.sliceAt, Instr.slice, Sem.run_bind, run_underlying ht, Result.andThen_ok, hbd, index_add w T hs0, Sem.run_pure]
      rfl
     ·simp only [Int.toNat_zero, Nat.zero_mul, List.take_zero]
      exact World.ownsRow_nil _ _ _ _
    ·refine ⟨.slice (some ⟨g, 0, none⟩) j.toNat cap, ?_, ⟨?_, .inr ⟨g, cap, cur, rfl, hg, hh', by omega, hcm, hcs, ?_⟩⟩, by rw [h]; rfl⟩
     ·rw [hv0, h, ej]
      have hbd := run_bounds (P := P) (w := w) (b := true) (len := lenD z0) (cap := cap) (lo := none) (hi := some (Value.int k j)) (i := 0) (j := j) (.inl ⟨rfl, rfl⟩) (.inr ⟨k, rfl⟩) (Int.le_refl _) hj0 (by omega)
      simp only [Instr.sliceAt, Instr.slice, Sem.run_bind, run_underlying ht, Result.andThen_ok, hbd, index_add w T hs0, Sem.run_pure]
      congr 2
      ·split
       ·rfl
       ·simp [addr_add_none]
     ·have : j.toNat * eszD z0 ≤ lenD z0 * eszD z0 := Nat.mul_le_mul_right _ (by omega)
      rw [List.length_take]; omega
     ·have : j.toNat * eszD z0 ≤ lenD z0 * eszD z0 := Nat.mul_le_mul_right _ (by omega)
      rw [← htk, List.take_take, Nat.min_eq_left this]
   obtain ⟨v', hrun, hown, hpl⟩ := key
   have hrunO : (execOp a.eval o).run P w = .ok (.value v') w := by
    unfold execOp
    simp only [ho, Option.map_none, Option.map_some, Sem.run_bind, hrun, Result.andThen_ok, Sem.run_pure]
   unfold Oper.wp
   rw [hrunO]
   have R' := (r.unl b).rerow (z' := takeD j.toNat z0) (look_unl_row.2 hb0) (w' := w) ⟨rfl, rfl, rfl, Nat.le_refl _, fun _ _ _ => rfl⟩ (unl_free b s.M) hown (.inl hpl) (fun X' hX' => by
    have hX2 : ∀ β, Xs σ s.M w β → X' β ∧ w.heap[β]? = w.heap[β]? := fun β hβ => hX' β ((Xs_unl b β).2 hβ)
    cases z0 with
    | ints k l =>
     obtain ⟨_, _, rfl⟩ := q3
     simp only [eszD, Nat.mul_one, lenD] at hj1 ⊢
     exact ⟨rfl, by rw [List.length_take]; omega, by rw [List.map_take]⟩
    | slc s' xs =>
     obtain ⟨_, hp, _, her⟩ := q3
     simp only [eszD, lenD] at hj1 ⊢
     exact ⟨rfl, hp, by rw [List.length_take]; omega, ER.mono hX2 _ _ _ (ER.cut j.toNat xs cs her).2⟩
    | _ => exact q3.elim)
   refine ⟨_, R'.put o.dst ?_⟩
   exact ⟨e', takeD j.toNat z0, by rw [look_put, if_pos rfl], (if_pos rfl).symm⟩
  ·exact hc.elim
 ·exact hc.elim
end
end Go.Vg
namespace Go.Vg
open Go Go.RowKit
noncomputable def ioStep (C : Ctx) (f : FuncId) (dst : Option Nat) (avs : List AV) (s : St) : Prop × St :=
 match C.G f with
 | none => (False, s)
 | some sp => match lnkF sp.ps with
  | some (i, e) => (match avs with
   | .lp b p :: rest => match p, look s.M b, (bif allData rest then mapToD s.M C.tab rest sp.ps.tail else none) with
    | [], some (.lnk fs j (some r)), some ds => match look s.M r with
     | some (.row e' z) => match sp.f (.st (fs.set i z) :: ds) with
      | .tup [v, .st fs'] => (j = i ∧ e' = e ∧ sp.pre (.st (fs.set i z) :: ds), St.put ⟨s.T.map (killR r), putM (putM (unl r s.M) r (.row e (fs'.getD i default))) b (.lnk fs' i (some r))⟩ dst (.d v))
      | _ => (False, s)
     | _ => (False, s)
    | _, _, _ => (False, s)
   | _ => (False, s))
  | none => bif isIo sp then
   match avs with
   | .ptr b p :: rest => match p, look s.M b, (bif allData rest then mapToD s.M C.tab rest sp.ps.tail else none) with
    | [], some (.fix x), some ds => match sp.f (x :: ds) with
     | .tup [r, x'] => (sp.pre (x :: ds), St.put ⟨s.T, putM s.M b (.fix x')⟩ dst (.d r))
     | _ => (False, s)
    | _, _, _ => (False, s)
   | _ => (False, s)
  else match rwE sp.ps with
   | some e => (match dst, (bif allData avs then mapToD s.M C.tab avs sp.ps else none) with
    | some d, some ds => match look s.M d, sp.f ds with
     | none, .tup (x :: rs) => (sp.pre ds, St.put ⟨s.T, putM s.M d (.row e x)⟩ (some d) (match rs with | [] => .row d | _ => .tpr d rs))
     | _, _ => (False, s)
    | _, _ => (False, s))
   | none => match dst, (bif allData avs then mapToD s.M C.tab avs sp.ps else none) with
   | some d, some ds => match look s.M d, sp.f ds with
    | none, .tup (x :: rs) => (sp.pre ds ∧ (match Nat.blt d 1000 with | true => True | false => False), St.put ⟨s.T, putM s.M d (.fix x)⟩ (some d) (match rs with | [] => .ptr d [] | _ => .tpl d rs))
    | _, _ => (False, s)
   | _, _ => (False, s)
section
variable {P : Program} {tab : Tab} {w0 : World} {F : Env} {σ : Sg} {s : St} {a : Act} {w : World} {o : Oper}
theorem Xs_newAt {M : Mem} {d β : Nat} {k : Blk} (hd : look M d = none) {w w' : World} (hg : Grow w w') (hβ : w.heap.size ≤ β) {σ' : Sg} (hσ : ∀ c, c ≠ d → σ'.blk c = σ.blk c) (hnew : σ'.blk d = some β) (hok : σ'.ok = σ.ok) :
  ∀ γ, Xs σ M w γ → Xs σ' (putM M d k) w' γ ∧ w'.heap[γ]? = w.heap[γ]? := by
 intro γ hγ
 refine ⟨⟨Nat.lt_of_lt_of_le hγ.1 hg.size, by rw [hok]; exact hγ.2.1, fun c y hc => ?_⟩, hg.block γ hγ.1⟩
 rw [look_put] at hc
 split at hc
 ·rename_i h
  rw [h, hnew]
  intro e
  have := Option.some.inj e
  have := hγ.1
  omega
 ·rename_i h
  rw [hσ c h]
  exact hγ.2.2 c y hc
theorem Rel.newAt (r : Rel w0 F σ s a w) {d β : Nat} {k : Blk} {w' : World} (hd : look s.M d = none) (hkl : isLnkK k = false) (hg : Grow w w') (hβ : w.heap.size ≤ β)
  (hb : ∀ σ' : Sg, σ'.ok = σ.ok → (∀ c, c ≠ d → σ'.blk c = σ.blk c) → σ'.blk d = some β → BR σ' w0 F.F w' (Xs σ' (putM s.M d k) w') d k) :
  Rel w0 F ⟨fun c => if c = d then some β else σ.blk c, σ.rv, σ.ok⟩ ⟨s.T, putM s.M d k⟩ a w' := by
 have hσ : ∀ c, c ≠ d → (if c = d then some β else σ.blk c) = σ.blk c := fun c h => if_neg h
 have hX := Xs_newAt (σ := σ) (σ' := ⟨fun c => if c = d then some β else σ.blk c, σ.rv, σ.ok⟩) (k := k) hd hg hβ hσ (if_pos rfl) rfl
 refine ⟨r.defs, r.len, fun i y hy => ?_, fun c z hc => ?_, fun c c' z z' γ h1 h2 h3 h4 => ?_, r.lkp hd hkl, r.frm.trans (hg.frm F.any), r.okn⟩
 ·obtain ⟨v, hv, ha⟩ := r.tmp i y hy
  exact ⟨v, hv, AR.put_new (σ' := ⟨fun c => if c = d then some β else σ.blk c, σ.rv, σ.ok⟩) hd hX (fun c h => ⟨hσ c h, rfl⟩) ha⟩
 ·rw [look_put] at hc
  split at hc
  ·rename_i h
   subst h
   obtain rfl := Option.some.inj hc
   exact hb _ rfl hσ (if_pos rfl)
  ·rename_i h
   have hm := r.mem c z hc
   cases z with
   | fix z =>
    obtain ⟨γ, ds, e', h1, h2, h3, h4⟩ := hm
    exact ⟨γ, ds, e', by simp only [if_neg h]; exact h1, h2, by rw [hg.block γ (block_lt h3)]; exact h3, CR.mono hX z ds h4⟩
   | row e' z =>
    obtain ⟨ds, sz, n, h1, h2, h3, hRB⟩ := hm
    exact ⟨ds, sz, n, by simp only [if_neg h]; exact h1, ownsRow_grow hg h2, h3.mono hX, hRB⟩
   | lnk fs i q =>
    obtain ⟨g1, g2, u, g3, g4, γ, ds, e', h1, h2, h3, h4⟩ := hm
    exact ⟨g1, g2, u, g3, g4, γ, ds, e', by simp only [if_neg h]; exact h1, h2, by rw [hg.block γ (block_lt h3)]; exact h3, CR.mono hX _ ds h4⟩
 ·simp only at h3 h4
  rw [look_put] at h1 h2
  by_cases e1 : c = d <;> by_cases e2 : c' = d
  ·rw [e1, e2]
  ·rw [if_pos e1] at h3
   rw [if_neg e2] at h4 h2
   have := r.blk_lt h2 h4
   have := Option.some.inj h3
   omega
  ·rw [if_pos e2] at h4
   rw [if_neg e1] at h3 h1
   have := r.blk_lt h1 h3
   have := Option.some.inj h4
   omega
  ·rw [if_neg e1] at h3 h1
   rw [if_neg e2] at h4 h2
   exact r.inj c c' z z' γ h1 h2 h3 h4
theorem Rel.newR (r : Rel w0 F σ s a w) {d : Nat} {u : Value} {e : TypeId} {x : D} {w' : World} (hd : look s.M d = none) (hg : Grow w w') (hu : ∀ g, u.ownBlock = some g → w.heap.size ≤ g) {sz n : Nat} {cs : List Value} (hown : w'.ownsRow 0 e sz u n cs)
  (hrow : ∀ X', (∀ γ, ((Xs σ s.M w γ ∨ w.heap.size ≤ γ) ∧ γ < w'.heap.size ∧ u.ownBlock ≠ some γ) → X' γ) → RowC w' X' x sz n cs) :
  Rel w0 F ⟨fun c => if c = d then u.ownBlock else σ.blk c, fun c => if c = d then u else σ.rv c, σ.ok⟩ ⟨s.T, putM s.M d (.row e x)⟩ a w' ∧
   ∀ γ, ((Xs σ s.M w γ ∨ w.heap.size ≤ γ) ∧ γ < w'.heap.size ∧ u.ownBlock ≠ some γ) → Xs ⟨fun c => if c = d then u.ownBlock else σ.blk c, fun c => if c = d then u else σ.rv c, σ.ok⟩ (putM s.M d (.row e x)) w' γ := by
 have hσ : ∀ c, c ≠ d → (if c = d then u.ownBlock else σ.blk c) = σ.blk c := fun c h => if_neg h
 have hσ2 : ∀ c, c ≠ d → (if c = d then u else σ.rv c) = σ.rv c := fun c h => if_neg h
 have ne : ∀ {c : Nat} {z : Blk}, look s.M c = some z → c ≠ d := fun hc e => by rw [e, hd] at hc; cases hc
 have hXn : ∀ γ, ((Xs σ s.M w γ ∨ w.heap.size ≤ γ) ∧ γ < w'.heap.size ∧ u.ownBlock ≠ some γ) → Xs ⟨fun c => if c = d then u.ownBlock else σ.blk c, fun c => if c = d then u else σ.rv c, σ.ok⟩ (putM s.M d (.row e x)) w' γ := by
  rintro γ ⟨h, h2, h3⟩
  have hX0 : σ.ok γ ∧ ∀ b y, look s.M b = some y → σ.blk b ≠ some γ := by
   rcases h with h | h
   ·exact h.2
   ·exact ⟨r.okn.1 γ (Nat.le_trans r.frm.size h), fun b y hb hσ => by have := r.blk_lt hb hσ; omega⟩
  refine ⟨h2, hX0.1, fun c y hc => ?_⟩
  rw [look_put] at hc
  split at hc
  ·rename_i hcd
   simp only [hcd, if_true]
   exact h3
  ·rename_i hcd
   simp only [if_neg hcd]
   exact hX0.2 c y hc
 have hX : ∀ γ, Xs σ s.M w γ → Xs ⟨fun c => if c = d then u.ownBlock else σ.blk c, fun c => if c = d then u else σ.rv c, σ.ok⟩ (putM s.M d (.row e x)) w' γ ∧ w'.heap[γ]? = w.heap[γ]? := fun γ hγ =>
  ⟨hXn γ ⟨.inl hγ, Nat.lt_of_lt_of_le hγ.1 hg.size, fun h => by have := hu γ h; have := hγ.1; omega⟩, hg.block γ hγ.1⟩
 refine ⟨⟨r.defs, r.len, fun i y hy => ?_, fun c z hc => ?_, fun c c' z z' γ h1 h2 h3 h4 => ?_, r.lkp hd rfl, r.frm.trans (hg.frm F.any), r.okn⟩, hXn⟩
 ·obtain ⟨v, hv, ha⟩ := r.tmp i y hy
  exact ⟨v, hv, AR.put_new (σ' := ⟨fun c => if c = d then u.ownBlock else σ.blk c, fun c => if c = d then u else σ.rv c, σ.ok⟩) hd hX (fun c h => ⟨hσ c h, hσ2 c h⟩) ha⟩
 ·rw [look_put] at hc
  split at hc
  ·rename_i h
   subst h
   obtain rfl := Option.some.inj hc
   refine ⟨cs, sz, n, by simp, by simpa using hown, hrow _ hXn, fun g hg' => .inl ?_⟩
   simp only [if_true] at hg'
   exact Nat.le_trans r.frm.size (hu g hg')
  ·rename_i h
   have hm := r.mem c z hc
   cases z with
   | fix z =>
    obtain ⟨γ, ds, e', h1, h2, h3, h4⟩ := hm
    exact ⟨γ, ds, e', by simp only [if_neg h]; exact h1, h2, by rw [hg.block γ (block_lt h3)]; exact h3, CR.mono hX z ds h4⟩
   | row e' z =>
    obtain ⟨ds, sz, n, h1, h2, h3, hRB⟩ := hm
    exact ⟨ds, sz, n, by simp only [if_neg h]; exact h1, by simp only [if_neg h]; exact ownsRow_grow hg h2, h3.mono hX, by simp only [if_neg h]; exact hRB⟩
   | lnk fs i q =>
    obtain ⟨g1, g2, u, g3, g4, γ, ds, e', h1, h2, h3, h4⟩ := hm
    refine ⟨g1, g2, u, g3, fun rr hr => ?_, γ, ds, e', by simp only [if_neg h]; exact h1, h2, by rw [hg.block γ (block_lt h3)]; exact h3, CR.mono hX _ ds h4⟩
    subst hr
    obtain ⟨er, xr, hrr⟩ := r.lk c fs i rr hc
    simp only [if_neg (ne hrr)]
    exact g4 rr rfl
 ·simp only at h3 h4
  rw [look_put] at h1 h2
  by_cases e1 : c = d <;> by_cases e2 : c' = d
  ·rw [e1, e2]
  ·rw [if_pos e1] at h3
   rw [if_neg e2] at h4 h2
   have := r.blk_lt h2 h4
   have := hu γ h3
   omega
  ·rw [if_pos e2] at h4
   rw [if_neg e1] at h3 h1
   have := r.blk_lt h1 h3
   have := hu γ h4
   omega
  ·rw [if_neg e1] at h3 h1
   rw [if_neg e2] at h4 h2
   exact r.inj c c' z z' γ h1 h2 h3 h4
theorem Rel.ioL (r : Rel w0 F σ s a w) {b q β : Nat} {fs fs' : List D} {i : Nat} {e : TypeId} {z z' : D} {u' : Value} {w' : World} {cs' : List Value} {et' : TypeId} {sz n : Nat} {rcs : List Value}
  (hb : look s.M b = some (.lnk fs i (some q))) (hq : look s.M q = some (.row e z)) (hβ : σ.blk b = some β) (hs : sk (.st fs') = sk (.st fs))
  (hf : Frm (fun k => k = β ∨ (σ.rv q).ownBlock = some k) w w') (hu : isCell u' = true) (hub : u'.ownBlock ≠ some β) (hug : ∀ g, u'.ownBlock = some g → (σ.rv q).ownBlock = some g ∨ w.heap.size ≤ g)
  (hnew : w'.heap[β]? = some (.cells cs'.toArray et' (0, 0)))
  (hcr : CR w' (fun γ => (Xs σ s.M w γ ∨ w.heap.size ≤ γ) ∧ γ < w'.heap.size ∧ γ ≠ β ∧ u'.ownBlock ≠ some γ) (.st (fs'.set i (.val u'))) cs')
  (hown : w'.ownsRow 0 e sz u' n rcs) (hrow : RowC w' (fun γ => (Xs σ s.M w γ ∨ w.heap.size ≤ γ) ∧ γ < w'.heap.size ∧ γ ≠ β ∧ u'.ownBlock ≠ some γ) z' sz n rcs) :
  Rel w0 F ⟨fun c => if c = q then u'.ownBlock else σ.blk c, fun c => if c = q then u' else σ.rv c, σ.ok⟩ ⟨s.T.map (killR q), putM (putM (Go.Vg.unl q s.M) q (.row e z')) b (.lnk fs' i (some q))⟩ a w' ∧
   ∀ γ, ((Xs σ s.M w γ ∨ w.heap.size ≤ γ) ∧ γ < w'.heap.size ∧ γ ≠ β ∧ u'.ownBlock ≠ some γ) → Xs ⟨fun c => if c = q then u'.ownBlock else σ.blk c, fun c => if c = q then u' else σ.rv c, σ.ok⟩ (putM (putM (Go.Vg.unl q s.M) q (.row e z')) b (.lnk fs' i (some q))) w' γ := by
 have hbq : b ≠ q := fun e' => by rw [e', hq] at hb; cases hb
 obtain ⟨g1, g2, u, g3, g4, β', cs, et, hβ', hbF, hh, _⟩ := r.mem b _ hb
 rw [hβ] at hβ'
 obtain rfl := Option.some.inj hβ'
 obtain ⟨rcs0, sz0, n0, p1, p2, p3, p4⟩ := r.mem q _ hq
 have hlk : ∀ c, look (putM (putM (Go.Vg.unl q s.M) q (.row e z')) b (.lnk fs' i (some q))) c = if c = b then some (.lnk fs' i (some q)) else if c = q then some (.row e z') else look (Go.Vg.unl q s.M) c := fun c => by
  rw [look_put]
  split
  ·rfl
  ·rw [look_put]
 generalize putM (putM (Go.Vg.unl q s.M) q (.row e z')) b (.lnk fs' i (some q)) = M3 at hlk ⊢
 have lb : look M3 b = some (.lnk fs' i (some q)) := by rw [hlk, if_pos rfl]
 have lq : look M3 q = some (.row e z') := by rw [hlk, if_neg (Ne.symm hbq), if_pos rfl]
 have lo : ∀ {c}, c ≠ b → c ≠ q → look M3 c = look (Go.Vg.unl q s.M) c := fun h1 h2 => by rw [hlk, if_neg h1, if_neg h2]
 let σ' : Sg := ⟨fun c => if c = q then u'.ownBlock else σ.blk c, fun c => if c = q then u' else σ.rv c, σ.ok⟩
 have sb : ∀ {c}, c ≠ q → σ'.blk c = σ.blk c := fun h => if_neg h
 have sr : ∀ {c}, c ≠ q → σ'.rv c = σ.rv c := fun h => if_neg h
 have sq : σ'.blk q = u'.ownBlock := if_pos rfl
 have sq2 : σ'.rv q = u' := if_pos rfl
 show Rel w0 F σ' ⟨s.T.map (killR q), M3⟩ a w' ∧ ∀ γ, _ → Xs σ' M3 w' γ
 have hXn : ∀ γ, ((Xs σ s.M w γ ∨ w.heap.size ≤ γ) ∧ γ < w'.heap.size ∧ γ ≠ β ∧ u'.ownBlock ≠ some γ) → Xs σ' M3 w' γ := by
  rintro γ ⟨h, h2, h3, h4⟩
  have hX0 : σ.ok γ ∧ ∀ b y, look s.M b = some y → σ.blk b ≠ some γ := by
   rcases h with h | h
   ·exact h.2
   ·exact ⟨r.okn.1 γ (Nat.le_trans r.frm.size h), fun b y hb hσ => by have := r.blk_lt hb hσ; omega⟩
  refine ⟨h2, hX0.1, fun c y hc => ?_⟩
  by_cases hcq : c = q
  ·rw [hcq, sq]; exact h4
  ·rw [sb hcq]
   by_cases hcb : c = b
   ·rw [hcb, hβ]; exact fun e => h3 (Option.some.inj e).symm
   ·rw [lo hcb hcq] at hc
    obtain ⟨k0, hk⟩ := look_unl_some hc
    exact hX0.2 c k0 hk
 have old : ∀ γ, γ < w.heap.size → γ ≠ β → (σ.rv q).ownBlock ≠ some γ → w'.heap[γ]? = w.heap[γ]? := fun γ h1 h2 h3 => hf.block γ h1 (fun h => by rcases h with h | h; exact h2 h; exact h3 h)
 have hX : ∀ γ, Xs σ s.M w γ → Xs σ' M3 w' γ ∧ w'.heap[γ]? = w.heap[γ]? := fun γ hγ => by
  have h2 : γ ≠ β := fun e => hγ.2.2 b _ hb (by rw [hβ, e])
  have h3 : (σ.rv q).ownBlock ≠ some γ := fun e => hγ.2.2 q _ hq (by rw [p1, e])
  refine ⟨hXn γ ⟨.inl hγ, Nat.lt_of_lt_of_le hγ.1 hf.size, h2, fun h => ?_⟩, old γ hγ.1 h2 h3⟩
  rcases hug γ h with h | h
  ·exact h3 h
  ·have := hγ.1; omega
 have keep : ∀ {c k γ}, c ≠ b → c ≠ q → look s.M c = some k → σ.blk c = some γ → w'.heap[γ]? = w.heap[γ]? := fun {c k γ} h1 h2 hc hγ =>
  old γ (r.blk_lt hc hγ) (fun e => h1 (r.inj c b _ _ β hc hb (by rw [hγ, e]) hβ)) (fun e => h2 (r.inj c q _ _ γ hc hq hγ (by rw [p1, e])))
 refine ⟨⟨r.defs, by simp [r.len], fun j y hy => ?_, fun c k hc => ?_, fun c c' k k' γ h1 h2 h3 h4 => ?_, fun c gs j rr hc => ?_, ?_, r.okn⟩, hXn⟩
 ·simp only [List.getElem?_map, Option.map_eq_some_iff] at hy
  obtain ⟨y0, hy0, rfl⟩ := hy
  obtain ⟨v, hv, ha⟩ := r.tmp j y0 hy0
  refine ⟨v, hv, ?_⟩
  have nf : ∀ {c x}, look s.M c = some (.fix x) → c ≠ b ∧ c ≠ q ∧ look M3 c = some (.fix x) := fun {c x} hc => by
   have h1 : c ≠ b := fun e => by rw [e, hb] at hc; cases hc
   have h2 : c ≠ q := fun e => by rw [e, hq] at hc; cases hc
   exact ⟨h1, h2, by rw [lo h1 h2]; exact look_unl_fix.2 hc⟩
  have nr : ∀ {c e x}, look s.M c = some (.row e x) → c ≠ q → look M3 c = some (.row e x) := fun {c e x} hc h2 => by
   have h1 : c ≠ b := fun e => by rw [e, hb] at hc; cases hc
   rw [lo h1 h2]; exact look_unl_row.2 hc
  cases y0 with
  | d y => exact VR.mono hX y v ha
  | any => trivial
  | bq p1 p2 => exact ha
  | rpt c j n => trivial
  | tpr c rs => trivial
  | dat y => exact AR.mono (σ := σ) (M := s.M) hX (.dat y) v ha
  | tpl c rs =>
   obtain ⟨x, γ, vs, hc, hγ, hv, hr⟩ := ha
   obtain ⟨h1, h2, h3⟩ := nf hc
   exact ⟨x, γ, vs, h3, by rw [sb h2]; exact hγ, hv, hr.mono fun d u hu => VR.mono hX d u hu⟩
  | ptr c p =>
   obtain ⟨x, γ, hc, hγ, rest⟩ := ha
   obtain ⟨h1, h2, h3⟩ := nf hc
   exact ⟨x, γ, h3, by rw [sb h2]; exact hγ, rest⟩
  | own c p off len cap =>
   obtain ⟨x, γ, k, n, l, α, hc, hγ, rest⟩ := ha
   obtain ⟨h1, h2, h3⟩ := nf hc
   exact ⟨x, γ, k, n, l, α, h3, by rw [sb h2]; exact hγ, rest⟩
  | sub c p off n =>
   obtain ⟨x, γ, k, m, l, hc, hγ, rest⟩ := ha
   obtain ⟨h1, h2, h3⟩ := nf hc
   exact ⟨x, γ, k, m, l, h3, by rw [sb h2]; exact hγ, rest⟩
  | row c =>
   simp only [killR]
   rcases beq_cases c q with ⟨hcb, rfl⟩ | ⟨hcb, hn⟩
   ·simp only [hcb, cond_true]; trivial
   ·simp only [hcb, cond_false]
    obtain ⟨e', x, hc, hv⟩ := ha
    exact ⟨e', x, nr hc hn, by rw [sr hn]; exact hv⟩
  | lp c p =>
   obtain ⟨gs, j0, q0, γ, hc, hγ, hp, hv⟩ := ha
   have h2 : c ≠ q := fun e => by rw [e, hq] at hc; cases hc
   by_cases hcb : c = b
   ·subst hcb
    rw [hb] at hc
    obtain ⟨rfl, rfl, rfl⟩ := Blk.lnk.inj (Option.some.inj hc)
    exact ⟨fs', _, _, γ, lb, by rw [sb h2]; exact hγ, by rw [okP_iff, hs, ← okP_iff]; exact hp, by rw [hs]; exact hv⟩
   ·obtain ⟨q', hq'⟩ := look_unl_of_lnk q hc
    exact ⟨gs, j0, q', γ, by rw [lo hcb h2]; exact hq', by rw [sb h2]; exact hγ, hp, hv⟩
 ·by_cases hcq : c = q
  ·subst hcq
   rw [lq] at hc
   obtain rfl := Option.some.inj hc
   refine ⟨rcs, sz, n, by rw [sq, sq2], by rw [sq2]; exact hown, hrow.mono (fun γ hγ => ⟨hXn γ hγ, rfl⟩), fun g hg => ?_⟩
   rw [sq2] at hg
   rcases hug g hg with h | h
   ·exact p4 g h
   ·exact .inl (Nat.le_trans r.frm.size h)
  ·by_cases hcb : c = b
   ·subst hcb
    rw [lb] at hc
    obtain rfl := Option.some.inj hc
    have hs2 : sks fs' = sks fs := by simpa [sk] using hs
    have hl : fs'.length = fs.length := by rw [← sks_length, hs2, sks_length]
    have hi : i < fs'.length := by omega
    refine ⟨hi, by rw [← sks_getD fs' i hi, hs2, sks_getD fs i g1]; exact g2, u', hu, fun rr hr => by obtain rfl := Option.some.inj hr; exact sq2.symm, β, cs', et', by rw [sb hcq]; exact hβ, hbF, hnew, CR.mono (fun γ hγ => ⟨hXn γ hγ, rfl⟩) _ _ hcr⟩
   ·rw [lo hcb hcq] at hc
    cases k with
    | fix x =>
     have hc := look_unl_fix.1 hc
     obtain ⟨γ, ds, e', h1, h2, h3, h4⟩ := r.mem c _ hc
     exact ⟨γ, ds, e', by rw [sb hcq]; exact h1, h2, by rw [keep hcb hcq hc h1]; exact h3, CR.mono hX _ ds h4⟩
    | row e' x =>
     have hc := look_unl_row.1 hc
     obtain ⟨ds, sz', n', h1, h2, h3, hRB⟩ := r.mem c _ hc
     refine ⟨ds, sz', n', by rw [sb hcq, sr hcq]; exact h1, ?_, h3.mono hX, by rw [sr hcq]; exact hRB⟩
     rw [sr hcq]
     refine ⟨h2.1, ?_⟩
     rcases h2.2 with h2 | ⟨g, cap, cur, hv, hgg, hh, rest⟩
     ·exact .inl h2
     ·exact .inr ⟨g, cap, cur, hv, hgg, by rw [keep hcb hcq hc (by rw [h1, hv]; rfl)]; exact hh, rest⟩
    | lnk gs j q' =>
     obtain ⟨q0, hc, hq1, hq2⟩ := look_unl_lnk hc
     obtain ⟨k1, k2, v, k3, k4, γ, ds, e', h1, h2, h3, h4⟩ := r.mem c _ hc
     refine ⟨k1, k2, v, k3, fun rr hr => ?_, γ, ds, e', by rw [sb hcq]; exact h1, h2, by rw [keep hcb hcq hc h1]; exact h3, CR.mono hX _ ds h4⟩
     rw [sr (fun e => hq2 (by rw [hr, e]))]
     exact k4 rr (hq1 rr hr)
 ·have back : ∀ {c k}, look M3 c = some k → ∃ k0, look s.M c = some k0 := fun {c k} hc => by
   by_cases hcb : c = b
   ·exact ⟨_, by rw [hcb]; exact hb⟩
   ·by_cases hcq : c = q
    ·exact ⟨_, by rw [hcq]; exact hq⟩
    ·rw [lo hcb hcq] at hc
     exact look_unl_some hc
  obtain ⟨k1, h1⟩ := back h1
  obtain ⟨k2, h2⟩ := back h2
  have far : ∀ {c k}, c ≠ q → look s.M c = some k → σ.blk c = some γ → u'.ownBlock = some γ → False := fun {c k} hcq hc hcγ huγ => by
   rcases hug γ huγ with h | h
   ·exact hcq (r.inj c q _ _ γ hc hq hcγ (by rw [p1, h]))
   ·have := r.blk_lt hc hcγ; omega
  by_cases e1 : c = q <;> by_cases e2 : c' = q
  ·rw [e1, e2]
  ·rw [e1, sq] at h3
   rw [sb e2] at h4
   exact (far e2 h2 h4 h3).elim
  ·rw [e2, sq] at h4
   rw [sb e1] at h3
   exact (far e1 h1 h3 h4).elim
  ·rw [sb e1] at h3
   rw [sb e2] at h4
   exact r.inj c c' _ _ γ h1 h2 h3 h4
 ·by_cases hcb : c = b
  ·rw [hcb, lb] at hc
   obtain ⟨rfl, rfl, h⟩ := Blk.lnk.inj (Option.some.inj hc)
   obtain rfl := Option.some.inj h
   exact ⟨e, z', lq⟩
  ·by_cases hcq : c = q
   ·rw [hcq, lq] at hc; cases hc
   ·rw [lo hcb hcq] at hc
    obtain ⟨q0, hc, hq1, hq2⟩ := look_unl_lnk hc
    obtain rfl := hq1 rr rfl
    obtain ⟨er, xr, hr⟩ := r.lk c gs j rr hc
    have h1 : rr ≠ b := fun e => by rw [e, hb] at hr; cases hr
    have h2 : rr ≠ q := fun e => hq2 (by rw [e])
    exact ⟨er, xr, by rw [lo h1 h2]; exact look_unl_row.2 hr⟩
 ·refine ⟨hf.os.trans r.frm.os, hf.tape.trans r.frm.tape, hf.output.trans r.frm.output, Nat.le_trans r.frm.size hf.size, fun k hk hF => ?_⟩
  rw [hf.block k (Nat.lt_of_lt_of_le hk r.frm.size) (fun h => by
   rcases h with h | h
   ·rcases hbF with h' | h'
    ·omega
    ·exact hF (by rw [h]; exact ⟨_, h'.2⟩)
   ·rcases p4 k h with h' | h'
    ·omega
    ·exact hF ⟨_, h'.2⟩)]
  exact r.frm.block k hk hF
theorem Rel.newX (r : Rel w0 F σ s a w) {γ : Nat} {w' : World} (h1 : w.heap.size ≤ γ) (h2 : γ < w'.heap.size) : Xs σ s.M w' γ :=
 ⟨h2, r.okn.1 γ (Nat.le_trans r.frm.size h1), fun b x hb hσ => by have := r.blk_lt hb hσ; omega⟩
theorem Rel.io (r : Rel w0 F σ s a w) {b β : Nat} {x x' : D} {w' : World} {cs' : List Value} {e' : TypeId} (hb : look s.M b = some (.fix x)) (hβ : σ.blk b = some β) (hs : sk x' = sk x)
  (hf : Frm (· = β) w w') (hnew : w'.heap[β]? = some (.cells cs'.toArray e' (0, 0))) (hcr : CR w' (fun γ => (Xs σ s.M w γ ∨ w.heap.size ≤ γ) ∧ γ < w'.heap.size ∧ γ ≠ β) x' cs') :
  Rel w0 F σ ⟨s.T, putM s.M b (.fix x')⟩ a w' ∧ ∀ γ, ((Xs σ s.M w γ ∨ w.heap.size ≤ γ) ∧ γ < w'.heap.size ∧ γ ≠ β) → Xs σ (putM s.M b (.fix x')) w' γ := by
 obtain ⟨β', cs, e, h1, _, h3, _⟩ := r.mem b _ hb
 rw [hβ] at h1
 obtain rfl := Option.some.inj h1
 have hlt := block_lt h3
 let w2 : World := { w' with heap := w'.heap.setIfInBounds β (.cells cs.toArray e (0, 0)) }
 have hg : Grow w w2 := by
  refine ⟨hf.os, hf.tape, hf.output, by simp [w2]; exact hf.size, fun k hk => ?_⟩
  show (w'.heap.setIfInBounds β _)[k]? = _
  by_cases h : k = β
  ·subst h
   rw [Array.getElem?_setIfInBounds_self_of_lt (Nat.lt_of_lt_of_le hlt hf.size), h3]
  ·rw [Array.getElem?_setIfInBounds_ne (fun e => h e.symm)]
   exact hf.block k hk h
 have r2 := r.grow hg
 have hsz : w'.heap.size = w2.heap.size := by simp [w2]
 have hXX : ∀ γ, ((Xs σ s.M w γ ∨ w.heap.size ≤ γ) ∧ γ < w'.heap.size ∧ γ ≠ β) → Xs σ s.M w2 γ := by
  rintro γ ⟨h | h, h2, _⟩
  ·exact ⟨by rw [← hsz]; exact h2, h.2⟩
  ·exact r.newX h (by rw [← hsz]; exact h2)
 have R := r2.write (w' := w') (x' := x') (cs' := cs') (e := e') hb hβ hs rfl rfl rfl hsz (fun k hk => by
  show _ = (w'.heap.setIfInBounds β _)[k]?
  rw [Array.getElem?_setIfInBounds_ne (fun e => hk e.symm)]) hnew (CR.mono (fun γ hγ => ⟨hXX γ hγ, rfl⟩) x' cs' hcr)
 refine ⟨R, fun γ hγ => ?_⟩
 have := hXX γ hγ
 exact ⟨hγ.2.1, this.2.1, fun c y hc => by
  rw [look_put] at hc
  split at hc
  ·rename_i h; subst h; exact this.2.2 c _ hb
  ·exact this.2.2 c y hc⟩
theorem upon_calls {vs : Array Value} {f : FuncId} {R : Value → World → Prop} {next : Act → World → Prop} {Q : Exit → Act → World → Prop} (h : UponCall P f vs w R) (hrun : (execOp a.eval o).run P w = (callFunc f vs).run P w)
  (hn : ∀ v w', R v w' → next (a.put o.dst v) w') : o.wp P a w next Q := by
 unfold Oper.wp
 rw [hrun]
 unfold UponCall at h
 generalize (callFunc f vs).run P w = res at h
 cases res with
 | halt x w' => exact h.elim
 | ok nx w' =>
  cases nx <;> first
   | exact h.elim
   | exact hn _ _ h
   | skip
  rename_i g args
  refine Calls.mono h fun e w'' ⟨v, he, hr⟩ => ?_
  subst he
  exact hn _ _ hr
theorem ioStep_sound {C : Ctx} (K : CtxOk P C) (r : Rel w0 F σ s a w) {c : Call} {f : FuncId} (ho : o.op = .call c) (hcal : c.callee = .value (.func f)) (hfl : (match C.G f with | some sp => ioFlag sp | none => false) = true)
  (hc : (ioStep C f o.dst (c.args.toList.map (evA s.T)) s).1) (Q : Exit → Act → World → Prop) :
  o.wp P a w (fun a' w' => ∃ σ', Rel w0 F σ' (ioStep C f o.dst (c.args.toList.map (evA s.T)) s).2 a' w') Q := by
 have hav := all2_evs r c.args.toList
 have hrun : (execOp a.eval o).run P w = (callFunc f (c.args.toList.map a.eval).toArray).run P w := by
  unfold execOp
  simp only [ho, resolve, hcal, Act.eval, Deferred.ofValue, Sem.run_bind, Sem.run_pure, Result.andThen_ok, invoke]
  congr 2
  apply Array.ext'
  simp
 unfold ioStep at hc ⊢
 cases hG : C.G f with
 | none => simp only [hG] at hc
 | some sp =>
  simp only [hG] at hc hfl ⊢
  have KM := K.2 f sp hG
  unfold MeetsQ at KM
  rw [hfl] at KM
  simp only [cond_true, MeetsP] at KM
  cases hlf : lnkF sp.ps with
  | some ie =>
   obtain ⟨i, e⟩ := ie
   simp only [hlf] at hc KM ⊢
   generalize hxs : c.args.toList.map (evA s.T) = avs at hc hav ⊢
   generalize hvs : c.args.toList.map a.eval = vs at hav hrun
   split at hc
   ·rename_i b p rest
    cases hav with
    | cons h1 hrest =>
     rename_i v0 vrest
     split at hc
     ·rename_i fs j q ds hb hds
      split at hc
      ·rename_i e' z hq
       split at hc
       ·rename_i v fs' hsf
        obtain ⟨rfl, rfl, hpre⟩ := hc
        obtain ⟨gs, j0, q0, β, hz, hσ, _, hv0⟩ := h1
        rw [hb] at hz
        obtain ⟨rfl, rfl, rfl⟩ := Blk.lnk.inj (Option.some.inj hz)
        have hall : allData rest = true := by
         cases hh : allData rest with
         | true => rfl
         | false => rw [hh] at hds; cases hds
        rw [hall] at hds
        simp only [cond_true] at hds
        obtain ⟨_, hd2⟩ := all_toD r rest vrest hrest sp.ps.tail ds hds
        obtain ⟨g1, g2, u, g3, g4, β', cs, et, q1, q2, q3, q4⟩ := r.mem b _ hb
        rw [hσ] at q1
        obtain rfl := Option.some.inj q1
        have hu := g4 q rfl
        subst hu
        obtain ⟨rcs, sz, n, p1, p2, p3, p4⟩ := r.mem q _ hq
        have hbq : b ≠ q := fun e => by rw [e, hq] at hb; cases hb
        have hub : (σ.rv q).ownBlock ≠ some β := fun e => hbq (r.inj b q _ _ β hb hq hσ (by rw [p1, e]))
        have hXb : ∀ γ, Xs σ s.M w γ → (Xs σ s.M w γ ∧ γ < w.heap.size ∧ γ ≠ β ∧ (σ.rv q).ownBlock ≠ some γ) ∧ w.heap[γ]? = w.heap[γ]? := fun γ hγ => ⟨⟨hγ, hγ.1, fun e => hγ.2.2 b _ hb (by rw [e]; exact hσ), fun e => hγ.2.2 q _ hq (by rw [p1, e])⟩, rfl⟩
        have hgl : ∀ g d, lookG gls g = some d → g ≠ β ∧ (σ.rv q).ownBlock ≠ some g := by
         intro g d hg
         obtain ⟨_, ⟨_, _, k3⟩, _⟩ := r.gw g d hg
         exact ⟨fun e => k3 b _ hb (by rw [e]; exact hσ), fun e => k3 q _ hq (by rw [p1, e])⟩
        have hzone : sk z = .one := by
         cases z <;> first | rfl | exact p3.elim
        have M := KM (fs.set j z) ds hpre (by simpa using g1) (by rw [getDset_eq fs _ _ g1]; exact hzone) (Xs σ s.M w) w vrest β cs et (σ.rv q) sz n rcs r.gw hgl hub g3 q3 (by rw [List.set_set]; exact CR.mono hXb _ _ q4) p2 (by rw [getDset_eq fs _ _ g1]; exact p3.mono hXb) ((hd2 hall).mono fun d v hv => VR.mono hXb d v hv)
        rw [show (⟨β, offS (sk (.st fs)) [], none⟩ : Addr) = ⟨β, 0, none⟩ by rw [offS_nil]] at hv0
        subst hv0
        refine upon_calls M hrun ?_
        rintro v1 w' ⟨hfr, r1, fs1, u', cs', et', sz', n', rcs', hf1, hs1, hu1, hh1, hub1, hug1, hcr1, hown1, hrow1, hv1⟩
        rw [hsf] at hf1
        simp only [D.tup.injEq, List.cons.injEq, and_true, D.st.injEq] at hf1
        obtain ⟨rfl, rfl⟩ := hf1
        have hsk : sk (.st (fs.set j z)) = sk (.st fs) := by
         simp only [sk]
         rw [sks_set fs j _ g1 (by rw [hzone, g2])]
        obtain ⟨R, hX⟩ := r.ioL hb hq hσ (hs1.trans hsk) hfr hu1 hub1 hug1 hh1 hcr1 hown1 hrow1
        exact ⟨_, R.put o.dst (VR.mono (fun γ hγ => ⟨hX γ hγ, rfl⟩) _ _ hv1)⟩
       ·exact hc.elim
      ·exact hc.elim
     ·exact hc.elim
   ·exact hc.elim
  | none =>
  simp only [hlf] at hc KM ⊢
  cases hio : isIo sp with
  | true =>
   simp only [hio, cond_true] at hc KM ⊢
   generalize hxs : c.args.toList.map (evA s.T) = avs at hc hav ⊢
   generalize hvs : c.args.toList.map a.eval = vs at hav hrun
   split at hc
   ·rename_i b p rest
    cases hav with
    | cons h1 hrest =>
     rename_i v0 vrest
     split at hc
     ·rename_i x ds hb hds
      split at hc
      ·rename_i r0 x' hf
       obtain ⟨z, β, hz, hσ, _, hv0⟩ := h1
       rw [hb] at hz
       obtain rfl := Blk.fix.inj (Option.some.inj hz)
       have hall : allData rest = true := by
        cases hh : allData rest with
        | true => rfl
        | false => rw [hh] at hds; cases hds
       rw [hall] at hds
       simp only [cond_true] at hds
       obtain ⟨_, hd2⟩ := all_toD r rest vrest hrest sp.ps.tail ds hds
       obtain ⟨β', cs, e, q1, q2, q3, q4⟩ := r.mem b _ hb
       rw [hσ] at q1
       obtain rfl := Option.some.inj q1
       have hXb : ∀ γ, Xs σ s.M w γ → (Xs σ s.M w γ ∧ γ < w.heap.size ∧ γ ≠ β) ∧ w.heap[γ]? = w.heap[γ]? := fun γ hγ => ⟨⟨hγ, hγ.1, fun e => hγ.2.2 b _ hb (by rw [e]; exact hσ)⟩, rfl⟩
       have hgl : ∀ g d, lookG gls g = some d → g ≠ β := by
        rintro g d hg rfl
        rcases q2 with q2 | q2
        ·have := (r.okn.2.2.1 g d hg).1
         omega
        ·exact r.okn.2.2.2 g d hg _ q2.2
       have M := KM x ds hc (Xs σ s.M w) w vrest β cs e r.gw hgl q3 (CR.mono hXb _ _ q4) ((hd2 hall).mono fun d v hv => VR.mono hXb d v hv)
       rw [show (⟨β, offS (sk x) [], none⟩ : Addr) = ⟨β, 0, none⟩ by rw [offS_nil]] at hv0
       subst hv0
       refine upon_calls M hrun ?_
       rintro v w' ⟨hfr, r1, x1, cs1, e1, hf1, hs1, hh1, hcr1, hv1⟩
       rw [hf] at hf1
       simp only [D.tup.injEq, List.cons.injEq, and_true] at hf1
       obtain ⟨rfl, rfl⟩ := hf1
       obtain ⟨R, hX⟩ := r.io hb hσ hs1 hfr hh1 hcr1
       exact ⟨σ, R.put o.dst (VR.mono (fun γ hγ => ⟨hX γ hγ, rfl⟩) _ _ hv1)⟩
      ·exact hc.elim
     ·exact hc.elim
   ·exact hc.elim
  | false =>
   simp only [hio, cond_false] at hc KM ⊢
   cases hrw : rwE sp.ps with
   | some e =>
    simp only [hrw] at hc KM ⊢
    generalize hxs : c.args.toList.map (evA s.T) = avs at hc hav ⊢
    generalize hvs : c.args.toList.map a.eval = vs at hav hrun
    split at hc
    ·rename_i d ds hdst hds
     have hall : allData avs = true := by
      cases hh : allData avs with
      | true => rfl
      | false => rw [hh] at hds; cases hds
     rw [hall] at hds
     simp only [cond_true] at hds
     obtain ⟨_, hd2⟩ := all_toD r avs vs hav sp.ps ds hds
     split at hc
     ·rename_i x rs hl hf
      have M := KM ds hc (Xs σ s.M w) w vs r.gw ((hd2 hall).mono fun d v hv => VR.mono (fun γ hγ => ⟨⟨hγ, hγ.1⟩, rfl⟩) d v hv)
      refine upon_calls M hrun ?_
      rintro v w' ⟨hg, x1, rs1, sz, n, cs, u, us, hf1, hown, hu, hrow, hus, hv⟩
      rw [hf] at hf1
      simp only [D.tup.injEq, List.cons.injEq] at hf1
      obtain ⟨rfl, rfl⟩ := hf1
      obtain ⟨R, hX⟩ := r.newR hl hg hu hown (fun X' hX' => hrow.mono fun γ hγ => ⟨hX' γ hγ, rfl⟩)
      rw [hdst] at *
      refine ⟨_, R.put (some d) ?_⟩
      subst hv
      cases rs with
      | nil => exact ⟨e, x, by rw [look_put, if_pos rfl], (if_pos rfl).symm⟩
      | cons y rs => exact ⟨e, x, us, by rw [look_put, if_pos rfl], by simp, hus.mono fun d u hu => VR.mono (fun γ hγ => ⟨hX γ hγ, rfl⟩) d u hu⟩
     ·exact hc.elim
    ·exact hc.elim
   | none =>
   simp only [hrw] at hc KM ⊢
   generalize hxs : c.args.toList.map (evA s.T) = avs at hc hav ⊢
   generalize hvs : c.args.toList.map a.eval = vs at hav hrun
   split at hc
   ·rename_i d ds hdst hds
    have hall : allData avs = true := by
     cases hh : allData avs with
     | true => rfl
     | false => rw [hh] at hds; cases hds
    rw [hall] at hds
    simp only [cond_true] at hds
    obtain ⟨_, hd2⟩ := all_toD r avs vs hav sp.ps ds hds
    split at hc
    ·rename_i x rs hl hf
     obtain ⟨hpre, h1000⟩ := hc
     have h1000 : d < 1000 := by
      rcases blt_spec d 1000 with ⟨h, h2⟩ | ⟨h, h2⟩
      ·exact h2
      ·rw [h] at h1000
       exact h1000.elim
     have M := KM ds hpre (Xs σ s.M w) w vs r.gw ((hd2 hall).mono fun d v hv => VR.mono (fun γ hγ => ⟨⟨hγ, hγ.1⟩, rfl⟩) d v hv)
     refine upon_calls M hrun ?_
     rintro v w' ⟨hg, x1, rs1, β, cs, e, us, hf1, hβ, hh, hcr, hus, hv⟩
     rw [hf] at hf1
     simp only [D.tup.injEq, List.cons.injEq] at hf1
     obtain ⟨rfl, rfl⟩ := hf1
     have hXn : ∀ σ' : Sg, σ'.ok = σ.ok → (∀ c, c ≠ d → σ'.blk c = σ.blk c) → σ'.blk d = some β → ∀ γ, ((Xs σ s.M w γ ∨ w.heap.size ≤ γ) ∧ γ < w'.heap.size ∧ γ ≠ β) → Xs σ' (putM s.M d (.fix x)) w' γ := by
      rintro σ' s1 s2 s3 γ ⟨h, h2, h3⟩
      have hX0 : Xs σ s.M w' γ := by
       rcases h with h | h
       ·exact ⟨h2, h.2⟩
       ·exact r.newX h h2
      refine ⟨h2, by rw [s1]; exact hX0.2.1, fun b y hb => ?_⟩
      rw [look_put] at hb
      split at hb
      ·rename_i hbd
       rw [hbd, s3]
       intro e
       exact h3 (Option.some.inj e).symm
      ·rename_i hbd
       rw [s2 b hbd]
       exact hX0.2.2 b y hb
     have R := r.newAt (k := .fix x) hl rfl hg hβ (fun σ' s1 s2 s3 => ⟨β, cs, e, s3, .inl ⟨h1000, Nat.le_trans r.frm.size hβ⟩, hh, CR.mono (fun γ hγ => ⟨hXn σ' s1 s2 s3 γ hγ, rfl⟩) x cs hcr⟩)
     rw [hdst] at *
     refine ⟨_, R.put (some d) ?_⟩
     have hXn2 := hXn ⟨fun c => if c = d then some β else σ.blk c, σ.rv, σ.ok⟩ rfl (fun c h => if_neg h) (if_pos rfl)
     subst hv
     cases rs with
     | nil => exact ⟨x, β, by rw [look_put, if_pos rfl], if_pos rfl, by cases x <;> exact True.intro, by rw [offS_nil]⟩
     | cons y rs => exact ⟨x, β, us, by rw [look_put, if_pos rfl], if_pos rfl, rfl, hus.mono fun d u hu => VR.mono (fun γ hγ => ⟨hXn2 γ hγ, rfl⟩) d u hu⟩
    ·exact hc.elim
   ·exact hc.elim
end
end Go.Vg
namespace Go.Vg
open Go Go.RowKit
def frz1 (b : Nat) (k : Blk) : AV → AV
 | .row c => bif Nat.beq c b then (match k with | .row _ x => .d x | _ => .any) else .row c
 | .ptr c p => bif Nat.beq c b then (match k with | .fix x => .dat (getP x p) | _ => .any) else .ptr c p
 | .own c p off len cap => bif Nat.beq c b then (match k with
   | .fix x => (match getP x p with | .arr k _ l => .d (.ints k ((l.drop off).take len)) | _ => .any)
   | _ => .any) else .own c p off len cap
 | .rpt _ _ _ => .any
 | .tpr _ _ => .any
 | .sub c p off n => bif Nat.beq c b then .any else .sub c p off n
 | .tpl c rs => bif Nat.beq c b then .any else .tpl c rs
 | x => x
def frzB (b : Nat) (s : St) : St :=
 match look s.M b with
 | some k => bif Nat.blt b 1000 && !isLnkK k then ⟨s.T.map (frz1 b k), dropM (unl b s.M) b⟩ else s
 | none => s
def frzArgs : List AV → St → St
 | [], s => s
 | .row b :: as, s => frzArgs as (frzB b s)
 | .own b _ _ _ _ :: as, s => frzArgs as (frzB b s)
 | .ptr b _ :: as, s => frzArgs as (frzB b s)
 | _ :: as, s => frzArgs as s
section
variable {P : Program} {w0 : World} {F : Env} {σ : Sg} {s : St} {a : Act} {w : World} {o : Oper}
theorem Rel.frz (r : Rel w0 F σ s a w) (b : Nat) : Rel w0 F σ (frzB b s) a w := by
 unfold frzB
 cases hb : look s.M b with
 | none => exact r
 | some k =>
  simp only
  cases hlt : (Nat.blt b 1000 && !isLnkK k) with
  | false => exact r
  | true =>
   simp only [cond_true]
   simp only [Bool.and_eq_true, Bool.not_eq_true'] at hlt
   obtain ⟨hlt, hnl⟩ := hlt
   have hb1000 : b < 1000 := by simpa [Nat.blt_eq] using hlt
   have hb : look (Go.Vg.unl b s.M) b = some k := by
    cases k with
    | fix x => exact look_unl_fix.2 hb
    | row e x => exact look_unl_row.2 hb
    | lnk _ _ _ => cases hnl
   have hfree := unl_free b s.M
   have r := r.unl b
   suffices hgoal : ∀ s : St, Rel w0 F σ s a w → look s.M b = some k → (∀ c fs i q, look s.M c = some (.lnk fs i q) → q ≠ some b) → Rel w0 F σ ⟨s.T.map (frz1 b k), dropM s.M b⟩ a w from hgoal ⟨s.T, Go.Vg.unl b s.M⟩ r hb hfree
   clear r hb hfree hlt
   intro s r hb hfree
   have hm := r.mem b k hb
   have back : ∀ {c y}, look (dropM s.M b) c = some y → c ≠ b ∧ look s.M c = some y := by
    intro c y hc
    rw [look_drop] at hc
    split at hc
    ·cases hc
    ·rename_i h; exact ⟨h, hc⟩
   have hX : ∀ β, Xs σ s.M w β → Xs σ (dropM s.M b) w β ∧ w.heap[β]? = w.heap[β]? := fun β hβ => ⟨⟨hβ.1, hβ.2.1, fun c y hc => hβ.2.2 c y (back hc).2⟩, rfl⟩
   have hown : ∀ β, σ.blk b = some β → w0.heap.size ≤ β → Xs σ (dropM s.M b) w β := by
    intro β hβ hge
    refine ⟨r.blk_lt hb hβ, r.okn.1 β hge, fun c y hc hσ => ?_⟩
    obtain ⟨hne, hc⟩ := back hc
    exact hne (r.inj c b _ _ β hc hb hσ hβ)
   refine ⟨r.defs, by simp [r.len], fun i y hy => ?_, fun c y hc => ?_, fun c c' y y' β h1 h2 h3 h4 => r.inj c c' y y' β (back h1).2 (back h2).2 h3 h4, fun c fs i rr hc => ?_, r.frm, r.okn⟩
   ·simp only [List.getElem?_map, Option.map_eq_some_iff] at hy
    obtain ⟨y0, hy0, rfl⟩ := hy
    obtain ⟨v, hv, ha⟩ := r.tmp i y0 hy0
    refine ⟨v, hv, ?_⟩
    cases y0 with
    | d x => exact VR.mono hX x v ha
    | any => trivial
    | bq p q => exact ha
    | rpt c i n => trivial
    | tpr c rs => trivial
    | lp c p =>
     obtain ⟨fs, i, q, β, hc, rest⟩ := ha
     have hn : c ≠ b := fun e => by rw [e, hb] at hc; obtain rfl := Option.some.inj hc; cases hnl
     exact ⟨fs, i, q, β, by rw [look_drop, if_neg hn]; exact hc, rest⟩
    | sub c p off n =>
     simp only [frz1]
     obtain ⟨x, β, k', m, l, hc, rest⟩ := ha
     rcases beq_cases c b with ⟨h, rfl⟩ | ⟨h, hn⟩
     ·simp only [h, cond_true]; trivial
     ·simp only [h, cond_false]
      exact ⟨x, β, k', m, l, by rw [look_drop, if_neg hn]; exact hc, rest⟩
    | tpl c rs =>
     simp only [frz1]
     obtain ⟨z, β, vs, hc, hσ, hv', hr⟩ := ha
     rcases beq_cases c b with ⟨h, rfl⟩ | ⟨h, hn⟩
     ·simp only [h, cond_true]; trivial
     ·simp only [h, cond_false]
      exact ⟨z, β, vs, by rw [look_drop, if_neg hn]; exact hc, hσ, hv', hr.mono fun d u hu => VR.mono hX d u hu⟩
    | dat x => exact AR.mono (σ := σ) (M := s.M) hX (.dat x) v ha
    | row c =>
     simp only [frz1]
     obtain ⟨e, x, hc, hv'⟩ := ha
     rcases beq_cases c b with ⟨h, rfl⟩ | ⟨h, hn⟩
     ·simp only [h, cond_true]
      rw [hb] at hc
      obtain rfl := Option.some.inj hc
      rw [hv']
      have hq1 : σ.blk c = (σ.rv c).ownBlock := by obtain ⟨_, _, _, q1, _⟩ := hm; exact q1
      have hq4 : RB w0 F.F c (σ.rv c) := by obtain ⟨_, _, _, _, _, _, q4⟩ := hm; exact q4
      refine (row_reads hm hX (fun g hg _ => hown g (by rw [hq1, hg]) ?_)).1
      rcases hq4 g hg with h | h
      ·exact h
      ·omega
     ·simp only [h, cond_false]
      exact ⟨e, x, by rw [look_drop, if_neg hn]; exact hc, hv'⟩
    | ptr c p =>
     simp only [frz1]
     obtain ⟨x, β, hc, hσ, hp, hv'⟩ := ha
     rcases beq_cases c b with ⟨h, rfl⟩ | ⟨h, hn⟩
     ·simp only [h, cond_true]
      rw [hb] at hc
      obtain rfl := Option.some.inj hc
      obtain ⟨β', cs, e, hσ', hF, hh, hcr⟩ := hm
      rw [hσ] at hσ'
      obtain rfl := Option.some.inj hσ'
      obtain ⟨us, hu, hcells⟩ := ptr_cells hh hcr hp
      exact ⟨β, _, us, hv', hown β hσ (by omega), CR.mono hX _ _ hu, hcells⟩
     ·simp only [h, cond_false]
      exact ⟨x, β, by rw [look_drop, if_neg hn]; exact hc, hσ, hp, hv'⟩
    | own c p off len cap =>
     simp only [frz1]
     obtain ⟨x, β, k', n, l, α, hc, hσ, hp, hg, hn', hlc, hv', hα⟩ := ha
     rcases beq_cases c b with ⟨h, rfl⟩ | ⟨h, hn⟩
     ·simp only [h, cond_true]
      rw [hb] at hc
      obtain rfl := Option.some.inj hc
      simp only [hg]
      obtain ⟨β', cs, e, hσ', hF, hh, hcr⟩ := hm
      rw [hσ] at hσ'
      obtain rfl := Option.some.inj hσ'
      obtain ⟨us, hu, hcells⟩ := ptr_cells hh hcr hp
      rw [hg] at hu
      simp only [CR] at hu
      obtain ⟨hl, rfl⟩ := hu
      refine ⟨some α, cap, ?_, ?_, ?_⟩
      ·rw [hv']; simp only [List.length_take, List.length_drop]; congr 3; omega
      ·simp only [List.length_take, List.length_drop]; omega
      ·by_cases h0 : cap = 0
       ·left
        have : len = 0 := by omega
        simp [this]
       ·rw [hα (by omega), List.map_take, List.map_drop]
        exact At.cut (hown β hσ (by omega)) hcells off len
     ·simp only [h, cond_false]
      exact ⟨x, β, k', n, l, α, by rw [look_drop, if_neg hn]; exact hc, hσ, hp, hg, hn', hlc, hv', hα⟩
   ·obtain ⟨hne, hc⟩ := back hc
    have hmc := r.mem c y hc
    cases y with
    | fix z =>
     obtain ⟨γ, ds, e', h1, h2, h3, h4⟩ := hmc
     exact ⟨γ, ds, e', h1, h2, h3, CR.mono hX z ds h4⟩
    | row e' z =>
     obtain ⟨ds, sz, n, h1, h2, h3, hRB⟩ := hmc
     exact ⟨ds, sz, n, h1, h2, h3.mono hX, hRB⟩
    | lnk fs i q =>
     obtain ⟨g1, g2, u, g3, g4, γ, ds, e', h1, h2, h3, h4⟩ := hmc
     exact ⟨g1, g2, u, g3, g4, γ, ds, e', h1, h2, h3, CR.mono hX _ ds h4⟩
   ·obtain ⟨hne, hc⟩ := back hc
    obtain ⟨e, x, hr⟩ := r.lk c fs i rr hc
    have hn : rr ≠ b := fun e => hfree c fs i (some rr) hc (by rw [e])
    exact ⟨e, x, by rw [look_drop, if_neg hn]; exact hr⟩
theorem Rel.frzArgs : ∀ (as : List AV) {s : St}, Rel w0 F σ s a w → Rel w0 F σ (frzArgs as s) a w
 | [], _, r => r
 | .row b :: as, _, r => Rel.frzArgs as (r.frz b)
 | .own b _ _ _ _ :: as, _, r => Rel.frzArgs as (r.frz b)
 | .d _ :: as, _, r => Rel.frzArgs as r
 | .any :: as, _, r => Rel.frzArgs as r
 | .ptr b _ :: as, _, r => Rel.frzArgs as (r.frz b)
 | .dat _ :: as, _, r => Rel.frzArgs as r
 | .bq _ _ :: as, _, r => Rel.frzArgs as r
 | .rpt _ _ _ :: as, _, r => Rel.frzArgs as r
 | .tpl _ _ :: as, _, r => Rel.frzArgs as r
 | .tpr _ _ :: as, _, r => Rel.frzArgs as r
 | .lp _ _ :: as, _, r => Rel.frzArgs as r
 | .sub _ _ _ _ :: as, _, r => Rel.frzArgs as r
def frzR1 (b : Nat) (x : D) : AV → AV
 | .row c => bif Nat.beq c b then .d x else .row c
 | .rpt _ _ _ => .any
 | .tpr _ _ => .any
 | y => y
def frzRow (b : Nat) (s : St) : St :=
 match look s.M b with
 | some (.row _ x) => bif Nat.blt b 1000 then ⟨s.T.map (frzR1 b x), dropM (unl b s.M) b⟩ else s
 | _ => s
def frzRows : List AV → St → St
 | [], s => s
 | .row b :: as, s => frzRows as (frzRow b s)
 | _ :: as, s => frzRows as s
theorem Rel.frzRow (r : Rel w0 F σ s a w) (b : Nat) : Rel w0 F σ (frzRow b s) a w := by
 unfold Go.Vg.frzRow
 split
 ·rename_i e x hb
  have h := r.frz b
  unfold frzB at h
  rw [hb] at h
  simp only [isLnkK, Bool.not_false, Bool.and_true] at h
  have he : s.T.map (frz1 b (.row e x)) = s.T.map (frzR1 b x) := by
   refine List.map_congr_left fun y hy => ?_
   obtain ⟨i, hi⟩ := List.mem_iff_getElem?.1 hy
   obtain ⟨v, _, ha⟩ := r.tmp i y hi
   cases y with
   | tpl c rs =>
    obtain ⟨z, β, vs, hc, _⟩ := ha
    simp only [frz1, frzR1]
    rcases beq_cases c b with ⟨h, rfl⟩ | ⟨h, hn⟩
    ·rw [hb] at hc
     cases hc
    ·simp only [h, cond_false]
   | ptr c p =>
    obtain ⟨z, β, hc, _⟩ := ha
    simp only [frz1, frzR1]
    rcases beq_cases c b with ⟨h, rfl⟩ | ⟨h, hn⟩
    ·rw [hb] at hc
     cases hc
    ·simp only [h, cond_false]
   | sub c p off n =>
    obtain ⟨z, β, k', m, l, hc, _⟩ := ha
    simp only [frz1, frzR1]
    rcases beq_cases c b with ⟨h, rfl⟩ | ⟨h, hn⟩
    ·rw [hb] at hc
     cases hc
    ·simp only [h, cond_false]
   | own c p off len cap =>
    obtain ⟨z, β, k', n, l, α, hc, _⟩ := ha
    simp only [frz1, frzR1]
    rcases beq_cases c b with ⟨h, rfl⟩ | ⟨h, hn⟩
    ·rw [hb] at hc
     cases hc
    ·simp only [h, cond_false]
   | _ => rfl
  rw [he] at h
  exact h
 ·exact r
theorem Rel.frzRows : ∀ (as : List AV) {s : St}, Rel w0 F σ s a w → Rel w0 F σ (frzRows as s) a w
 | [], _, r => r
 | .row b :: as, _, r => Rel.frzRows as (r.frzRow b)
 | .own _ _ _ _ _ :: as, _, r => Rel.frzRows as r
 | .d _ :: as, _, r => Rel.frzRows as r
 | .any :: as, _, r => Rel.frzRows as r
 | .ptr _ _ :: as, _, r => Rel.frzRows as r
 | .dat _ :: as, _, r => Rel.frzRows as r
 | .bq _ _ :: as, _, r => Rel.frzRows as r
 | .rpt _ _ _ :: as, _, r => Rel.frzRows as r
 | .tpl _ _ :: as, _, r => Rel.frzRows as r
 | .tpr _ _ :: as, _, r => Rel.frzRows as r
 | .lp _ _ :: as, _, r => Rel.frzRows as r
 | .sub _ _ _ _ :: as, _, r => Rel.frzRows as r
end
def copies (C : Ctx) (o : Oper) (x : Operand) : Bool :=
 match x, o.dst with
 | .const (.slice none 0 0), some d => !C.rows.contains d
 | .tmp _, some d => C.frz.contains (d + 900000) || C.frz.contains (d + 910000)
 | _, _ => false
inductive Kind where
 | app (t t2 : TypeId) (x y : Operand)
 | frz (args : List Operand)
 | frzR (args : List Operand)
 | cio (f : FuncId) (args : List Operand)
 | trunc (t : TypeId) (x hi : Operand)
 | plain
def ioCall (C : Ctx) (f : FuncId) : Bool := match C.G f with | some sp => ioFlag sp | none => false
def kindOf (C : Ctx) (o : Oper) : Kind :=
 match o.op with
 | .call c => match c.callee with
  | .builtin .append => match c.args.toList, c.argTypes.toList with
   | [x, y], [t, t2] => bif copies C o x then .plain else .app t t2 x y
   | _, _ => .plain
  | .value (.func f) => bif ioCall C f then .cio f c.args.toList else match o.dst with
   | some d => bif C.frz.contains d then .frz c.args.toList else bif C.frz.contains (d + 100000) then .frzR c.args.toList else .plain
   | none => .plain
  | _ => .plain
 | .makeFunc _ _ cs => match o.dst with
  | some d => bif C.frz.contains d then .frz cs.toList else .plain
  | none => .plain
 | .build _ ps => match o.dst with
  | some d => bif C.frz.contains d then .frz (ps.toList.map fun p => p.2) else .plain
  | none => .plain
 | .slice t x lo hi mx => match o.dst with
  | some d => bif C.frz.contains d then .frz [x] else bif C.frz.contains (d + 500000) then (match lo, hi, mx with | none, some hi, none => .trunc t x hi | _, _, _ => .plain) else .plain
  | none => .plain
 | _ => .plain
noncomputable def gstep (C : Ctx) (o : Oper) (s : St) : Prop × St :=
 match kindOf C o with
 | .app t t2 x y => gAppend C o.dst t t2 (evA s.T x) (evA s.T y) s
 | .frz args => match frzArgs (args.map (evA s.T)) s with
  | s' => match act C o (evA s'.T) s'.M with
   | r => (r.c, St.put ⟨s'.T, r.M⟩ o.dst r.v)
 | .frzR args => match frzRows (args.map (evA s.T)) s with
  | s' => match act C o (evA s'.T) s'.M with
   | r => (r.c, St.put ⟨s'.T, r.M⟩ o.dst r.v)
 | .cio f args => ioStep C f o.dst (args.map (evA s.T)) s
 | .trunc t x hi => gTrunc C o.dst t (evA s.T x) (evA s.T hi) s
 | .plain => match act C o (evA s.T) s.M with
  | r => (r.c, St.put ⟨s.T, r.M⟩ o.dst r.v)
theorem kindOf_app {C : Ctx} {o : Oper} {t t2 : TypeId} {x y : Operand} (h : kindOf C o = .app t t2 x y) : ∃ c, o.op = .call c ∧ c.callee = .builtin .append ∧ c.args.toList = [x, y] ∧ c.argTypes.toList = [t, t2] := by
 unfold kindOf at h
 split at h
 ·rename_i c ho
  split at h
  ·rename_i hcal
   split at h
   ·rename_i x' y' t' t2' h1 h2
    cases hcp : copies C o x' <;> rw [hcp] at h
    ·obtain ⟨rfl, rfl, rfl, rfl⟩ := Kind.app.inj h
     exact ⟨c, ho, hcal, h1, h2⟩
    ·cases h
   ·cases h
  ·rename_i g _
   cases hio : ioCall C g with
   | true => rw [hio] at h; simp only [cond_true] at h; cases h
   | false =>
    rw [hio] at h
    simp only [cond_false] at h
    split at h
    ·rename_i d _
     cases hf : C.frz.contains d <;> rw [hf] at h
     ·cases hf2 : C.frz.contains (d + 100000) <;> rw [hf2] at h <;> cases h
     ·cases h
    ·cases h
  ·cases h
 ·split at h
  ·rename_i d _
   cases hf : C.frz.contains d <;> rw [hf] at h <;> cases h
  ·cases h
 ·split at h
  ·rename_i d _
   cases hf : C.frz.contains d <;> rw [hf] at h <;> cases h
  ·cases h
 ·split at h
  ·rename_i d _
   cases hf : C.frz.contains d <;> rw [hf] at h
   ·simp only [cond_false] at h
    cases hf2 : C.frz.contains (d + 500000) <;> rw [hf2] at h
    ·cases h
    ·simp only [cond_true] at h
     split at h <;> cases h
   ·cases h
  ·cases h
 ·cases h
theorem kindOf_cio {C : Ctx} {o : Oper} {f : FuncId} {args : List Operand} (h : kindOf C o = .cio f args) : ∃ c, o.op = .call c ∧ c.callee = .value (.func f) ∧ c.args.toList = args ∧ ioCall C f = true := by
 unfold kindOf at h
 split at h
 ·rename_i c ho
  split at h
  ·split at h
   ·rename_i x' _ _ _ _ _
    cases hcp : copies C o x' <;> rw [hcp] at h <;> cases h
   ·cases h
  ·rename_i g hcal
   cases hio : ioCall C g with
   | true =>
    rw [hio] at h
    simp only [cond_true, Kind.cio.injEq] at h
    obtain ⟨rfl, rfl⟩ := h
    exact ⟨c, ho, hcal, rfl, hio⟩
   | false =>
    rw [hio] at h
    simp only [cond_false] at h
    split at h
    ·rename_i d _
     cases hf : C.frz.contains d <;> rw [hf] at h
     ·simp only [cond_false] at h
      cases hf2 : C.frz.contains (d + 100000) <;> rw [hf2] at h <;> cases h
     ·cases h
    ·cases h
  ·cases h
 ·split at h
  ·rename_i d _
   cases hf : C.frz.contains d <;> rw [hf] at h <;> cases h
  ·cases h
 ·split at h
  ·rename_i d _
   cases hf : C.frz.contains d <;> rw [hf] at h <;> cases h
  ·cases h
 ·split at h
  ·rename_i d _
   cases hf : C.frz.contains d <;> rw [hf] at h
   ·simp only [cond_false] at h
    cases hf2 : C.frz.contains (d + 500000) <;> rw [hf2] at h
    ·cases h
    ·simp only [cond_true] at h
     split at h <;> cases h
   ·cases h
  ·cases h
 ·cases h
theorem kindOf_trunc {C : Ctx} {o : Oper} {t : TypeId} {x hi : Operand} (h : kindOf C o = .trunc t x hi) : o.op = .slice t x none (some hi) none := by
 unfold kindOf at h
 split at h
 ·rename_i c ho
  split at h
  ·split at h
   ·rename_i x' _ _ _ _ _
    cases hcp : copies C o x' <;> rw [hcp] at h <;> cases h
   ·cases h
  ·rename_i g hcal
   cases hio : ioCall C g with
   | true => rw [hio] at h; simp only [cond_true] at h; cases h
   | false =>
    rw [hio] at h
    simp only [cond_false] at h
    split at h
    ·rename_i d _
     cases hf : C.frz.contains d <;> rw [hf] at h
     ·simp only [cond_false] at h
      cases hf2 : C.frz.contains (d + 100000) <;> rw [hf2] at h <;> cases h
     ·cases h
    ·cases h
  ·cases h
 ·split at h
  ·rename_i d _
   cases hf : C.frz.contains d <;> rw [hf] at h <;> cases h
  ·cases h
 ·split at h
  ·rename_i d _
   cases hf : C.frz.contains d <;> rw [hf] at h <;> cases h
  ·cases h
 ·rename_i ho
  split at h
  ·rename_i d _
   cases hf : C.frz.contains d <;> rw [hf] at h
   ·simp only [cond_false] at h
    cases hf2 : C.frz.contains (d + 500000) <;> rw [hf2] at h
    ·cases h
    ·simp only [cond_true] at h
     split at h
     ·obtain ⟨rfl, rfl, rfl⟩ := Kind.trunc.inj h
      exact ho
     ·cases h
   ·cases h
  ·cases h
 ·cases h
theorem gstep_sound {P : Program} {C : Ctx} {w0 : World} {F : Env} {σ : Sg} {s : St} {a : Act} {w : World} {o : Oper} (K : CtxOk P C) (r : Rel w0 F σ s a w) (hc : (gstep C o s).1) (Q : Exit → Act → World → Prop) :
  o.wp P a w (fun a' w' => ∃ σ', Rel w0 F σ' (gstep C o s).2 a' w') Q := by
 unfold gstep at hc ⊢
 split at hc
 ·rename_i t t2 x y hk
  obtain ⟨c, ho, hcal, h1, h2⟩ := kindOf_app hk
  exact gAppend_sound K.1 r ho hcal h1 h2 hc Q
 ·rename_i args hk
  exact act_sound K (r.frzArgs (args.map (evA s.T))) hc Q
 ·rename_i args hk
  exact act_sound K (r.frzRows (args.map (evA s.T))) hc Q
 ·rename_i f args hk
  obtain ⟨c, ho, hcal, rfl, hfl⟩ := kindOf_cio hk
  exact ioStep_sound K r ho hcal hfl hc Q
 ·rename_i t x hi hk
  exact gTrunc_sound K.1 r (kindOf_trunc hk) hc Q
 ·exact act_sound K r hc Q
end Go.Vg
namespace Go.Vg
open Go Go.RowKit
theorem evA_set {T : List AV} {d : Nat} {v : AV} {x : Operand} (h : x ≠ .tmp d) : evA (T.set d v) x = evA T x := by
 cases x with
 | tmp t =>
  have : t ≠ d := fun e => h (by rw [e])
  simp only [evA, List.getD_eq_getElem?_getD]
  rw [List.getElem?_set_ne (Ne.symm this)]
 | _ => rfl
theorem evA_put {s : St} {dst : Option Nat} {v : AV} {x : Operand} (h : ∀ d, dst = some d → x ≠ .tmp d) : evA (s.put dst v).T x = evA s.T x := by
 cases dst with
 | none => rfl
 | some d => exact evA_set (h d rfl)
theorem put_put {T : List AV} {M M' : Mem} {d1 d2 : Option Nat} {v1 v2 : AV} (h : ∀ d, d1 = some d → d2 ≠ some d) : ((St.put ⟨T, M⟩ d1 v1).put d2 v2).T = ((St.put ⟨T, M'⟩ d2 v2).put d1 v1).T := by
 cases d1 with
 | none => cases d2 <;> rfl
 | some d1 => cases d2 with
  | none => rfl
  | some d2 =>
   have hne : d1 ≠ d2 := fun e => h d1 rfl (by rw [e])
   simp only [St.put]
   exact (List.set_comm _ _ hne)
theorem act_congr {C : Ctx} {o : Oper} {ρ ρ' : Operand → AV} {M : Mem} (h : ∀ x ∈ o.op.operands.toList, ρ x = ρ' x) : act C o ρ M = act C o ρ' M := by
 unfold act
 cases hop : o.op <;> rw [hop] at h <;> simp only [Op.operands] at h ⊢
 case move x => rw [h x (by simp)]
 case assign x => rw [h x (by simp)]
 case pick c x y => rw [h c (by simp), h x (by simp), h y (by simp)]
 case box t x => rw [h x (by simp)]
 case load t x => rw [h x (by simp)]
 case store t x y => rw [h x (by simp), h y (by simp)]
 case binOp op t x y t2 => rw [h x (by simp), h y (by simp)]
 case unOp op t x => rw [h x (by simp)]
 case convert t u x => rw [h x (by simp)]
 case makeSlice t x y => rw [h x (by simp), h y (by simp)]
 case fieldAddr t x f => rw [h x (by simp)]
 case field t x f => rw [h x (by simp)]
 case indexAddr t x y => rw [h x (by simp), h y (by simp)]
 case index t x y => rw [h x (by simp), h y (by simp)]
 case extract x i => rw [h x (by simp)]
 case nilCheck x => rw [h x (by simp)]
 case makeFunc fn first captured =>
  congr 1
  exact List.map_congr_left fun x hx => h x (by simp; exact .inr (by simpa using hx))
 case build t ps =>
  have e : (ps.toList.map fun p => (p.1, ρ p.2)) = ps.toList.map fun p => (p.1, ρ' p.2) := by
   refine List.map_congr_left fun p hp => ?_
   rw [h p.2 (by simp; exact ⟨p.1, by simpa using hp⟩)]
  rw [e]
 case buildSlice t len ps =>
  congr 1
  refine List.map_congr_left fun p hp => ?_
  rw [h p.2 (by simp; exact ⟨p.1, by simpa using hp⟩)]
 case slice t x lo hi mx =>
  have hm : ∀ z : Option Operand, (∀ q, z = some q → ρ q = ρ' q) → z.map ρ = z.map ρ' := by
   intro z hz
   cases z with
   | none => rfl
   | some q => simp [hz q rfl]
  rw [h x (by simp), hm lo (fun q hq => h q (by simp [hq])), hm hi (fun q hq => h q (by simp [hq])), hm mx (fun q hq => h q (by simp [hq]))]
 case call c =>
  have ha : ∀ x ∈ c.args.toList, ρ x = ρ' x := fun x hx => h x (by simp [Call.operands]; exact .inr (by simpa using hx))
  have hl : c.args.toList.map ρ = c.args.toList.map ρ' := List.map_congr_left ha
  cases hcal : c.callee with
  | builtin b =>
   generalize c.args.toList = l at ha hl
   generalize c.argTypes.toList = m
   cases b <;> first | rfl | (simp only [hl]; done) | skip
   ·match l, m, ha with
    | [], _, _ => rfl
    | [x], _, _ => rfl
    | [x, y], [], _ => rfl
    | [x, y], [t], _ => rfl
    | [x, y], [t, t2], ha => simp only [ha x (by simp), ha y (by simp)]
    | [x, y], _ :: _ :: _ :: _, _ => rfl
    | _ :: _ :: _ :: _, _, _ => rfl
   ·match l, m, ha with
    | [], _, _ => rfl
    | [x], _, _ => rfl
    | [x, y], [], _ => rfl
    | [x, y], t :: _, ha => simp only [ha x (by simp), ha y (by simp)]
    | _ :: _ :: _ :: _, _, _ => rfl
   ·match l, m, ha with
    | [], _, _ => rfl
    | [x], [], _ => rfl
    | [x], [t], ha => simp only [ha x (by simp)]
    | [x], _ :: _ :: _, _ => rfl
    | _ :: _ :: _, _, _ => rfl
  | value f => simp only [hl, h f (by simp [Call.operands, hcal])]
  | invoke x n => rfl
def cls (C : Ctx) (o : Oper) : Nat :=
 match kindOf C o with
 | .plain => match o.op with
  | .move _ | .pick _ _ _ | .binOp _ _ _ _ _ | .unOp _ _ _ | .extract _ _ | .field _ _ _ | .index _ _ _ | .build _ _ | .nilCheck _ => 0
  | .assign _ => match o.dst with
   | some d => bif C.rows.contains d then 2 else 0
   | none => 0
  | .buildSlice _ _ _ => match o.dst with
   | some d => bif C.rows.contains d then 2 else 0
   | none => 2
  | .load _ a => bif isRd C a then 0 else 1
  | .convert _ _ x => bif isRd C x then 0 else 1
  | .slice _ x _ _ _ => bif isRd C x then 0 else 1
  | .fieldAddr _ x _ => bif isRd C x then 0 else 1
  | .indexAddr _ _ _ => 1
  | .call c => match c.callee with
   | .builtin .copy => 2
   | _ => 1
  | _ => 2
 | _ => 3
theorem aBin_M {tab : Tab} {op : BinOp} {t : TypeId} {x y : AV} (M M' : Mem) : (aBin tab op t x y M).c = (aBin tab op t x y M').c ∧ (aBin tab op t x y M).v = (aBin tab op t x y M').v ∧ (aBin tab op t x y M).M = M := by
 unfold aBin
 cases ptrQ tab op t x y with
 | some r => exact ⟨rfl, rfl, rfl⟩
 | none =>
 simp only
 cases nilQ tab op t x y
 case true => exact ⟨rfl, rfl, rfl⟩
 simp only [cond_false]
 split
 ·unfold binD
  split
  ·split
   ·exact ⟨rfl, rfl, rfl⟩
   ·exact ⟨rfl, rfl, rfl⟩
   ·rename_i k m k' n _ _ _
    by_cases h : k = k'
    ·simp only [decide_eq_true h, cond_true]
     unfold binI
     split <;> exact ⟨rfl, rfl, rfl⟩
    ·simp only [decide_eq_false h, cond_false]; exact ⟨rfl, rfl, rfl⟩
  ·split <;> exact ⟨rfl, rfl, rfl⟩
  ·split <;> exact ⟨rfl, rfl, rfl⟩
  ·split
   ·split <;> exact ⟨rfl, rfl, rfl⟩
   ·split <;> exact ⟨rfl, rfl, rfl⟩
   ·exact ⟨rfl, rfl, rfl⟩
  ·split <;> exact ⟨rfl, rfl, rfl⟩
  ·exact ⟨rfl, rfl, rfl⟩
 ·exact ⟨rfl, rfl, rfl⟩
theorem aLoad_dat {tab : Tab} {t : TypeId} {v : AV} (h : isDat v = true) (M M' : Mem) : (aLoad tab t (unref v) M).c = (aLoad tab t (unref v) M').c ∧ (aLoad tab t (unref v) M).v = (aLoad tab t (unref v) M').v ∧ (aLoad tab t (unref v) M).M = M := by
 unfold isDat at h
 split at h
 ·exact ⟨rfl, rfl, rfl⟩
 ·exact ⟨rfl, rfl, rfl⟩
 ·cases h
theorem aConv_dat {tab : Tab} {t u : TypeId} {x : AV} (h : isD x = true) (M M' : Mem) : (aConv tab t u x M).c = (aConv tab t u x M').c ∧ (aConv tab t u x M).v = (aConv tab t u x M').v ∧ (aConv tab t u x M).M = M := by
 cases x with
 | d x =>
  unfold aConv
  split
  ·split <;> exact ⟨rfl, rfl, rfl⟩
  ·split
   ·split
    ·simp only [toD]
     split <;> exact ⟨rfl, rfl, rfl⟩
    ·exact ⟨rfl, rfl, rfl⟩
   ·split <;> exact ⟨rfl, rfl, rfl⟩
   ·exact ⟨rfl, rfl, rfl⟩
  ·split
   ·split <;> exact ⟨rfl, rfl, rfl⟩
   ·exact ⟨rfl, rfl, rfl⟩
  ·exact ⟨rfl, rfl, rfl⟩
 | _ => cases h
theorem aSlice_dat {tab : Tab} {t : TypeId} {x : AV} {lo hi mx : Option AV} (h : isD x = true) (M M' : Mem) : (aSlice tab t x lo hi mx M).c = (aSlice tab t x lo hi mx M').c ∧ (aSlice tab t x lo hi mx M).v = (aSlice tab t x lo hi mx M').v ∧ (aSlice tab t x lo hi mx M).M = M := by
 unfold aSlice
 cases x with
 | d x =>
  cases mx with
  | some m => exact ⟨rfl, rfl, rfl⟩
  | none =>
   simp only
   split
   ·split <;> exact ⟨rfl, rfl, rfl⟩
   ·split <;> exact ⟨rfl, rfl, rfl⟩
   ·split <;> exact ⟨rfl, rfl, rfl⟩
   all_goals first | exact ⟨rfl, rfl, rfl⟩ | (rename_i hx _; cases hx) | (rename_i hx; cases hx)
 | _ => cases h
theorem aFieldAddr_dat {tab : Tab} {t : TypeId} {v : AV} {f : Nat} (h : isDat v = true) (M M' : Mem) : (aFieldAddr tab t (unref v) f M).c = (aFieldAddr tab t (unref v) f M').c ∧ (aFieldAddr tab t (unref v) f M).v = (aFieldAddr tab t (unref v) f M').v ∧ (aFieldAddr tab t (unref v) f M).M = M := by
 have main : ∀ x, (aFieldAddr tab t (.dat x) f M).c = (aFieldAddr tab t (.dat x) f M').c ∧ (aFieldAddr tab t (.dat x) f M).v = (aFieldAddr tab t (.dat x) f M').v ∧ (aFieldAddr tab t (.dat x) f M).M = M := by
  intro x
  unfold aFieldAddr
  cases x <;> first | exact ⟨rfl, rfl, rfl⟩ | (simp only; split <;> exact ⟨rfl, rfl, rfl⟩)
 unfold isDat at h
 split at h
 ·exact main _
 ·exact main _
 ·cases h
theorem act_pure {C : Ctx} {o : Oper} (h : cls C o = 0) (ρ : Operand → AV) (M M' : Mem) :
  (act C o ρ M).c = (act C o ρ M').c ∧ (act C o ρ M).v = (act C o ρ M').v ∧ (act C o ρ M).M = M := by
 unfold cls at h
 split at h
 ·unfold act
  split at h <;> rename_i ho
  ·rename_i x
   simp only [ho]
   unfold mvR
   split
   ·rename_i p
    cases C.frz.contains (p + 600000) <;> exact ⟨rfl, rfl, rfl⟩
   ·exact ⟨rfl, rfl, rfl⟩
  ·simp only [ho, aPick]; split <;> exact ⟨rfl, rfl, rfl⟩
  ·simp only [ho]; exact aBin_M M M'
  ·simp only [ho, aUn]; split <;> exact ⟨rfl, rfl, rfl⟩
  ·rename_i x i
   simp only [ho, aExtract]; split
   ·cases i <;> exact ⟨rfl, rfl, rfl⟩
   ·exact ⟨rfl, rfl, rfl⟩
   ·cases i <;> exact ⟨rfl, rfl, rfl⟩
   ·exact ⟨rfl, rfl, rfl⟩
  ·simp only [ho, aField]
   split
   ·split <;> exact ⟨rfl, rfl, rfl⟩
   ·exact ⟨rfl, rfl, rfl⟩
  ·simp only [ho, aIndex]
   split
   ·split
    ·split <;> exact ⟨rfl, rfl, rfl⟩
    ·exact ⟨rfl, rfl, rfl⟩
   ·split <;> exact ⟨rfl, rfl, rfl⟩
   ·split <;> exact ⟨rfl, rfl, rfl⟩
   ·exact ⟨rfl, rfl, rfl⟩
  ·simp only [ho]
   cases hbo : bldO C o.dst with
   | none => simp only [aBuild]; split <;> first | exact ⟨rfl, rfl, rfl⟩ | (split <;> exact ⟨rfl, rfl, rfl⟩)
   | some i => simp only [aBuildL]; split <;> exact ⟨rfl, rfl, rfl⟩
  ·simp only [ho, aNil]; split <;> exact ⟨rfl, rfl, rfl⟩
  ·simp only [ho, aAssign]
   split at h
   ·rename_i d hd
    simp only [hd]
    cases hr : C.rows.contains d <;> rw [hr] at h
    ·exact ⟨rfl, rfl, rfl⟩
    ·cases h
   ·rename_i hd
    simp only [hd, and_self]
  ·simp only [ho, aBuildSlice]
   split at h
   ·rename_i d hd
    simp only [hd]
    cases hr : C.rows.contains d <;> rw [hr] at h
    ·simp only [cond_false]
     split
     ·split
      ·split <;> exact ⟨rfl, rfl, rfl⟩
      ·split <;> exact ⟨rfl, rfl, rfl⟩
     ·exact ⟨rfl, rfl, rfl⟩
    ·cases h
   ·cases h
  ·rename_i t a
   cases hrd : isRd C a <;> simp only [hrd, cond_true, cond_false] at h
   ·cases h
   ·simp only [ho, hrd, cond_true, datR]
    cases hd : isDat (ρ a) <;> simp only [cond_true, cond_false]
    ·exact ⟨rfl, rfl, rfl⟩
    ·exact aLoad_dat hd M M'
  ·rename_i t u x
   cases hrd : isRd C x <;> simp only [hrd, cond_true, cond_false] at h
   ·cases h
   ·simp only [ho, hrd, cond_true, datS]
    cases hd : isD (ρ x) <;> simp only [cond_true, cond_false]
    ·exact ⟨rfl, rfl, rfl⟩
    ·exact aConv_dat hd M M'
  ·rename_i t x lo hi mx
   cases hrd : isRd C x <;> simp only [hrd, cond_true, cond_false] at h
   ·cases h
   ·simp only [ho, hrd, cond_true, datS]
    cases hd : isD (ρ x) <;> simp only [cond_true, cond_false]
    ·exact ⟨rfl, rfl, rfl⟩
    ·exact aSlice_dat hd M M'
  ·rename_i t x f
   cases hrd : isRd C x <;> simp only [hrd, cond_true, cond_false] at h
   ·cases h
   ·simp only [ho, hrd, cond_true, datR]
    cases hd : isDat (ρ x) <;> simp only [cond_true, cond_false]
    ·exact ⟨rfl, rfl, rfl⟩
    ·exact aFieldAddr_dat hd M M'
  all_goals first | cases h | skip
  all_goals (split at h <;> cases h)
 ·cases h
theorem aLoad_M {tab : Tab} {t : TypeId} {x : AV} {M : Mem} : (aLoad tab t x M).M = M := by
 unfold aLoad
 split
 ·split <;> rfl
 ·rfl
 ·split <;> rfl
 ·split
  ·split <;> rfl
  ·rfl
 ·split
  ·split
   ·rfl
   ·rename_i fs i q _ _ j p'
    cases Nat.beq j i
    ·rfl
    ·simp only [cond_true]
     split
     ·split <;> rfl
     ·rfl
  ·rfl
 ·rfl
theorem aConv_M {tab : Tab} {t u : TypeId} {x : AV} {M : Mem} : (aConv tab t u x M).M = M := by
 unfold aConv
 split
 ·split <;> rfl
 ·split
  ·split
   ·split <;> rfl
   ·rfl
  ·split <;> rfl
  ·rfl
 ·split
  ·split <;> rfl
  ·rfl
 ·rfl
theorem aSlice_M {tab : Tab} {t : TypeId} {x : AV} {lo hi mx : Option AV} {M : Mem} : (aSlice tab t x lo hi mx M).M = M := by
 unfold aSlice
 split
 ·split
  ·split
   ·split <;> rfl
   ·rfl
  ·rfl
 ·split
  ·split <;> rfl
  ·split <;> rfl
  ·split <;> rfl
  ·split <;> rfl
  ·split
   ·split
    ·split <;> rfl
    ·rfl
   ·rfl
  ·split <;> rfl
  ·split <;> rfl
  ·split
   ·split <;> rfl
   ·rfl
  ·rfl
theorem aFieldAddr_M {tab : Tab} {t : TypeId} {x : AV} {f : Nat} {M : Mem} : (aFieldAddr tab t x f M).M = M := by
 unfold aFieldAddr
 split
 ·split <;> rfl
 ·split <;> rfl
 ·split <;> rfl
 ·rfl
theorem aIndexAddr_M {tab : Tab} {t : TypeId} {x y : AV} {M : Mem} : (aIndexAddr tab t x y M).M = M := by
 unfold aIndexAddr
 split
 ·split
  ·split
   ·split
    ·split <;> rfl
    ·rfl
    ·rfl
   ·rfl
  ·split
   ·split <;> rfl
   ·rfl
  ·split <;> rfl
  ·split <;> rfl
  ·split <;> rfl
  ·split <;> rfl
  ·split <;> rfl
  ·split <;> rfl
  ·split
   ·split <;> rfl
   ·rfl
  ·split <;> rfl
  ·rfl
 ·rfl
theorem aLen_M {tab : Tab} {t : TypeId} {x : AV} {M : Mem} : (aLen tab t x M).M = M := by
 unfold aLen
 split <;> first | rfl | (split <;> rfl)
theorem aApp0_M {tab : Tab} {t t2 : TypeId} {x y : AV} {M : Mem} : (aApp0 tab t t2 x y M).M = M := by
 unfold aApp0
 split
 ·split
  ·split <;> rfl
  ·rfl
 ·rfl
theorem aNew_M {tab : Tab} {t t2 : TypeId} {x y : AV} {M : Mem} : (aNew tab t t2 x y M).M = M := by
 unfold aNew
 split
 ·split
  ·split <;> rfl
  ·rfl
 ·split
  ·split <;> rfl
  ·rfl
 ·rfl
theorem aMin_M {lt : Int → Int → Bool} {as : List AV} {M : Mem} : (aMin lt as M).M = M := by unfold aMin; split <;> rfl
theorem aCall_M {C : Ctx} {f : FuncId} {as : List AV} {M : Mem} : (aCall C f as M).M = M := by
 unfold aCall
 split
 ·rfl
 ·rename_i sp _
  cases ioFlag sp
  ·cases (loose sp || allData as)
   ·rfl
   ·simp only [cond_true, cond_false]; split <;> rfl
  ·rfl
theorem act_read {C : Ctx} {o : Oper} (h : cls C o ≤ 1) (ρ : Operand → AV) (M : Mem) : (act C o ρ M).M = M := by
 rcases Nat.eq_zero_or_pos (cls C o) with h0 | h0
 ·exact (act_pure h0 ρ M M).2.2
 ·have h1 : cls C o = 1 := by omega
  unfold cls at h1
  split at h1
  ·unfold act
   split at h1 <;> rename_i ho <;> first | cases h1 | skip
   ·split at h1
    ·rename_i d _
     cases hr : C.rows.contains d <;> rw [hr] at h1 <;> cases h1
    ·cases h1
   ·split at h1
    ·rename_i d _
     cases hr : C.rows.contains d <;> rw [hr] at h1 <;> cases h1
    ·cases h1
   ·rename_i t a
    cases hrd : isRd C a <;> simp only [hrd, cond_true, cond_false] at h1
    ·simp only [ho, hrd, cond_false]; rw [(nfR_vM _ _ _ _).2, (cellR_vM _ _ _ _).2]; exact aLoad_M
    ·cases h1
   ·rename_i t u x
    cases hrd : isRd C x <;> simp only [hrd, cond_true, cond_false] at h1
    ·simp only [ho, hrd, cond_false]; exact aConv_M
    ·cases h1
   ·rename_i t x lo hi mx
    cases hrd : isRd C x <;> simp only [hrd, cond_true, cond_false] at h1
    ·simp only [ho, hrd, cond_false]; rw [(tlR_vM _ _ _ _).2]; exact aSlice_M
    ·cases h1
   ·rename_i t x f
    cases hrd : isRd C x <;> simp only [hrd, cond_true, cond_false] at h1
    ·simp only [ho, hrd, cond_false]; rw [(nfR_vM _ _ _ _).2]; exact aFieldAddr_M
    ·cases h1
   ·simp only [ho]; rw [(nfR_vM _ _ _ _).2]; exact aIndexAddr_M
   ·rename_i c
    simp only [ho]
    split at h1
    ·cases h1
    ·split
     ·split
      ·exact aLen_M
      ·rfl
     ·rename_i hn _ _ hcal
      exact absurd hcal (by assumption)
     ·split
      ·cases app0 C o.dst with
       | true => exact aApp0_M
       | false => exact aNew_M
      ·rfl
     ·exact aMin_M
     ·exact aMin_M
     ·split
      ·exact aCall_M
      ·rfl
     ·rfl
     ·rfl
  ·cases h1
end Go.Vg
namespace Go.Vg
open Go Go.RowKit
def Ext (M M' : Mem) : Prop := ∀ b k, look M b = some k → look M' b = some k
theorem toD_ext {M M' : Mem} (h : Ext M M') {a : AV} {d : D} (hd : toD M a = some d) : toD M' a = some d := by
 unfold toD at hd ⊢
 split at hd
 ·exact hd
 ·rename_i b
  cases hb : look M b with
  | none => rw [hb] at hd; cases hd
  | some k => rw [hb] at hd; rw [h _ _ hb]; exact hd
 ·rename_i b p off len cap
  cases hb : look M b with
  | none => rw [hb] at hd; cases hd
  | some k => rw [hb] at hd; rw [h _ _ hb]; exact hd
 ·rename_i b i n
  cases hb : look M b with
  | none => rw [hb] at hd; cases hd
  | some k => rw [hb] at hd; rw [h _ _ hb]; exact hd
 ·exact hd
 ·rename_i b p
  cases hb : look M b with
  | none => rw [hb] at hd; cases hd
  | some k => rw [hb] at hd; rw [h _ _ hb]; exact hd
 ·rename_i b p
  cases hb : look M b with
  | none => rw [hb] at hd; cases p <;> cases hd
  | some k =>
   rw [hb] at hd
   rw [h _ _ hb]
   split at hd
   ·rename_i fs i r hk
    cases hr : look M r with
    | none => rw [hr] at hd; cases hd
    | some k' =>
     rw [hr] at hd
     obtain rfl := Option.some.inj hk
     rw [h _ _ hr]
     exact hd
   ·cases hd
 ·cases hd
theorem mapToD_ext {M M' : Mem} {tab : Tab} (h : Ext M M') : ∀ {as : List AV} {ts : List TypeId} {ds : List D}, mapToD M tab as ts = some ds → mapToD M' tab as ts = some ds
 | [], _, _, hd => hd
 | a :: as, ts, ds, hd => by
  unfold mapToD at hd ⊢
  cases h1 : toD M a with
  | none => rw [h1] at hd; cases hd
  | some d =>
   rw [h1] at hd
   rw [toD_ext h h1]
   simp only at hd ⊢
   cases h2 : mapToD M tab as ts.tail with
   | none => rw [h2] at hd; cases hd
   | some ds' =>
    rw [h2] at hd
    rw [mapToD_ext h h2]
    exact hd
theorem aLoad_ext {M M' : Mem} (h : Ext M M') {tab : Tab} {t : TypeId} {a : AV} (hc : (aLoad tab t a M).c) : (aLoad tab t a M').c ∧ (aLoad tab t a M').v = (aLoad tab t a M).v := by
 unfold aLoad at hc ⊢
 cases a with
 | ptr b p =>
  cases hb : look M b with
  | none => simp only [hb] at hc; cases hc
  | some k =>
   simp only [hb] at hc ⊢
   simp only [h _ _ hb]
   cases k <;> exact ⟨hc, rfl⟩
 | rpt b i n =>
  cases n with
  | some n => exact ⟨hc, rfl⟩
  | none =>
  cases hb : look M b with
  | none => simp only [hb] at hc; cases hc
  | some k =>
   simp only [hb] at hc ⊢
   simp only [h _ _ hb]
   cases k with
   | fix x => exact False.elim hc
   | row e x => cases x <;> exact ⟨hc, rfl⟩
   | lnk _ _ _ => exact False.elim hc
 | sub b p off n =>
  cases hb : look M b with
  | none => simp only [hb] at hc; cases hc
  | some k =>
   simp only [hb] at hc ⊢
   simp only [h _ _ hb]
   cases k with
   | fix x =>
    simp only at hc ⊢
    cases hg : getP x p <;> rw [hg] at hc <;> first | exact ⟨hc, rfl⟩ | exact False.elim hc
   | row e x => exact False.elim hc
   | lnk _ _ _ => exact False.elim hc
 | lp b p =>
  cases hb : look M b with
  | none => simp only [hb] at hc; cases hc
  | some k =>
   simp only [hb] at hc ⊢
   simp only [h _ _ hb]
   cases k with
   | fix x => exact False.elim hc
   | row e x => exact False.elim hc
   | lnk fs i q =>
    cases p with
    | nil => exact False.elim hc
    | cons j p' =>
     simp only at hc ⊢
     cases hji : Nat.beq j i with
     | false => rw [hji] at hc; exact ⟨hc, rfl⟩
     | true =>
      rw [hji] at hc
      simp only [cond_true] at hc ⊢
      cases p' with
      | cons _ _ => exact False.elim hc
      | nil =>
       cases q with
       | none => exact False.elim hc
       | some r =>
        simp only at hc ⊢
        cases hr : look M r with
        | none => rw [hr] at hc; exact False.elim hc
        | some k' =>
         rw [hr] at hc
         rw [h _ _ hr]
         cases k' <;> first | exact ⟨hc, rfl⟩ | exact False.elim hc
 | _ => exact ⟨hc, rfl⟩
theorem aFieldAddr_ext {M M' : Mem} (h : Ext M M') {tab : Tab} {t : TypeId} {a : AV} {f : Nat} (hc : (aFieldAddr tab t a f M).c) : (aFieldAddr tab t a f M').c ∧ (aFieldAddr tab t a f M').v = (aFieldAddr tab t a f M).v := by
 unfold aFieldAddr at hc ⊢
 cases a with
 | ptr b p =>
  cases hb : look M b with
  | none => simp only [hb] at hc; cases hc
  | some k =>
   simp only [hb] at hc ⊢
   simp only [h _ _ hb]
   cases k with
   | fix x => cases hty : (tg tab t).ty <;> simp only [hty] at hc ⊢ <;> first | exact ⟨hc, rfl⟩ | exact ⟨hc, trivial⟩ | exact False.elim hc
   | row e x => exact False.elim hc
   | lnk _ _ _ => exact False.elim hc
 | lp b p =>
  cases hb : look M b with
  | none => simp only [hb] at hc; cases hc
  | some k =>
   simp only [hb] at hc ⊢
   simp only [h _ _ hb]
   cases k with
   | lnk fs i q => cases hty : (tg tab t).ty <;> simp only [hty] at hc ⊢ <;> first | exact ⟨hc, rfl⟩ | exact ⟨hc, trivial⟩ | exact False.elim hc
   | row e x => exact False.elim hc
   | fix _ => exact False.elim hc
 | dat x =>
  cases x <;> first | exact False.elim hc | skip
  cases hty : (tg tab t).ty <;> simp only [hty] at hc ⊢ <;> first | exact ⟨hc, rfl⟩ | exact ⟨hc, trivial⟩ | exact False.elim hc
 | _ => exact False.elim hc
theorem aIndexAddr_ext {M M' : Mem} (h : Ext M M') {tab : Tab} {t : TypeId} {a i : AV} (hc : (aIndexAddr tab t a i M).c) : (aIndexAddr tab t a i M').c ∧ (aIndexAddr tab t a i M').v = (aIndexAddr tab t a i M).v := by
 unfold aIndexAddr at hc ⊢
 split at hc
 ·rename_i k0 i0
  cases a with
  | ptr b p =>
   cases hb : look M b with
   | none => simp only [hb] at hc; cases hc
   | some k =>
    simp only [hb] at hc ⊢
    simp only [h _ _ hb]
    cases k with
    | fix x =>
     cases hty : (tg tab t).ty <;> simp only [hty] at hc ⊢ <;> first | exact False.elim hc | skip
     cases hg : getP x p <;> simp only [hg] at hc ⊢ <;> first | exact False.elim hc | exact ⟨hc, rfl⟩ | exact ⟨hc, trivial⟩ | skip
     split at hc <;> rename_i harr <;> (try simp only [harr]) <;> first | exact ⟨hc, rfl⟩ | exact ⟨hc, trivial⟩ | exact False.elim hc
    | row e x => exact False.elim hc
    | lnk _ _ _ => exact False.elim hc
  | lp b p =>
   cases hb : look M b with
   | none => simp only [hb] at hc; cases hc
   | some k =>
    simp only [hb] at hc ⊢
    simp only [h _ _ hb]
    cases k with
    | lnk fs i q =>
     cases hty : (tg tab t).ty <;> simp only [hty] at hc ⊢ <;> first | exact False.elim hc | skip
     cases hg : getP (.st fs) p <;> simp only [hg] at hc ⊢ <;> first | exact ⟨hc, rfl⟩ | exact ⟨hc, trivial⟩ | exact False.elim hc
    | row e x => exact False.elim hc
    | fix _ => exact False.elim hc
  | sub b p off m =>
   cases hty : (tg tab t).ty <;> simp only [hty] at hc ⊢ <;> first | exact ⟨hc, rfl⟩ | exact ⟨hc, trivial⟩ | exact False.elim hc
  | row b =>
   cases hb : look M b with
   | none => cases hty : (tg tab t).ty <;> simp only [hb, hty] at hc <;> exact False.elim hc
   | some k =>
    cases hty : (tg tab t).ty <;> simp only [hb, hty] at hc ⊢ <;> first | exact False.elim hc | skip
    simp only [h _ _ hb]
    cases k with
    | fix x => exact False.elim hc
    | lnk _ _ _ => exact False.elim hc
    | row e x => cases x <;> first | exact ⟨hc, rfl⟩ | exact ⟨hc, trivial⟩ | exact False.elim hc
  | rpt b j n =>
   cases n with
   | none => exact False.elim hc
   | some n =>
    cases hb : look M b with
    | none => cases hty : (tg tab t).ty <;> simp only [hb, hty] at hc <;> exact False.elim hc
    | some k =>
     cases hty : (tg tab t).ty <;> simp only [hb, hty] at hc ⊢ <;> first | exact False.elim hc | skip
     simp only [h _ _ hb]
     cases k <;> first | exact ⟨hc, rfl⟩ | exact ⟨hc, trivial⟩ | exact False.elim hc
  | own b p off len cap =>
   cases hty : (tg tab t).ty <;> simp only [hty] at hc ⊢ <;> first | exact ⟨hc, rfl⟩ | exact ⟨hc, trivial⟩ | exact False.elim hc
  | d x =>
   cases x <;> first | exact False.elim hc | skip
   all_goals (cases hty : (tg tab t).ty <;> simp only [hty] at hc ⊢ <;> first | exact ⟨hc, rfl⟩ | exact ⟨hc, trivial⟩ | exact False.elim hc)
  | dat x =>
   cases x <;> first | exact False.elim hc | skip
   all_goals cases hty : (tg tab t).ty <;> simp only [hty] at hc ⊢ <;> first | exact False.elim hc | exact ⟨hc, rfl⟩ | exact ⟨hc, trivial⟩ | skip
   split at hc <;> rename_i harr <;> (try simp only [harr]) <;> first | exact ⟨hc, rfl⟩ | exact ⟨hc, trivial⟩ | exact False.elim hc
  | _ => exact False.elim hc
 ·exact False.elim hc
theorem aLen_ext {M M' : Mem} (h : Ext M M') {tab : Tab} {t : TypeId} {a : AV} (hc : (aLen tab t a M).c) : (aLen tab t a M').c ∧ (aLen tab t a M').v = (aLen tab t a M).v := by
 unfold aLen at hc ⊢
 split at hc
 case h_6 b =>
  cases hb : look M b with
  | none => cases hty : (tg tab t).ty <;> simp only [hb, hty] at hc <;> exact False.elim hc
  | some k =>
   cases hty : (tg tab t).ty <;> simp only [hb, hty] at hc ⊢ <;> first | exact False.elim hc | skip
   simp only [h _ _ hb]
   cases k with
   | fix x => exact False.elim hc
   | lnk _ _ _ => exact False.elim hc
   | row e x => cases x <;> first | exact ⟨hc, rfl⟩ | exact ⟨hc, trivial⟩ | exact False.elim hc
 all_goals first | (cases hty : (tg tab t).ty <;> simp only [hty] at hc ⊢ <;> first | exact ⟨hc, rfl⟩ | exact ⟨hc, trivial⟩ | exact False.elim hc) | exact False.elim hc
theorem aSlice_ext {M M' : Mem} (h : Ext M M') {tab : Tab} {t : TypeId} {a : AV} {lo hi mx : Option AV} (hc : (aSlice tab t a lo hi mx M).c) : (aSlice tab t a lo hi mx M').c ∧ (aSlice tab t a lo hi mx M').v = (aSlice tab t a lo hi mx M).v := by
 unfold aSlice at hc ⊢
 cases mx with
 | some _ =>
  simp only at hc ⊢
  split at hc
  ·rename_i hty
   try simp only [hty]
   split at hc
   ·split at hc
    ·exact ⟨hc, rfl⟩
    ·exact False.elim hc
   ·exact False.elim hc
  ·exact False.elim hc
 | none =>
  simp only at hc ⊢
  split at hc
  case h_8 b e hty =>
   try simp only [hty]
   cases hb : look M b with
   | none => simp only [hb] at hc; exact False.elim hc
   | some k =>
    simp only [hb] at hc
    simp only [h _ _ hb]
    cases k with
    | row e x =>
     simp only at hc ⊢
     split at hc
     ·exact ⟨hc, rfl⟩
     ·exact False.elim hc
    | fix x => exact False.elim hc
    | lnk _ _ _ => exact False.elim hc
  case h_5 b p n e hty =>
   try simp only [hty]
   cases hb : look M b with
   | none => simp only [hb] at hc; exact False.elim hc
   | some k =>
    simp only [hb] at hc
    simp only [h _ _ hb]
    cases k with
    | fix x =>
     simp only at hc ⊢
     split at hc
     ·split at hc
      ·exact ⟨hc, rfl⟩
      ·exact False.elim hc
     ·exact False.elim hc
    | row e x => exact False.elim hc
    | lnk _ _ _ => exact False.elim hc
  all_goals rename_i hty
  all_goals first | exact False.elim hc | (try simp only [hty]); (split at hc <;> first | exact ⟨hc, rfl⟩ | exact ⟨hc, trivial⟩ | exact False.elim hc)
theorem aConv_ext {M M' : Mem} (h : Ext M M') {tab : Tab} {s t : TypeId} {a : AV} (hc : (aConv tab s t a M).c) : (aConv tab s t a M').c ∧ (aConv tab s t a M').v = (aConv tab s t a M).v := by
 unfold aConv at hc ⊢
 split at hc
 ·rename_i k hk
  try simp only [hk]
  split at hc
  ·rename_i h1
   exact ⟨trivial, rfl⟩
  ·exact False.elim hc
 ·rename_i hk
  try simp only [hk]
  split at hc
  ·rename_i e he
   try simp only [he]
   split at hc
   ·rename_i hu
    try simp only [hu]
    cases hd : toD M a with
    | none => simp only [hd] at hc; exact False.elim hc
    | some d =>
     simp only [hd] at hc
     simp only [hd, toD_ext h hd]
     split at hc <;> first | exact ⟨hc, rfl⟩ | exact ⟨hc, trivial⟩ | exact False.elim hc
   ·exact False.elim hc
  ·rename_i he
   try simp only [he]
   split at hc
   ·exact ⟨trivial, rfl⟩
   ·exact False.elim hc
  ·exact False.elim hc
 ·rename_i e hk
  try simp only [hk]
  split at hc
  ·rename_i h1 h2
   try simp only [h1, h2]
   split at hc
   ·exact ⟨trivial, rfl⟩
   ·exact False.elim hc
  ·exact False.elim hc
 ·exact False.elim hc
theorem aApp0_ext {M M' : Mem} (h : Ext M M') {tab : Tab} {t t2 : TypeId} {x y : AV} (hc : (aApp0 tab t t2 x y M).c) : (aApp0 tab t t2 x y M').c ∧ (aApp0 tab t t2 x y M').v = (aApp0 tab t t2 x y M).v := by
 unfold aApp0 at hc ⊢
 split at hc
 ·cases hd : toD M y with
  | none =>
   simp only [hd] at hc
   split at hc
   ·rename_i h1 h2; cases h2
   ·exact False.elim hc
  | some d =>
   simp only [hd] at hc ⊢
   simp only [toD_ext h hd]
   split at hc
   ·rename_i e1 e2
    obtain rfl := Option.some.inj e2
    try simp only [e1]
    split at hc
    ·rename_i e3
     try simp only [e3]
     exact ⟨hc, trivial⟩
    ·exact False.elim hc
   ·exact False.elim hc
 ·exact False.elim hc
theorem aNew_ext {M M' : Mem} (h : Ext M M') {tab : Tab} {t t2 : TypeId} {x y : AV} (hc : (aNew tab t t2 x y M).c) : (aNew tab t t2 x y M').c ∧ (aNew tab t t2 x y M').v = (aNew tab t t2 x y M).v := by
 unfold aNew at hc ⊢
 split at hc
 ·cases hd : toD M y with
  | none =>
   simp only [hd] at hc
   split at hc
   ·rename_i h1 h2; cases h2
   ·exact False.elim hc
  | some d =>
   simp only [hd] at hc ⊢
   simp only [toD_ext h hd]
   split at hc
   ·rename_i h1 h2
    cases h2
    try simp only [h1]
    split at hc <;> first | exact ⟨hc, rfl⟩ | exact ⟨hc, trivial⟩ | exact False.elim hc
   ·exact False.elim hc
 ·rename_i b p off len cap
  cases hb : look M b with
  | none => simp only [hb] at hc; exact False.elim hc
  | some k =>
   simp only [hb] at hc ⊢
   simp only [h _ _ hb]
   cases k with
   | fix z =>
    cases hty : (tg tab t).ty <;> simp only [hty] at hc ⊢ <;> first | exact False.elim hc | skip
    cases hd : toD M y with
    | none => simp only [hd] at hc; exact False.elim hc
    | some d =>
     simp only [hd] at hc ⊢
     simp only [toD_ext h hd]
     split at hc
     ·rename_i e1 e2
      try simp only [e1, e2]
      first | exact ⟨hc, rfl⟩ | exact ⟨hc, trivial⟩
     ·exact False.elim hc
   | row _ _ => exact False.elim hc
   | lnk _ _ _ => exact False.elim hc
 ·exact False.elim hc
theorem aCall_ext {M M' : Mem} (h : Ext M M') {C : Ctx} {f : FuncId} {as : List AV} (hc : (aCall C f as M).c) : (aCall C f as M').c ∧ (aCall C f as M').v = (aCall C f as M).v := by
 unfold aCall at hc ⊢
 cases hg : C.G f with
 | none => simp only [hg] at hc; exact False.elim hc
 | some s =>
  simp only [hg] at hc ⊢
  cases hio : ioFlag s with
  | true => simp only [hio, cond_true] at hc; exact False.elim hc
  | false =>
  simp only [hio, cond_false] at hc ⊢
  cases hf : (loose s || allData as) with
  | false => simp only [hf, cond_false] at hc; exact False.elim hc
  | true =>
   simp only [hf, cond_true] at hc ⊢
   cases hd : mapToD M C.tab as s.ps with
   | none => simp only [hd] at hc; exact False.elim hc
   | some ds =>
    simp only [hd] at hc ⊢
    simp only [mapToD_ext h hd]
    exact ⟨hc, rfl⟩
theorem act_ext {C : Ctx} {o : Oper} (hcl : cls C o ≤ 1) {ρ : Operand → AV} {M M' : Mem} (h : Ext M M') (hc : (act C o ρ M).c) : (act C o ρ M').c ∧ (act C o ρ M').v = (act C o ρ M).v := by
 rcases Nat.eq_zero_or_pos (cls C o) with h0 | h0
 ·obtain ⟨e1, e2, _⟩ := act_pure h0 ρ M M'
  exact ⟨e1 ▸ hc, e2.symm⟩
 ·have h1 : cls C o = 1 := by omega
  unfold cls at h1
  split at h1
  ·unfold act at hc ⊢
   split at h1 <;> rename_i ho <;> first | cases h1 | skip
   ·split at h1
    ·rename_i d _
     cases hr : C.rows.contains d <;> rw [hr] at h1 <;> cases h1
    ·cases h1
   ·split at h1
    ·rename_i d _
     cases hr : C.rows.contains d <;> rw [hr] at h1 <;> cases h1
    ·cases h1
   ·rename_i t a
    cases hrd : isRd C a <;> simp only [hrd, cond_true, cond_false] at h1
    case true => cases h1
    simp only [ho, hrd, cond_false] at hc ⊢
    refine nfR_ext hc ?_
    clear hc
    intro hc
    unfold cellR at hc ⊢
    split at hc
    ·rename_i p
     cases hf : C.frz.contains (p + 200000) <;> simp only [hf, cond_true, cond_false] at hc ⊢
     ·exact aLoad_ext h hc
     ·exact ⟨⟨hc.1, (aLoad_ext h hc.2).1⟩, (aLoad_ext h hc.2).2⟩
    ·exact aLoad_ext h hc
   ·rename_i t u x
    cases hrd : isRd C x <;> simp only [hrd, cond_true, cond_false] at h1
    case true => cases h1
    simp only [ho, hrd, cond_false] at hc ⊢; exact aConv_ext h hc
   ·rename_i t x lo hi mx
    cases hrd : isRd C x <;> simp only [hrd, cond_true, cond_false] at h1
    case true => cases h1
    simp only [ho, hrd, cond_false] at hc ⊢; exact tlR_ext hc fun hc => aSlice_ext h hc
   ·rename_i t x f
    cases hrd : isRd C x <;> simp only [hrd, cond_true, cond_false] at h1
    case true => cases h1
    simp only [ho, hrd, cond_false] at hc ⊢; exact nfR_ext hc fun hc => aFieldAddr_ext h hc
   ·simp only [ho] at hc ⊢; exact nfR_ext hc fun hc => aIndexAddr_ext h hc
   ·rename_i c
    simp only [ho] at hc ⊢
    split at h1
    ·cases h1
    ·rename_i hn
     split at hc
     ·rename_i hcal
      try simp only [hcal]
      split at hc
      ·rename_i e1 e2
       try simp only [e1, e2]
       exact aLen_ext h hc
      ·exact False.elim hc
     ·rename_i hcal
      exact absurd hcal hn
     ·rename_i hcal
      try simp only [hcal]
      split at hc
      ·rename_i e1 e2
       try simp only [e1, e2]
       cases happ : app0 C o.dst with
       | true =>
        simp only [happ, cond_true] at hc ⊢
        exact aApp0_ext h hc
       | false =>
        simp only [happ, cond_false] at hc ⊢
        exact aNew_ext h hc
      ·exact False.elim hc
     ·rename_i hcal
      try simp only [hcal]
      unfold aMin at hc ⊢
      split at hc
      ·rename_i e1
       simp only [e1]
       exact ⟨hc, rfl⟩
      ·exact False.elim hc
     ·rename_i hcal
      try simp only [hcal]
      unfold aMin at hc ⊢
      split at hc
      ·rename_i e1
       simp only [e1]
       exact ⟨hc, rfl⟩
      ·exact False.elim hc
     ·rename_i x hcal
      try simp only [hcal]
      split at hc
      ·rename_i f xs e1
       try simp only [e1]
       exact aCall_ext h hc
      ·exact False.elim hc
     ·exact False.elim hc
     ·exact False.elim hc
  ·cases h1
end Go.Vg
namespace Go.Vg
open Go Go.RowKit
def dstOf (ops : List Oper) (j : Nat) : Option Nat := (ops[j]?).bind (·.dst)
def yA (ops : List Oper) (T : List AV) (j : Nat) : Option (Option Bool) :=
 match dstOf ops j with
 | some d => match T.getD d .any with
  | .d (.val (.bool b)) => some (some b)
  | .d (.tup []) => some none
  | _ => none
 | none => none
noncomputable def step1 (C : Ctx) (ops : List Oper) (o : Oper) (s : St) : Prop × St :=
 match o.guard with
 | none => gstep C o s
 | some (j, want) => match yA ops s.T j with
  | none => (False, s)
  | some t => bif t == some want then gstep C o s else (True, s.put o.dst (.d (.tup [])))
def tmpsOf (l : List Operand) : List Nat := l.filterMap fun | .tmp t => some t | _ => none
def looks (ops : List Oper) (o : Oper) : List Nat :=
 tmpsOf o.op.operands.toList ++ (match o.guard with | some (j, _) => (dstOf ops j).toList | none => [])
def nin (d : Option Nat) (l : List Nat) : Bool :=
 match d with
 | none => true
 | some d => !(l.any (Nat.beq d))
def neD : Option Nat → Option Nat → Bool
 | some a, some b => !Nat.beq a b
 | _, _ => true
def clsOK (a b : Nat) : Bool := (Nat.ble a 1 && Nat.ble b 1) || (Nat.beq a 0 && Nat.ble b 2) || (Nat.ble a 2 && Nat.beq b 0)
def lsOK (C : Ctx) (ops : List Oper) (x y : Oper) : Bool :=
 match x.op, x.guard, y.op, y.guard, y.dst with
 | .load _ (.tmp p), none, .store _ (.tmp q) _, none, none => C.frz.contains (p + 200000) && C.frz.contains (q + 200000) && !Nat.beq p q && nin x.dst (looks ops y) && !isRd C (.tmp p) && !C.frz.contains (p + 800000) && ((tellN C p).isNone && (tellN C q).isNone)
 | _, _, _, _, _ => false
def isNfO (C : Ctx) (x : Oper) : Bool :=
 match x.op with
 | .load _ (.tmp p) => C.frz.contains (p + 800000) && !isRd C (.tmp p)
 | .fieldAddr _ (.tmp p) _ => C.frz.contains (p + 800000) && !isRd C (.tmp p)
 | .indexAddr _ (.tmp p) _ => C.frz.contains (p + 800000)
 | _ => false
def nfOK (C : Ctx) (ops : List Oper) (x y : Oper) : Bool :=
 match x.guard, y.op, y.guard, y.dst with
 | none, .store _ (.tmp q) _, none, none => isNfO C x && C.frz.contains (q + 200000) && nin x.dst (looks ops y) && (tellN C q).isNone
 | _, _, _, _ => false
def alOK (C : Ctx) (ops : List Oper) (x y : Oper) : Bool :=
 match y.op, y.guard with
 | .alloc _, none => Nat.ble (cls C x) 1 && nin y.dst (looks ops x) && neD x.dst y.dst && (lnkO C y.dst).isNone
 | _, _ => false
def aaOK (C : Ctx) (x y : Oper) : Bool :=
 match x.op, x.guard, y.op, y.guard, x.dst, y.dst with
 | .alloc _, none, .alloc _, none, some d, some e => !Nat.beq d e && (lnkO C (some d)).isNone && (lnkO C (some e)).isNone
 | _, _, _, _, _, _ => false
def mvOK (C : Ctx) (ops : List Oper) (x y : Oper) : Bool :=
 match x.op, x.guard, x.dst, y.guard, kindOf C y with
 | .move (.tmp p), none, some d, none, .app _ _ _ _ => C.frz.contains (p + 600000) && nin (some d) (looks ops y) && nin y.dst (looks ops x) && neD (some d) y.dst
 | _, _, _, _, _ => false
def isAp (C : Ctx) (x : Oper) : Bool :=
 match x.op with
 | .slice _ (.tmp p) none none none => (tellN C p).isSome && !isRd C (.tmp p)
 | .call c => match c.callee, c.args.toList with
  | .value (.func _), [] => true
  | _, _ => false
 | _ => false
def apOK (C : Ctx) (ops : List Oper) (x y : Oper) : Bool :=
 match y.guard, y.dst, x.guard, kindOf C x with
 | none, some d, none, .app _ _ _ _ => isAp C y && (Nat.ble (cls C y) 1 && nin (some d) (looks ops x) && nin x.dst (looks ops y) && neD (some d) x.dst)
 | _, _, _, _ => false
def isC0 (x : Oper) : Bool :=
 match x.op with
 | .call c => match c.callee, c.args.toList with
  | .value (.func _), [] => true
  | _, _ => false
 | _ => false
def fzOK (C : Ctx) (ops : List Oper) (x y : Oper) : Bool :=
 match y.guard, y.dst, x.guard, x.op, kindOf C x with
 | none, some d, none, .call _, .frz _ => isC0 y && (Nat.ble (cls C y) 1 && nin (some d) (looks ops x) && nin x.dst (looks ops y) && neD (some d) x.dst)
 | _, _, _, _, _ => false
def rdX (C : Ctx) (x : Oper) : Option Nat :=
 match x.op with
 | .load _ (.tmp p) => bif isRd C (.tmp p) || (C.frz.contains (p + 800000) || C.frz.contains (p + 200000)) then none else tellN C p
 | .fieldAddr _ (.tmp p) _ => bif isRd C (.tmp p) || C.frz.contains (p + 800000) then none else tellN C p
 | .indexAddr _ (.tmp p) _ => bif C.frz.contains (p + 800000) then none else tellN C p
 | _ => none
def isFA (x : Oper) : Bool := match x.op with
 | .fieldAddr _ _ _ => true
 | _ => false
def stX (C : Ctx) (y : Oper) : Option Nat :=
 match y.op with
 | .store _ (.tmp q) _ => bif C.frz.contains (q + 200000) then none else tellN C q
 | _ => none
def gdR (C : Ctx) (ops : List Oper) (x y : Oper) : Bool :=
 match x.guard, y.guard, rdX C x, stX C y, y.dst with
 | none, none, some b, some c, none => (!Nat.beq b c || isFA x) && nin x.dst (looks ops y)
 | _, _, _, _, _ => false
def commOK (C : Ctx) (ops : List Oper) (x y : Oper) : Bool :=
 (nin x.dst (looks ops y) && nin y.dst (looks ops x) && neD x.dst y.dst && clsOK (cls C x) (cls C y)) || lsOK C ops x y || alOK C ops x y || aaOK C x y || mvOK C ops x y || nfOK C ops x y || (gdR C ops x y || gdR C ops y x) || (apOK C ops x y || fzOK C ops x y)
theorem nin_spec {d : Option Nat} {l : List Nat} (h : nin d l = true) : ∀ e, d = some e → e ∉ l := by
 rintro e rfl he
 simp only [nin, Bool.not_eq_true', List.any_eq_false] at h
 exact absurd (Nat.beq_refl e) (by simpa using h e he)
theorem neD_spec {a b : Option Nat} (h : neD a b = true) : ∀ d, a = some d → b ≠ some d := by
 rintro d rfl rfl
 simp [neD] at h
noncomputable def eff (C : Ctx) (ops : List Oper) (o : Oper) (T : List AV) (M : Mem) : Prop × AV × Mem :=
 match o.guard with
 | none => match act C o (evA T) M with | r => (r.c, r.v, r.M)
 | some (j, want) => match yA ops T j with
  | none => (False, .any, M)
  | some t => bif t == some want then (match act C o (evA T) M with | r => (r.c, r.v, r.M)) else (True, .d (.tup []), M)
theorem plain_gstep {C : Ctx} {o : Oper} (h : cls C o ≤ 2) (s : St) : gstep C o s = ((act C o (evA s.T) s.M).c, St.put ⟨s.T, (act C o (evA s.T) s.M).M⟩ o.dst (act C o (evA s.T) s.M).v) := by
 unfold gstep
 unfold cls at h
 split at h
 ·rename_i hk; rw [hk]
 ·omega
theorem step1_eff {C : Ctx} {ops : List Oper} {o : Oper} (h : cls C o ≤ 2) (s : St) : (step1 C ops o s).1 = (eff C ops o s.T s.M).1 ∧ ((step1 C ops o s).1 → (step1 C ops o s).2 = St.put ⟨s.T, (eff C ops o s.T s.M).2.2⟩ o.dst (eff C ops o s.T s.M).2.1) := by
 unfold step1 eff
 cases o.guard with
 | none => simp only [plain_gstep h]; exact ⟨trivial, fun _ => trivial⟩
 | some g =>
  obtain ⟨j, want⟩ := g
  simp only
  cases yA ops s.T j with
  | none => exact ⟨rfl, fun h => h.elim⟩
  | some t =>
   simp only
   generalize (t == some want) = q
   cases q
   ·exact ⟨rfl, fun _ => rfl⟩
   ·simp only [cond_true, plain_gstep h]; exact ⟨trivial, fun _ => trivial⟩
theorem evA_look {ops : List Oper} {o : Oper} {T : List AV} {M : Mem} {d : Option Nat} {v : AV} (h : ∀ e, d = some e → e ∉ looks ops o) : ∀ x ∈ o.op.operands.toList, evA (St.put ⟨T, M⟩ d v).T x = evA T x := by
 intro x hx
 refine evA_put (s := ⟨T, M⟩) fun e he hxe => h e he ?_
 unfold looks tmpsOf
 refine List.mem_append.2 (.inl (List.mem_filterMap.2 ⟨x, hx, ?_⟩))
 rw [hxe]
theorem yA_look {ops : List Oper} {o : Oper} {T : List AV} {M : Mem} {d : Option Nat} {v : AV} {j : Nat} {want : Bool} (hg : o.guard = some (j, want)) (h : ∀ e, d = some e → e ∉ looks ops o) : yA ops (St.put ⟨T, M⟩ d v).T j = yA ops T j := by
 cases d with
 | none => rfl
 | some d =>
  unfold yA
  cases hd : dstOf ops j with
  | none => rfl
  | some e =>
   have hne : e ≠ d := fun he => h d rfl (by
    unfold looks
    rw [hg]
    exact List.mem_append.2 (.inr (by simp [hd, he])))
   simp only [St.put, List.getD_eq_getElem?_getD, List.getElem?_set_ne (Ne.symm hne)]
theorem eff_put {C : Ctx} {ops : List Oper} {o : Oper} {T : List AV} {M M' : Mem} {d : Option Nat} {v : AV} (h : ∀ e, d = some e → e ∉ looks ops o) : eff C ops o (St.put ⟨T, M'⟩ d v).T M = eff C ops o T M := by
 have ha := act_congr (C := C) (M := M) (evA_look (ops := ops) (T := T) (M := M') (v := v) h)
 unfold eff
 cases hg : o.guard with
 | none => simp only [ha]
 | some g =>
  obtain ⟨j, want⟩ := g
  simp only [yA_look hg h, ha]
theorem eff_pure {C : Ctx} {ops : List Oper} {o : Oper} (h : cls C o = 0) (T : List AV) (M M' : Mem) : (eff C ops o T M).1 = (eff C ops o T M').1 ∧ (eff C ops o T M).2.1 = (eff C ops o T M').2.1 ∧ (eff C ops o T M).2.2 = M := by
 have hp := act_pure h (evA T) M M'
 unfold eff
 split
 ·exact hp
 ·split
  ·exact ⟨rfl, rfl, rfl⟩
  ·rename_i t _
   cases hw : (t == _)
   ·exact ⟨rfl, rfl, rfl⟩
   ·exact hp
theorem eff_read {C : Ctx} {ops : List Oper} {o : Oper} (h : cls C o ≤ 1) (T : List AV) (M : Mem) : (eff C ops o T M).2.2 = M := by
 have hp := act_read h (evA T) M
 unfold eff
 split
 ·exact hp
 ·split
  ·rfl
  ·rename_i t _
   cases hw : (t == _)
   ·rfl
   ·exact hp
theorem put_M (T : List AV) (M : Mem) (d : Option Nat) (v : AV) : (St.put ⟨T, M⟩ d v).M = M := by cases d <;> rfl
theorem St.ext' {s t : St} (h1 : s.T = t.T) (h2 : s.M = t.M) : s = t := by cases s; cases t; simp_all
theorem load_look {tab : Tab} {t : TypeId} {b : Nat} {p : List Nat} {M M' : Mem} (h : look M' b = look M b) : (aLoad tab t (.ptr b p) M').c = (aLoad tab t (.ptr b p) M).c ∧ (aLoad tab t (.ptr b p) M').v = (aLoad tab t (.ptr b p) M).v := by
 unfold aLoad
 simp only [h]
 split <;> exact ⟨rfl, rfl⟩
theorem store_look {tab : Tab} {t : TypeId} {b c : Nat} {p : List Nat} {v : AV} {M : Mem} (h : c ≠ b) : look (aStore tab t (.ptr b p) v M).M c = look M c := by
 unfold aStore
 split
 ·rename_i b' p' y heq
  obtain ⟨rfl, rfl⟩ := AV.ptr.inj heq
  split
  ·simp only [look_put, if_neg h]
  ·rfl
 all_goals first | rfl | (rename_i heq; cases heq)
theorem comm_ls {C : Ctx} {ops : List Oper} {x y : Oper} {s : St} (h : lsOK C ops x y = true) (h1 : (step1 C ops x s).1) (h2 : (step1 C ops y (step1 C ops x s).2).1) :
  (step1 C ops y s).1 ∧ (step1 C ops x (step1 C ops y s).2).1 ∧ (step1 C ops x (step1 C ops y s).2).2 = (step1 C ops y (step1 C ops x s).2).2 := by
 unfold lsOK at h
 split at h
 ·rename_i t p t' q v hxo hxg hyo hyg hyd
  simp only [Bool.and_eq_true, Bool.not_eq_true', Option.isNone_iff_eq_none] at h
  obtain ⟨⟨⟨⟨⟨⟨hp, hq⟩, hpq⟩, hnin⟩, hrd⟩, hnf⟩, htp, htq⟩ := h
  have hne : p ≠ q := fun e => by rw [e, Nat.beq_refl] at hpq; cases hpq
  have hl := nin_spec hnin
  have kx : kindOf C x = .plain := by unfold kindOf; rw [hxo]
  have ky : kindOf C y = .plain := by unfold kindOf; rw [hyo]
  have gx : ∀ s : St, step1 C ops x s = ((isPtr p (evA s.T (.tmp p)) = true ∧ (aLoad C.tab t (unref (evA s.T (.tmp p))) s.M).c), St.put ⟨s.T, s.M⟩ x.dst (aLoad C.tab t (unref (evA s.T (.tmp p))) s.M).v) := by
   intro s
   unfold step1 gstep act
   rw [hxg]
   simp only [kx, hxo, hrd, cond_false, nfR, hnf, tlR, htp, cellR, hp, cond_true, aLoad_M]
  have gy : ∀ s : St, step1 C ops y s = ((isPtr q (evA s.T (.tmp q)) = true ∧ (aStore C.tab t' (evA s.T (.tmp q)) (evA s.T v) s.M).c), ⟨s.T, (aStore C.tab t' (evA s.T (.tmp q)) (evA s.T v) s.M).M⟩) := by
   intro s
   unfold step1 gstep act
   rw [hyg]
   simp only [ky, hyo, hyd, cellR, hq, cond_true, tlR, htq, St.put]
  have ev : ∀ z ∈ y.op.operands.toList, ∀ (M : Mem) (u : AV), evA (St.put ⟨s.T, M⟩ x.dst u).T z = evA s.T z := fun z hz M u => evA_look (ops := ops) (T := s.T) (M := M) hl z hz
  have evq : ∀ (M : Mem) (u : AV), evA (St.put ⟨s.T, M⟩ x.dst u).T (.tmp q) = evA s.T (.tmp q) := fun M u => ev _ (by rw [hyo]; simp [Op.operands]) M u
  have evv : ∀ (M : Mem) (u : AV), evA (St.put ⟨s.T, M⟩ x.dst u).T v = evA s.T v := fun M u => ev _ (by rw [hyo]; simp [Op.operands]) M u
  rw [gx] at h1 h2 ⊢
  rw [gy] at h2
  simp only [evq, evv, put_M] at h1 h2
  obtain ⟨h1a, h1b⟩ := h1
  obtain ⟨h2a, h2b⟩ := h2
  have px : ∃ pp, evA s.T (.tmp p) = .ptr p pp := by
   cases he : evA s.T (.tmp p) with
   | ptr b pp => rw [he] at h1a; exact ⟨pp, by rw [Nat.eq_of_beq_eq_true h1a]⟩
   | _ => rw [he] at h1a; cases h1a
  have py : ∃ pp, evA s.T (.tmp q) = .ptr q pp := by
   cases he : evA s.T (.tmp q) with
   | ptr b pp => rw [he] at h2a; exact ⟨pp, by rw [Nat.eq_of_beq_eq_true h2a]⟩
   | _ => rw [he] at h2a; cases h2a
  obtain ⟨pp, epp⟩ := px
  obtain ⟨qq, eqq⟩ := py
  have hlook : look (aStore C.tab t' (evA s.T (.tmp q)) (evA s.T v) s.M).M p = look s.M p := by rw [eqq]; exact store_look hne
  obtain ⟨l1, l2⟩ := load_look (tab := C.tab) (t := t) (p := pp) hlook
  refine ⟨?_, ?_, ?_⟩
  ·simp only [gy]
   exact ⟨h2a, h2b⟩
  ·simp only [gx, gy]
   refine ⟨h1a, ?_⟩
   rw [epp] at h1b ⊢
   simp only [unref] at h1b ⊢
   rw [l1]
   exact h1b
  ·simp only [gx, gy, evq, evv, put_M]
   rw [epp]
   simp only [unref]
   rw [l2]
   cases x.dst <;> rfl
 ·cases h
theorem comm_aa {C : Ctx} {ops : List Oper} {x y : Oper} {s : St} (h : aaOK C x y = true) (h1 : (step1 C ops x s).1) (h2 : (step1 C ops y (step1 C ops x s).2).1) :
  (step1 C ops y s).1 ∧ (step1 C ops x (step1 C ops y s).2).1 ∧ (step1 C ops x (step1 C ops y s).2).2 = (step1 C ops y (step1 C ops x s).2).2 := by
 unfold aaOK at h
 split at h
 ·rename_i t u d e hxo hxg hyo hyg hxd hyd
  simp only [Bool.and_eq_true, Bool.not_eq_true', Option.isNone_iff_eq_none] at h
  obtain ⟨⟨h, hld⟩, hle⟩ := h
  have hde : d ≠ e := fun he => by rw [he, Nat.beq_refl] at h; cases h
  have st : ∀ (o : Oper) (t : TypeId) (d : Nat) (s : St), lnkO C (some d) = none → o.op = .alloc t → o.guard = none → o.dst = some d →
    step1 C ops o s = match look s.M d with
     | none => (((match Nat.blt d 1000 with | true => True | false => False) ∧ (tg C.tab t).size ≠ 0), ⟨s.T.set d (.ptr d []), putM s.M d (.fix (tg C.tab t).zero)⟩)
     | some _ => ((False ∧ (tg C.tab t).size ≠ 0), St.put s (some d) (fail s.M).v) := by
   intro o t d s hl ho hg hd
   unfold step1 gstep act
   rw [hg]
   have k : kindOf C o = .plain := by unfold kindOf; rw [ho]
   simp only [k, ho, hd, hl, aAlloc]
   cases look s.M d <;> rfl
  rw [st x t d s hld hxo hxg hxd] at h1 h2 ⊢
  rw [st y u e s hle hyo hyg hyd]
  cases hl : look s.M d with
  | some z => rw [hl] at h1; exact h1.1.elim
  | none =>
   rw [hl] at h1 h2
   simp only at h1 h2 ⊢
   rw [st y u e _ hle hyo hyg hyd] at h2 ⊢
   simp only [look_put, if_neg (Ne.symm hde)] at h2 ⊢
   cases hm : look s.M e with
   | some z => rw [hm] at h2; exact h2.1.elim
   | none =>
    rw [hm] at h2
    simp only at h2 ⊢
    rw [st x t d _ hld hxo hxg hxd]
    simp only [look_put, if_neg hde, hl]
    refine ⟨h2, h1, ?_⟩
    rw [putM_comm hde _ _ hl hm]
    exact St.ext' (List.set_comm _ _ (Ne.symm hde)) rfl
 ·cases h
theorem eff_ext {C : Ctx} {ops : List Oper} {o : Oper} (h : cls C o ≤ 1) {T : List AV} {M M' : Mem} (hm : Ext M M') (hc : (eff C ops o T M).1) : (eff C ops o T M').1 ∧ (eff C ops o T M').2.1 = (eff C ops o T M).2.1 := by
 unfold eff at hc ⊢
 cases hg : o.guard with
 | none =>
  simp only [hg] at hc ⊢
  exact act_ext h hm hc
 | some g =>
  obtain ⟨j, want⟩ := g
  simp only [hg] at hc ⊢
  cases hy : yA ops T j with
  | none => simp only [hy] at hc
  | some t =>
   simp only [hy] at hc ⊢
   cases hw : (t == some want) with
   | false => simp only [cond_false]; exact ⟨trivial, trivial⟩
   | true =>
    simp only [hw, cond_true] at hc ⊢
    exact act_ext h hm hc
theorem comm_al {C : Ctx} {ops : List Oper} {x y : Oper} {s : St} (h : alOK C ops x y = true) (h1 : (step1 C ops x s).1) (h2 : (step1 C ops y (step1 C ops x s).2).1) :
  (step1 C ops y s).1 ∧ (step1 C ops x (step1 C ops y s).2).1 ∧ (step1 C ops x (step1 C ops y s).2).2 = (step1 C ops y (step1 C ops x s).2).2 := by
 unfold alOK at h
 split at h
 ·rename_i t hyo hyg
  simp only [Bool.and_eq_true, Nat.ble_eq, Option.isNone_iff_eq_none] at h
  obtain ⟨⟨⟨hx, hyx⟩, hne⟩, hlo⟩ := h
  have hyx' := nin_spec hyx
  have hne' := neD_spec hne
  have hxy' : ∀ e, x.dst = some e → e ∉ looks ops y := by
   intro e _ he
   unfold looks at he
   rw [hyo, hyg] at he
   simp [Op.operands, tmpsOf] at he
  have ky : cls C y ≤ 2 := by
   unfold cls kindOf
   rw [hyo]
   exact Nat.le_refl _
  have hx2 : cls C x ≤ 2 := by omega
  obtain ⟨a1, a2⟩ := step1_eff (ops := ops) hx2 s
  have a2 := a2 h1
  rw [a1] at h1
  rw [a2] at h2 ⊢
  obtain ⟨b1, b2⟩ := step1_eff (ops := ops) ky (St.put ⟨s.T, (eff C ops x s.T s.M).2.2⟩ x.dst (eff C ops x s.T s.M).2.1)
  have b2 := b2 h2
  rw [b1, eff_put hxy', put_M, eff_read hx] at h2
  rw [b2, eff_put hxy', put_M, eff_read hx]
  obtain ⟨c1, c2⟩ := step1_eff (ops := ops) ky s
  have hy1 : (step1 C ops y s).1 := by rw [c1]; exact h2
  have c2 := c2 hy1
  have hext : Ext s.M (eff C ops y s.T s.M).2.2 := by
   intro b k hb
   have e : eff C ops y s.T s.M = (match aAlloc C.tab y.dst (tg C.tab t).zero s.M with | r => (r.c ∧ (tg C.tab t).size ≠ 0, r.v, r.M)) := by
    unfold eff act
    rw [hyg, hyo]
    simp only [hlo]
   rw [e] at h2 ⊢
   unfold aAlloc at h2 ⊢
   cases hd : y.dst with
   | none => rw [hd] at h2; exact False.elim h2.1
   | some d =>
    rw [hd] at h2
    simp only at h2 ⊢
    cases hl : look s.M d with
    | some z => rw [hl] at h2; exact False.elim h2.1
    | none =>
     simp only
     rw [look_put, if_neg (fun e => by rw [e, hl] at hb; cases hb)]
     exact hb
  obtain ⟨e1, e2⟩ := eff_ext (ops := ops) hx hext h1
  rw [c2]
  obtain ⟨d1, d2⟩ := step1_eff (ops := ops) hx2 (St.put ⟨s.T, (eff C ops y s.T s.M).2.2⟩ y.dst (eff C ops y s.T s.M).2.1)
  have hx1 : (step1 C ops x (St.put ⟨s.T, (eff C ops y s.T s.M).2.2⟩ y.dst (eff C ops y s.T s.M).2.1)).1 := by
   rw [d1, eff_put hyx', put_M]
   exact e1
  have d2 := d2 hx1
  refine ⟨hy1, hx1, ?_⟩
  rw [d2, eff_put hyx', put_M, eff_read hx, e2]
  refine St.ext' ?_ (by rw [put_M, put_M])
  have := put_put (T := s.T) (M := s.M) (M' := (eff C ops y s.T s.M).2.2) (d1 := x.dst) (d2 := y.dst) (v1 := (eff C ops x s.T s.M).2.1) (v2 := (eff C ops y s.T s.M).2.1) hne'
  cases hxd : x.dst <;> cases hyd : y.dst <;> rw [hxd, hyd] at this <;> exact this.symm
 ·cases h
theorem keep_kill {v : AV} (h : isKeep v = true) (b : Nat) : killR b v = v := by
 cases v <;> first | rfl | cases h
theorem set_kill (T : List AV) {d : Nat} {v : AV} (h : isKeep v = true) (b : Nat) : (T.set d v).map (killR b) = (T.map (killR b)).set d v := by
 rw [List.map_set, keep_kill h]
theorem gApp_set {C : Ctx} {dst : Option Nat} {t t2 : TypeId} {b : Nat} {z : D} {y : AV} {T : List AV} {M : Mem} {d : Nat} {v : AV} (hk : isKeep v = true) (hd : ∀ e, dst = some e → e ≠ d) :
  gApp C dst t t2 b z y (T.set d v) M = ((gApp C dst t t2 b z y T M).1, ⟨(gApp C dst t t2 b z y T M).2.T.set d v, (gApp C dst t t2 b z y T M).2.M⟩) := by
 unfold gApp
 split
 ·split
  ·rw [set_kill T hk]
   cases dst with
   | none => rfl
   | some e =>
    simp only [St.put]
    rw [List.set_comm _ _ (hd e rfl)]
  ·rfl
 ·rfl
theorem gAppend_set {C : Ctx} {dst : Option Nat} {t t2 : TypeId} {x y : AV} {T : List AV} {M : Mem} {d : Nat} {v : AV} (hk : isKeep v = true) (hd : ∀ e, dst = some e → e ≠ d) :
  gAppend C dst t t2 x y ⟨T.set d v, M⟩ = ((gAppend C dst t t2 x y ⟨T, M⟩).1, ⟨(gAppend C dst t t2 x y ⟨T, M⟩).2.T.set d v, (gAppend C dst t t2 x y ⟨T, M⟩).2.M⟩) := by
 unfold gAppend
 split
 ·rename_i b
  cases hb : look M b with
  | none => simp only [hb]
  | some k =>
   cases k with
   | row e' z => cases hty : (tg C.tab t).ty <;> simp only [hb, gApp_set hk hd]
   | fix _ => simp only [hb]
   | lnk _ _ _ => simp only [hb]
 ·cases hdst : dst with
  | none => rfl
  | some e =>
   rw [hdst] at hd
   cases hty : (tg C.tab t).ty <;> try rfl
   cases hb : look M e with
   | none => simp only [hb, gApp_set hk hd]
   | some k => simp only [hb]
 ·rfl
theorem gApp_get {C : Ctx} {dst : Option Nat} {t t2 : TypeId} {b : Nat} {z : D} {y : AV} {T : List AV} {M : Mem} {p : Nat} {v : AV} (hv : T.getD p .any = v) (hk : isKeep v = true) (hd : ∀ e, dst = some e → e ≠ p) : (gApp C dst t t2 b z y T M).2.T.getD p .any = v := by
 have hm : ∀ b, (T.map (killR b)).getD p .any = v := fun b => by
  rw [List.getD_eq_getElem?_getD] at hv ⊢
  rw [List.getElem?_map]
  cases hT : T[p]? with
  | none => rw [hT] at hv; exact hv
  | some u =>
   rw [hT] at hv
   simp only [Option.getD_some] at hv
   subst hv
   simp only [Option.map_some, Option.getD_some]
   exact keep_kill hk b
 unfold gApp
 split
 ·split
  ·cases dst with
   | none => exact hm b
   | some e =>
    simp only [St.put]
    rw [List.getD_eq_getElem?_getD, List.getElem?_set_ne (hd e rfl), ← List.getD_eq_getElem?_getD]
    exact hm b
  ·exact hv
 ·exact hv
theorem gAppend_get {C : Ctx} {dst : Option Nat} {t t2 : TypeId} {x y : AV} {T : List AV} {M : Mem} {p : Nat} {v : AV} (hv : T.getD p .any = v) (hk : isKeep v = true) (hd : ∀ e, dst = some e → e ≠ p) : (gAppend C dst t t2 x y ⟨T, M⟩).2.T.getD p .any = v := by
 unfold gAppend
 split
 ·split
  ·exact gApp_get hv hk hd
  ·exact hv
 ·split
  ·split
   ·exact gApp_get hv hk hd
   ·exact hv
  ·exact hv
 ·exact hv
theorem comm_mv {C : Ctx} {ops : List Oper} {x y : Oper} {s : St} (h : mvOK C ops x y = true) (h1 : (step1 C ops x s).1) (h2 : (step1 C ops y (step1 C ops x s).2).1) :
  (step1 C ops y s).1 ∧ (step1 C ops x (step1 C ops y s).2).1 ∧ (step1 C ops x (step1 C ops y s).2).2 = (step1 C ops y (step1 C ops x s).2).2 := by
 unfold mvOK at h
 split at h
 ·rename_i p d t t2 u1 u2 hxo hxg hxd hyg hyk
  simp only [Bool.and_eq_true] at h
  obtain ⟨⟨⟨hp, hdy⟩, hyx⟩, hne⟩ := h
  have hdy := nin_spec hdy
  have hyx := nin_spec hyx
  have hne := neD_spec hne
  have kx : kindOf C x = .plain := by unfold kindOf; rw [hxo]
  have gx : ∀ s : St, step1 C ops x s = ((isKeep (s.T.getD p .any) = true), ⟨s.T.set d (s.T.getD p .any), s.M⟩) := by
   intro s
   unfold step1 gstep act
   rw [hxg]
   simp only [kx, hxo, mvR, hp, cond_true, hxd, St.put, evA]
  have gy : ∀ s : St, step1 C ops y s = gAppend C y.dst t t2 (evA s.T u1) (evA s.T u2) s := by
   intro s
   unfold step1 gstep
   rw [hyg]
   simp only [hyk]
  obtain ⟨c, hyo, hycal, hyargs, _⟩ := kindOf_app hyk
  have hin : ∀ z, z = u1 ∨ z = u2 → ∀ (T : List AV) (v : AV), evA (T.set d v) z = evA T z := by
   intro z hz T v
   have : z ∈ y.op.operands.toList := by
    rw [hyo]
    simp only [Op.operands, Call.operands]
    have hm : z ∈ c.args.toList := by rw [hyargs]; rcases hz with rfl | rfl <;> simp
    first
     | (simp; exact .inr (by simpa using hm))
     | (simp; simpa using hm)
   have := evA_look (ops := ops) (o := y) (T := T) (M := s.M) (d := some d) (v := v) hdy z this
   exact this
  have hyd : ∀ e, y.dst = some e → e ≠ d := fun e he e' => hne d rfl (by rw [he, e'])
  have hyp : ∀ e, y.dst = some e → e ≠ p := fun e he e' => hyx e he (by
   unfold looks tmpsOf
   rw [hxo, e']
   simp [Op.operands])
  have e0 : s = ⟨s.T, s.M⟩ := rfl
  rw [gx] at h1 h2
  rw [gy] at h2
  simp only [hin u1 (.inl rfl), hin u2 (.inr rfl), gAppend_set h1 hyd] at h2
  have hget : (gAppend C y.dst t t2 (evA s.T u1) (evA s.T u2) s).2.T.getD p .any = s.T.getD p .any := gAppend_get (T := s.T) (M := s.M) rfl h1 hyp
  refine ⟨?_, ?_, ?_⟩
  ·rw [gy]
   exact h2
  ·rw [gx, gy]
   show isKeep _ = true
   rw [hget]
   exact h1
  ·rw [gx (step1 C ops y s).2, gy, gx s, gy]
   simp only [hget, hin u1 (.inl rfl), hin u2 (.inr rfl), gAppend_set h1 hyd]
 ·cases h
def Sm (q : Nat) (M M' : Mem) : Prop := (∀ c, c ≠ q → look M' c = look M c) ∧ (∃ x, look M q = some (.fix x)) ∧ ∃ x, look M' q = some (.fix x)
theorem nf_load {tab : Tab} {t : TypeId} {q : Nat} {M M' : Mem} (h : Sm q M M') {v : AV} (hv : isNf v = true) : (aLoad tab t v M').c = (aLoad tab t v M).c ∧ (aLoad tab t v M').v = (aLoad tab t v M).v := by
 obtain ⟨h1, ⟨x, h2⟩, y, h3⟩ := h
 unfold aLoad
 cases v with
 | rpt b i n =>
  cases n with
  | some n => exact ⟨rfl, rfl⟩
  | none =>
  by_cases hb : b = q
  ·subst hb
   simp only [h2, h3]
   exact ⟨rfl, rfl⟩
  ·simp only [h1 b hb]
   split <;> exact ⟨rfl, rfl⟩
 | lp b p =>
  by_cases hb : b = q
  ·subst hb
   simp only [h2, h3]
   exact ⟨rfl, rfl⟩
  ·simp only [h1 b hb]
   split
   ·split
    ·exact ⟨rfl, rfl⟩
    ·rename_i j p'
     generalize Nat.beq j _ = bb
     cases bb
     ·exact ⟨rfl, rfl⟩
     ·simp only [cond_true]
      split
      ·rename_i r' _
       by_cases hr : r' = q
       ·subst hr
        simp only [h2, h3]
        exact ⟨rfl, rfl⟩
       ·simp only [h1 r' hr]
        split <;> exact ⟨rfl, rfl⟩
      ·exact ⟨rfl, rfl⟩
   ·exact ⟨rfl, rfl⟩
 | row b => exact ⟨rfl, rfl⟩
 | _ => cases hv
theorem nf_field {tab : Tab} {t : TypeId} {f q : Nat} {M M' : Mem} (h : Sm q M M') {v : AV} (hv : isNf v = true) : (aFieldAddr tab t v f M').c = (aFieldAddr tab t v f M).c ∧ (aFieldAddr tab t v f M').v = (aFieldAddr tab t v f M).v := by
 obtain ⟨h1, ⟨x, h2⟩, y, h3⟩ := h
 unfold aFieldAddr
 cases v with
 | lp b p =>
  by_cases hb : b = q
  ·subst hb
   simp only [h2, h3]
   exact ⟨rfl, rfl⟩
  ·simp only [h1 b hb]
   split <;> exact ⟨rfl, rfl⟩
 | row b => exact ⟨rfl, rfl⟩
 | rpt b i n => exact ⟨rfl, rfl⟩
 | _ => cases hv
theorem nf_index {tab : Tab} {t : TypeId} {i : AV} {q : Nat} {M M' : Mem} (h : Sm q M M') {v : AV} (hv : isNf v = true) : (aIndexAddr tab t v i M').c = (aIndexAddr tab t v i M).c ∧ (aIndexAddr tab t v i M').v = (aIndexAddr tab t v i M).v := by
 obtain ⟨h1, ⟨x, h2⟩, y, h3⟩ := h
 unfold aIndexAddr
 split
 ·cases v with
  | row b =>
   by_cases hb : b = q
   ·subst hb
    simp only [h2, h3]
    cases (tg tab t).ty <;> exact ⟨rfl, rfl⟩
   ·simp only [h1 b hb]
    split <;> exact ⟨rfl, rfl⟩
  | lp b p =>
   by_cases hb : b = q
   ·subst hb
    simp only [h2, h3]
    exact ⟨rfl, rfl⟩
   ·simp only [h1 b hb]
    split
    ·split <;> exact ⟨rfl, rfl⟩
    ·exact ⟨rfl, rfl⟩
  | rpt b i n =>
   cases n with
   | none => exact ⟨rfl, rfl⟩
   | some n =>
    by_cases hb : b = q
    ·subst hb
     simp only [h2, h3]
     cases (tg tab t).ty <;> exact ⟨rfl, rfl⟩
    ·simp only [h1 b hb]
     split <;> exact ⟨rfl, rfl⟩
  | _ => cases hv
 ·exact ⟨rfl, rfl⟩
theorem isNf_unref {v : AV} (h : isNf v = true) : unref v = v := by
 cases v <;> first | rfl | cases h
theorem act_nf {C : Ctx} {x : Oper} (hx : isNfO C x = true) {ρ : Operand → AV} {q : Nat} {M M' : Mem} (h : Sm q M M') (hc : (act C x ρ M).c) : (act C x ρ M').c ∧ (act C x ρ M').v = (act C x ρ M).v ∧ (act C x ρ M').M = M' := by
 unfold isNfO at hx
 split at hx
 ·rename_i t p ho
  simp only [Bool.and_eq_true, Bool.not_eq_true'] at hx
  unfold act at hc ⊢
  simp only [ho, hx.2, cond_false, nfR, hx.1, cond_true] at hc ⊢
  have e := isNf_unref hc.1
  rw [e] at hc ⊢
  obtain ⟨l1, l2⟩ := nf_load (tab := C.tab) (t := t) h hc.1
  refine ⟨⟨hc.1, ?_⟩, ?_, ?_⟩
  ·have hc2 := hc.2
   unfold cellR at hc2 ⊢
   simp only at hc2 ⊢
   cases hf : C.frz.contains (p + 200000) <;> simp only [hf, cond_true, cond_false] at hc2 ⊢
   ·rw [l1]; exact hc2
   ·exact ⟨hc2.1, by rw [l1]; exact hc2.2⟩
  ·rw [(cellR_vM _ _ _ _).1, (cellR_vM _ _ _ _).1]; exact l2
  ·rw [(cellR_vM _ _ _ _).2]; exact aLoad_M
 ·rename_i t p f ho
  simp only [Bool.and_eq_true, Bool.not_eq_true'] at hx
  unfold act at hc ⊢
  simp only [ho, hx.2, cond_false, nfR, hx.1, cond_true] at hc ⊢
  have e := isNf_unref hc.1
  rw [e] at hc ⊢
  obtain ⟨l1, l2⟩ := nf_field (tab := C.tab) (t := t) (f := f) h hc.1
  exact ⟨⟨hc.1, by rw [l1]; exact hc.2⟩, l2, aFieldAddr_M⟩
 ·rename_i t p i ho
  unfold act at hc ⊢
  simp only [ho, nfR, hx, cond_true] at hc ⊢
  have e := isNf_unref hc.1
  rw [e] at hc ⊢
  obtain ⟨l1, l2⟩ := nf_index (tab := C.tab) (t := t) (i := ρ i) h hc.1
  exact ⟨⟨hc.1, by rw [l1]; exact hc.2⟩, l2, aIndexAddr_M⟩
 ·cases hx
theorem isNfO_plain {C : Ctx} {x : Oper} (hx : isNfO C x = true) : kindOf C x = .plain := by
 unfold isNfO at hx
 split at hx <;> first | (rename_i ho; unfold kindOf; rw [ho]) | cases hx
theorem store_sm {tab : Tab} {t : TypeId} {q : Nat} {p : List Nat} {v : AV} {M : Mem} (hc : (aStore tab t (.ptr q p) v M).c) : Sm q M (aStore tab t (.ptr q p) v M).M := by
 refine ⟨fun c hcq => store_look hcq, ?_⟩
 unfold aStore at hc ⊢
 split at hc
 ·rename_i b' p' y heq
  obtain ⟨rfl, rfl⟩ := AV.ptr.inj heq
  split at hc
  ·rename_i x hx
   exact ⟨⟨x, hx⟩, _, by rw [look_put, if_pos rfl]⟩
  ·exact hc.elim
 all_goals first | exact hc.elim | (rename_i heq; cases heq)
theorem act_nfM {C : Ctx} {x : Oper} (hx : isNfO C x = true) {ρ : Operand → AV} {M : Mem} : (act C x ρ M).M = M := by
 unfold isNfO at hx
 split at hx
 ·rename_i t p ho
  simp only [Bool.and_eq_true, Bool.not_eq_true'] at hx
  unfold act
  simp only [ho, hx.2, cond_false]
  rw [(nfR_vM _ _ _ _).2, (cellR_vM _ _ _ _).2]
  exact aLoad_M
 ·rename_i t p f ho
  simp only [Bool.and_eq_true, Bool.not_eq_true'] at hx
  unfold act
  simp only [ho, hx.2, cond_false]
  rw [(nfR_vM _ _ _ _).2]
  exact aFieldAddr_M
 ·rename_i t p i ho
  unfold act
  simp only [ho]
  rw [(nfR_vM _ _ _ _).2]
  exact aIndexAddr_M
 ·cases hx
theorem comm_nf {C : Ctx} {ops : List Oper} {x y : Oper} {s : St} (h : nfOK C ops x y = true) (h1 : (step1 C ops x s).1) (h2 : (step1 C ops y (step1 C ops x s).2).1) :
  (step1 C ops y s).1 ∧ (step1 C ops x (step1 C ops y s).2).1 ∧ (step1 C ops x (step1 C ops y s).2).2 = (step1 C ops y (step1 C ops x s).2).2 := by
 unfold nfOK at h
 split at h
 ·rename_i t' q v hxg hyo hyg hyd
  simp only [Bool.and_eq_true, Option.isNone_iff_eq_none] at h
  obtain ⟨⟨⟨hxn, hq⟩, hnin⟩, htq⟩ := h
  have hl := nin_spec hnin
  have kx := isNfO_plain hxn
  have ky : kindOf C y = .plain := by unfold kindOf; rw [hyo]
  have gx : ∀ s : St, step1 C ops x s = ((act C x (evA s.T) s.M).c, St.put ⟨s.T, s.M⟩ x.dst (act C x (evA s.T) s.M).v) := by
   intro s
   unfold step1 gstep
   rw [hxg]
   simp only [kx, act_nfM hxn]
  have gy : ∀ s : St, step1 C ops y s = ((isPtr q (evA s.T (.tmp q)) = true ∧ (aStore C.tab t' (evA s.T (.tmp q)) (evA s.T v) s.M).c), ⟨s.T, (aStore C.tab t' (evA s.T (.tmp q)) (evA s.T v) s.M).M⟩) := by
   intro s
   unfold step1 gstep act
   rw [hyg]
   simp only [ky, hyo, hyd, cellR, hq, cond_true, tlR, htq, St.put]
  have ev : ∀ z ∈ y.op.operands.toList, ∀ (M : Mem) (u : AV), evA (St.put ⟨s.T, M⟩ x.dst u).T z = evA s.T z := fun z hz M u => evA_look (ops := ops) (T := s.T) (M := M) hl z hz
  have evq : ∀ (M : Mem) (u : AV), evA (St.put ⟨s.T, M⟩ x.dst u).T (.tmp q) = evA s.T (.tmp q) := fun M u => ev _ (by rw [hyo]; simp [Op.operands]) M u
  have evv : ∀ (M : Mem) (u : AV), evA (St.put ⟨s.T, M⟩ x.dst u).T v = evA s.T v := fun M u => ev _ (by rw [hyo]; simp [Op.operands]) M u
  rw [gx] at h1 h2 ⊢
  rw [gy] at h2
  simp only [evq, evv, put_M] at h1 h2
  obtain ⟨h2a, h2b⟩ := h2
  have py : ∃ pp, evA s.T (.tmp q) = .ptr q pp := by
   cases he : evA s.T (.tmp q) with
   | ptr b pp => rw [he] at h2a; exact ⟨pp, by rw [Nat.eq_of_beq_eq_true h2a]⟩
   | _ => rw [he] at h2a; cases h2a
  obtain ⟨qq, eqq⟩ := py
  have hsm : Sm q s.M (aStore C.tab t' (evA s.T (.tmp q)) (evA s.T v) s.M).M := by
   rw [eqq] at h2b ⊢
   exact store_sm h2b
  obtain ⟨l1, l2, l3⟩ := act_nf hxn hsm h1
  refine ⟨?_, ?_, ?_⟩
  ·simp only [gy]
   exact ⟨h2a, h2b⟩
  ·simp only [gx, gy]
   exact l1
  ·simp only [gx, gy, evq, evv, put_M]
   rw [l2]
   cases x.dst <;> rfl
 ·cases h
theorem sk_getD : ∀ {fs gs : List D}, sks fs = sks gs → ∀ i, sk (fs.getD i default) = sk (gs.getD i default)
 | [], [], _, i => rfl
 | [], _ :: _, h, _ => by simp only [sks] at h; cases h
 | _ :: _, [], h, _ => by simp only [sks] at h; cases h
 | x :: fs, y :: gs, h, i => by
  simp only [sks] at h
  injection h with h1 h2
  cases i with
  | zero => exact h1
  | succ i => exact sk_getD h2 i
theorem sk_getP : ∀ (p : List Nat) (d d' : D), sk d = sk d' → sk (getP d p) = sk (getP d' p)
 | [], d, d', h => h
 | i :: p, d, d', h => by
  cases d <;> cases d' <;> simp only [sk] at h <;> first
   | (cases h; done)
   | (simp only [getP, sk]; done)
   | (simp only [getP]; exact sk_getP p _ _ (sk_getD (Sk.st.inj h) i))
   | (simp only [getP, sk]; exact h)
structure Aks (c : Nat) (M M' : Mem) : Prop where
 off : ∀ b, b ≠ c → look M' b = look M b
 both : ∃ d d', look M c = some (.fix d) ∧ look M' c = some (.fix d') ∧ sk d' = sk d
theorem Aks.symm {c : Nat} {M M' : Mem} (h : Aks c M M') : Aks c M' M := by
 obtain ⟨d, d', h1, h2, h3⟩ := h.both
 exact ⟨fun b hb => (h.off b hb).symm, d', d, h2, h1, h3.symm⟩
theorem store_aks {tab : Tab} {t : TypeId} {q : Nat} {p : List Nat} {v : AV} {M : Mem} (hc : (aStore tab t (.ptr q p) v M).c) : Aks q M (aStore tab t (.ptr q p) v M).M := by
 refine ⟨fun c hcq => store_look hcq, ?_⟩
 unfold aStore at hc ⊢
 split at hc
 ·rename_i b' p' y heq
  obtain ⟨rfl, rfl⟩ := AV.ptr.inj heq
  split at hc
  ·rename_i x hx
   exact ⟨x, _, hx, by rw [look_put, if_pos rfl], sk_setP _ _ _ hc.1⟩
  ·exact hc.elim
 all_goals first | exact hc.elim | (rename_i heq; cases heq)
theorem isPtr_of {b : Nat} {v : AV} (h : isPtr b v = true) : ∃ p, v = .ptr b p := by
 cases v with
 | ptr c p => exact ⟨p, by rw [Nat.eq_of_beq_eq_true h]⟩
 | _ => cases h
theorem index_look {tab : Tab} {t : TypeId} {b : Nat} {p : List Nat} {i : AV} {M M' : Mem} (h : look M' b = look M b) : (aIndexAddr tab t (.ptr b p) i M').c = (aIndexAddr tab t (.ptr b p) i M).c ∧ (aIndexAddr tab t (.ptr b p) i M').v = (aIndexAddr tab t (.ptr b p) i M).v := by
 unfold aIndexAddr
 split
 ·simp only [h]
  split
  ·split
   ·split <;> exact ⟨rfl, rfl⟩
   ·exact ⟨rfl, rfl⟩
   ·exact ⟨rfl, rfl⟩
  ·exact ⟨rfl, rfl⟩
 ·exact ⟨rfl, rfl⟩
theorem rd_act {C : Ctx} {x : Oper} {b c : Nat} (hx : rdX C x = some b) (hb : (!Nat.beq b c || isFA x) = true) {ρ : Operand → AV} {M M' : Mem} (h : Aks c M M') (hc : (act C x ρ M).c) :
  (act C x ρ M').c ∧ (act C x ρ M').v = (act C x ρ M).v := by
 unfold rdX at hx
 split at hx
 ·rename_i t p ho
  have hfa : isFA x = false := by unfold isFA; rw [ho]
  rw [hfa, Bool.or_false, Bool.not_eq_true'] at hb
  have hbc : b ≠ c := fun e => by rw [e, Nat.beq_refl] at hb; cases hb
  cases h1 : isRd C (.tmp p) <;> rw [h1] at hx
  case true => cases hx
  cases h8 : C.frz.contains (p + 800000) <;> rw [h8] at hx
  case true => cases hx
  cases h2 : C.frz.contains (p + 200000) <;> rw [h2] at hx
  case true => cases hx
  have hx : tellN C p = some b := hx
  unfold act at hc ⊢
  simp only [ho, h1, cond_false, nfR, h8, tlR, hx, cellR, h2] at hc ⊢
  obtain ⟨pp, e⟩ := isPtr_of hc.1
  rw [e] at hc ⊢
  simp only [unref] at hc ⊢
  obtain ⟨l1, l2⟩ := load_look (tab := C.tab) (t := t) (p := pp) (h.off b hbc)
  exact ⟨⟨hc.1, by rw [l1]; exact hc.2⟩, l2⟩
 ·rename_i t p f ho
  cases h1 : isRd C (.tmp p) <;> rw [h1] at hx
  case true => cases hx
  cases h8 : C.frz.contains (p + 800000) <;> rw [h8] at hx
  case true => cases hx
  have hx : tellN C p = some b := hx
  unfold act at hc ⊢
  simp only [ho, h1, cond_false, nfR, h8, tlR, hx] at hc ⊢
  obtain ⟨pp, e⟩ := isPtr_of hc.1
  rw [e] at hc ⊢
  simp only [unref] at hc ⊢
  obtain ⟨hp, hc⟩ := hc
  by_cases hbc : b = c
  ·subst hbc
   obtain ⟨d, d', l1, l2, l3⟩ := h.both
   have hs := sk_getP pp d' d l3
   unfold aFieldAddr at hc ⊢
   simp only [l1, l2] at hc ⊢
   cases hty : (tg C.tab t).ty <;> simp only [hty] at hc ⊢ <;> first | exact hc.elim | exact ⟨⟨hp, by rw [hs]; exact hc.1, hc.2⟩, trivial⟩ | exact ⟨⟨hp, by rw [hs]; exact hc.1, hc.2⟩, rfl⟩
  ·have hl := h.off b hbc
   unfold aFieldAddr at hc ⊢
   simp only [hl] at hc ⊢
   split at hc
   ·first | exact ⟨⟨hp, hc⟩, rfl⟩ | (rename_i e1 e2; simp only [e1, e2]; exact ⟨⟨hp, hc⟩, trivial⟩)
   ·exact hc.elim
 ·rename_i t p i ho
  have hfa : isFA x = false := by unfold isFA; rw [ho]
  rw [hfa, Bool.or_false, Bool.not_eq_true'] at hb
  have hbc : b ≠ c := fun e => by rw [e, Nat.beq_refl] at hb; cases hb
  cases h8 : C.frz.contains (p + 800000) <;> rw [h8] at hx
  case true => cases hx
  have hx : tellN C p = some b := hx
  unfold act at hc ⊢
  simp only [ho, cond_false, nfR, h8, tlR, hx] at hc ⊢
  obtain ⟨pp, e⟩ := isPtr_of hc.1
  rw [e] at hc ⊢
  simp only [unref] at hc ⊢
  obtain ⟨l1, l2⟩ := index_look (tab := C.tab) (t := t) (p := pp) (i := ρ i) (h.off b hbc)
  exact ⟨⟨hc.1, by rw [l1]; exact hc.2⟩, l2⟩
 ·cases hx
theorem rd_M {C : Ctx} {x : Oper} {b : Nat} (hx : rdX C x = some b) {ρ : Operand → AV} {M : Mem} : (act C x ρ M).M = M := by
 unfold rdX at hx
 split at hx
 ·rename_i t p ho
  cases h1 : isRd C (.tmp p) <;> rw [h1] at hx
  case true => cases hx
  unfold act
  simp only [ho, h1, cond_false]
  rw [(nfR_vM _ _ _ _).2, (cellR_vM _ _ _ _).2]
  exact aLoad_M
 ·rename_i t p f ho
  cases h1 : isRd C (.tmp p) <;> rw [h1] at hx
  case true => cases hx
  unfold act
  simp only [ho, h1, cond_false]
  rw [(nfR_vM _ _ _ _).2]
  exact aFieldAddr_M
 ·rename_i t p i ho
  unfold act
  simp only [ho]
  rw [(nfR_vM _ _ _ _).2]
  exact aIndexAddr_M
 ·cases hx
theorem rd_plain {C : Ctx} {x : Oper} {b : Nat} (hx : rdX C x = some b) : kindOf C x = .plain := by
 unfold rdX at hx
 split at hx <;> first | (rename_i ho; unfold kindOf; rw [ho]) | cases hx
theorem st_step {C : Ctx} {ops : List Oper} {y : Oper} {c : Nat} (hy : stX C y = some c) (hyg : y.guard = none) (hyd : y.dst = none) : ∃ t q v, y.op = .store t (.tmp q) v ∧
  ∀ s : St, step1 C ops y s = ((isPtr c (evA s.T (.tmp q)) = true ∧ (aStore C.tab t (evA s.T (.tmp q)) (evA s.T v) s.M).c), ⟨s.T, (aStore C.tab t (evA s.T (.tmp q)) (evA s.T v) s.M).M⟩) := by
 unfold stX at hy
 split at hy
 ·rename_i t q v hyo
  cases h2 : C.frz.contains (q + 200000) <;> rw [h2] at hy
  case true => cases hy
  have hy : tellN C q = some c := hy
  refine ⟨t, q, v, hyo, fun s => ?_⟩
  have ky : kindOf C y = .plain := by unfold kindOf; rw [hyo]
  unfold step1 gstep act
  rw [hyg]
  simp only [ky, hyo, hyd, cellR, h2, cond_false, tlR, hy, St.put]
 ·cases hy
theorem comm_gd {C : Ctx} {ops : List Oper} {x y : Oper} {s : St} (h : gdR C ops x y = true) (h1 : (step1 C ops x s).1) (h2 : (step1 C ops y (step1 C ops x s).2).1) :
  (step1 C ops y s).1 ∧ (step1 C ops x (step1 C ops y s).2).1 ∧ (step1 C ops x (step1 C ops y s).2).2 = (step1 C ops y (step1 C ops x s).2).2 := by
 unfold gdR at h
 split at h
 ·rename_i b c hxg hyg hx hy hyd
  simp only [Bool.and_eq_true] at h
  obtain ⟨hb, hnin⟩ := h
  have hl := nin_spec hnin
  have kx := rd_plain hx
  have gx : ∀ s : St, step1 C ops x s = ((act C x (evA s.T) s.M).c, St.put ⟨s.T, s.M⟩ x.dst (act C x (evA s.T) s.M).v) := by
   intro s
   unfold step1 gstep
   rw [hxg]
   simp only [kx, rd_M hx]
  obtain ⟨t', q, v, hyo, gy⟩ := st_step (ops := ops) hy hyg hyd
  have ev : ∀ z ∈ y.op.operands.toList, ∀ (M : Mem) (u : AV), evA (St.put ⟨s.T, M⟩ x.dst u).T z = evA s.T z := fun z hz M u => evA_look (ops := ops) (T := s.T) (M := M) hl z hz
  have evq : ∀ (M : Mem) (u : AV), evA (St.put ⟨s.T, M⟩ x.dst u).T (.tmp q) = evA s.T (.tmp q) := fun M u => ev _ (by rw [hyo]; simp [Op.operands]) M u
  have evv : ∀ (M : Mem) (u : AV), evA (St.put ⟨s.T, M⟩ x.dst u).T v = evA s.T v := fun M u => ev _ (by rw [hyo]; simp [Op.operands]) M u
  rw [gx] at h1 h2 ⊢
  rw [gy] at h2
  simp only [evq, evv, put_M] at h1 h2
  obtain ⟨h2a, h2b⟩ := h2
  obtain ⟨qq, eqq⟩ := isPtr_of h2a
  have hsm : Aks c s.M (aStore C.tab t' (evA s.T (.tmp q)) (evA s.T v) s.M).M := by
   rw [eqq] at h2b ⊢
   exact store_aks h2b
  obtain ⟨l1, l2⟩ := rd_act hx hb hsm h1
  refine ⟨?_, ?_, ?_⟩
  ·simp only [gy]
   exact ⟨h2a, h2b⟩
  ·simp only [gx, gy]
   exact l1
  ·simp only [gx, gy, evq, evv, put_M]
   rw [l2]
   cases x.dst <;> rfl
 ·cases h
theorem comm_gd2 {C : Ctx} {ops : List Oper} {x y : Oper} {s : St} (h : gdR C ops y x = true) (h1 : (step1 C ops x s).1) (h2 : (step1 C ops y (step1 C ops x s).2).1) :
  (step1 C ops y s).1 ∧ (step1 C ops x (step1 C ops y s).2).1 ∧ (step1 C ops x (step1 C ops y s).2).2 = (step1 C ops y (step1 C ops x s).2).2 := by
 unfold gdR at h
 split at h
 ·rename_i b c hyg hxg hy hx hxd
  simp only [Bool.and_eq_true] at h
  obtain ⟨hb, hnin⟩ := h
  have hl := nin_spec hnin
  have ky := rd_plain hy
  have gy : ∀ s : St, step1 C ops y s = ((act C y (evA s.T) s.M).c, St.put ⟨s.T, s.M⟩ y.dst (act C y (evA s.T) s.M).v) := by
   intro s
   unfold step1 gstep
   rw [hyg]
   simp only [ky, rd_M hy]
  obtain ⟨t', q, v, hxo, gx⟩ := st_step (ops := ops) hx hxg hxd
  have ev : ∀ z ∈ x.op.operands.toList, ∀ (M : Mem) (u : AV), evA (St.put ⟨s.T, M⟩ y.dst u).T z = evA s.T z := fun z hz M u => evA_look (ops := ops) (T := s.T) (M := M) hl z hz
  have evq : ∀ (M : Mem) (u : AV), evA (St.put ⟨s.T, M⟩ y.dst u).T (.tmp q) = evA s.T (.tmp q) := fun M u => ev _ (by rw [hxo]; simp [Op.operands]) M u
  have evv : ∀ (M : Mem) (u : AV), evA (St.put ⟨s.T, M⟩ y.dst u).T v = evA s.T v := fun M u => ev _ (by rw [hxo]; simp [Op.operands]) M u
  rw [gx] at h1 h2 ⊢
  rw [gy] at h2
  simp only at h1 h2
  obtain ⟨h1a, h1b⟩ := h1
  obtain ⟨qq, eqq⟩ := isPtr_of h1a
  have hsm : Aks c s.M (aStore C.tab t' (evA s.T (.tmp q)) (evA s.T v) s.M).M := by
   rw [eqq] at h1b ⊢
   exact store_aks h1b
  obtain ⟨l1, l2⟩ := rd_act hy hb hsm.symm h2
  refine ⟨?_, ?_, ?_⟩
  ·simp only [gy]
   exact l1
  ·simp only [gx, gy, evq, evv, put_M]
   exact ⟨h1a, h1b⟩
  ·simp only [gx, gy, evq, evv, put_M]
   rw [l2]
   cases y.dst <;> rfl
 ·cases h
theorem gApp_lookR {C : Ctx} {dst : Option Nat} {t t2 : TypeId} {b : Nat} {z : D} {y : AV} {T : List AV} {M : Mem} {q : Nat} {x : D} (h : look (gApp C dst t t2 b z y T M).2.M q = some (.fix x)) : look M q = some (.fix x) := by
 unfold gApp at h
 split at h
 ·split at h
  ·rw [put_M, look_put] at h
   split at h
   ·cases h
   ·exact look_unl_fix.1 h
  ·exact h
 ·exact h
theorem gAppend_lookR {C : Ctx} {dst : Option Nat} {t t2 : TypeId} {x y : AV} {s : St} {q : Nat} {z : D} (h : look (gAppend C dst t t2 x y s).2.M q = some (.fix z)) : look s.M q = some (.fix z) := by
 unfold gAppend at h
 split at h
 ·split at h
  ·exact gApp_lookR h
  ·exact h
 ·split at h
  ·split at h
   ·have h := gApp_lookR h
    rw [look_put] at h
    split at h
    ·cases h
    ·exact h
   ·exact h
  ·exact h
 ·exact h
theorem killR_ptr {b c : Nat} {q : List Nat} {v : AV} (h : killR b v = .ptr c q) : v = .ptr c q := by
 cases v with
 | row c =>
  simp only [killR] at h
  cases hb : Nat.beq c b <;> rw [hb] at h <;> cases h
 | rpt _ _ _ => cases h
 | tpr _ _ => cases h
 | _ => exact h
theorem gApp_getR {C : Ctx} {dst : Option Nat} {t t2 : TypeId} {b : Nat} {z : D} {y : AV} {T : List AV} {M : Mem} {p c : Nat} {q : List Nat} (hv : (gApp C dst t t2 b z y T M).2.T.getD p .any = .ptr c q) (hd : ∀ e, dst = some e → e ≠ p) : T.getD p .any = .ptr c q := by
 have hm : ∀ b, (T.map (killR b)).getD p .any = .ptr c q → T.getD p .any = .ptr c q := fun b h => by
  rw [List.getD_eq_getElem?_getD] at h ⊢
  rw [List.getElem?_map] at h
  cases hT : T[p]? with
  | none => rw [hT] at h; cases h
  | some u =>
   rw [hT] at h
   exact killR_ptr h
 unfold gApp at hv
 split at hv
 ·split at hv
  ·cases dst with
   | none => exact hm b hv
   | some e =>
    simp only [St.put] at hv
    rw [List.getD_eq_getElem?_getD, List.getElem?_set_ne (hd e rfl), ← List.getD_eq_getElem?_getD] at hv
    exact hm b hv
  ·exact hv
 ·exact hv
theorem gAppend_getR {C : Ctx} {dst : Option Nat} {t t2 : TypeId} {x y : AV} {T : List AV} {M : Mem} {p c : Nat} {q : List Nat} (hv : (gAppend C dst t t2 x y ⟨T, M⟩).2.T.getD p .any = .ptr c q) (hd : ∀ e, dst = some e → e ≠ p) : T.getD p .any = .ptr c q := by
 unfold gAppend at hv
 split at hv
 ·split at hv
  ·exact gApp_getR hv hd
  ·exact hv
 ·split at hv
  ·split at hv
   ·exact gApp_getR hv hd
   ·exact hv
  ·exact hv
 ·exact hv
theorem slice_keep {tab : Tab} {t : TypeId} {b : Nat} {p : List Nat} {M : Mem} (hc : (aSlice tab t (.ptr b p) none none none M).c) : isKeep (aSlice tab t (.ptr b p) none none none M).v = true ∧ ∃ z, look M b = some (.fix z) := by
 unfold aSlice at hc ⊢
 simp only at hc ⊢
 cases hty : (tg tab t).ty <;> simp only [hty] at hc ⊢ <;> try exact hc.elim
 cases hb : look M b with
 | none => simp only [hb] at hc; exact hc.elim
 | some k =>
  cases k with
  | fix z =>
   simp only [hb] at hc ⊢
   cases hg : getP z p <;> simp only [hg] at hc ⊢ <;> first | exact hc.elim | skip
   simp only [bnd] at hc ⊢
   exact ⟨rfl, z, rfl⟩
  | row _ _ => simp only [hb] at hc; exact hc.elim
  | lnk _ _ _ => simp only [hb] at hc; exact hc.elim
theorem slice_look {tab : Tab} {t : TypeId} {b : Nat} {p : List Nat} {M M' : Mem} (h : look M' b = look M b) : (aSlice tab t (.ptr b p) none none none M').c = (aSlice tab t (.ptr b p) none none none M).c ∧ (aSlice tab t (.ptr b p) none none none M').v = (aSlice tab t (.ptr b p) none none none M).v := by
 unfold aSlice
 simp only
 cases hty : (tg tab t).ty <;> try exact ⟨rfl, rfl⟩
 simp only [h]
 split
 ·split <;> exact ⟨rfl, rfl⟩
 ·exact ⟨rfl, rfl⟩
theorem call0_look {C : Ctx} {f : FuncId} {M M' : Mem} : (aCall C f [] M').c = (aCall C f [] M).c ∧ (aCall C f [] M').v = (aCall C f [] M).v := by
 unfold aCall
 cases C.G f with
 | none => exact ⟨rfl, rfl⟩
 | some s =>
  simp only
  cases ioFlag s
  ·simp only [cond_false, allData, Bool.or_true, cond_true, mapToD]
   exact ⟨rfl, rfl⟩
  ·exact ⟨rfl, rfl⟩
theorem call0_keep {C : Ctx} {f : FuncId} {M : Mem} (hc : (aCall C f [] M).c) : isKeep (aCall C f [] M).v = true := by
 unfold aCall at hc ⊢
 cases hg : C.G f with
 | none => rw [hg] at hc; exact hc.elim
 | some s =>
  rw [hg] at hc
  simp only at hc ⊢
  cases hio : ioFlag s <;> rw [hio] at hc <;> simp only [cond_true, cond_false] at hc ⊢
  ·simp only [allData, Bool.or_true, cond_true, mapToD] at hc ⊢
   rfl
  ·exact hc.elim
theorem ap_step {C : Ctx} {ops : List Oper} {x : Oper} {s : St} {d : Nat} (hx : isAp C x = true) (hg : x.guard = none) (hd : x.dst = some d) (hcl : cls C x ≤ 1) (h1 : (step1 C ops x s).1) :
  ∃ v, isKeep v = true ∧ (step1 C ops x s).2 = ⟨s.T.set d v, s.M⟩ ∧ ∀ s' : St, (∀ p b q, p ∈ looks ops x → s.T.getD p .any = .ptr b q → s'.T.getD p .any = .ptr b q) → (∀ b z, look s.M b = some (.fix z) → look s'.M b = some (.fix z)) →
   (step1 C ops x s').1 ∧ (step1 C ops x s').2 = ⟨s'.T.set d v, s'.M⟩ := by
 have gx : ∀ s : St, step1 C ops x s = ((act C x (evA s.T) s.M).c, St.put ⟨s.T, (act C x (evA s.T) s.M).M⟩ (some d) (act C x (evA s.T) s.M).v) := by
  intro s
  unfold step1
  rw [hg]
  simp only [plain_gstep (Nat.le_succ_of_le hcl), hd]
 rw [gx] at h1 ⊢
 simp only at h1
 unfold isAp at hx
 split at hx
 ·rename_i t p ho
  simp only [Bool.and_eq_true, Bool.not_eq_true'] at hx
  obtain ⟨htl, hrd⟩ := hx
  obtain ⟨b, hb⟩ := Option.isSome_iff_exists.1 htl
  have ga : ∀ s : St, act C x (evA s.T) s.M = ⟨isPtr b (s.T.getD p .any) = true ∧ (aSlice C.tab t (s.T.getD p .any) none none none s.M).c, (aSlice C.tab t (s.T.getD p .any) none none none s.M).v, s.M⟩ := by
   intro s
   unfold act
   simp only [ho, hrd, cond_false, tlR, hb, evA, Option.map_none, aSlice_M]
  rw [ga] at h1 ⊢
  obtain ⟨hp, hc⟩ := h1
  obtain ⟨q, eq⟩ := isPtr_of hp
  rw [eq] at hc ⊢
  obtain ⟨hk, z, hz⟩ := slice_keep hc
  refine ⟨_, hk, rfl, fun s' hT hM => ?_⟩
  have hin : p ∈ looks ops x := by
   unfold looks tmpsOf
   rw [ho]
   simp [Op.operands]
  have e' : s'.T.getD p .any = .ptr b q := hT p b q hin eq
  obtain ⟨l1, l2⟩ := slice_look (tab := C.tab) (t := t) (b := b) (p := q) (M := s.M) (M' := s'.M) (by rw [hM b z hz, hz])
  rw [gx, ga, e', l1, l2]
  exact ⟨⟨by simp [isPtr], hc⟩, rfl⟩
 ·rename_i c ho
  split at hx
  ·rename_i f hcal hargs
   have ga : ∀ s : St, act C x (evA s.T) s.M = ⟨(aCall C f [] s.M).c, (aCall C f [] s.M).v, s.M⟩ := by
    intro s
    unfold act
    simp only [ho, hcal, fnOf, hargs, List.map_nil, List.append_nil]
    have e := aCall_M (C := C) (f := f) (as := []) (M := s.M)
    generalize aCall C f [] s.M = r at e ⊢
    cases r with
    | mk c v M => simp only at e; rw [e]
   rw [ga] at h1 ⊢
   refine ⟨_, call0_keep h1, rfl, fun s' _ _ => ?_⟩
   rw [gx, ga, (call0_look (M := s.M)).1, (call0_look (M := s.M)).2]
   exact ⟨h1, rfl⟩
  ·cases hx
 ·cases hx
theorem comm_ap {C : Ctx} {ops : List Oper} {x y : Oper} {s : St} (h : apOK C ops x y = true) (h1 : (step1 C ops x s).1) (h2 : (step1 C ops y (step1 C ops x s).2).1) :
  (step1 C ops y s).1 ∧ (step1 C ops x (step1 C ops y s).2).1 ∧ (step1 C ops x (step1 C ops y s).2).2 = (step1 C ops y (step1 C ops x s).2).2 := by
 unfold apOK at h
 split at h
 ·rename_i d t t2 u1 u2 hyg hyd hxg hxk
  simp only [Bool.and_eq_true] at h
  obtain ⟨hap, ⟨⟨hcl, hdy⟩, hyx⟩, hne⟩ := h
  have hdy := nin_spec hdy
  have hyx := nin_spec hyx
  have hne := neD_spec hne
  have gx : ∀ s : St, step1 C ops x s = gAppend C x.dst t t2 (evA s.T u1) (evA s.T u2) s := by
   intro s
   unfold step1 gstep
   rw [hxg]
   simp only [hxk]
  obtain ⟨c, hxo, hxcal, hxargs, _⟩ := kindOf_app hxk
  have hin : ∀ z, z = u1 ∨ z = u2 → ∀ (T : List AV) (v : AV), evA (T.set d v) z = evA T z := by
   intro z hz T v
   have : z ∈ x.op.operands.toList := by
    rw [hxo]
    simp only [Op.operands, Call.operands]
    have hm : z ∈ c.args.toList := by rw [hxargs]; rcases hz with rfl | rfl <;> simp
    first
     | (simp; exact .inr (by simpa using hm))
     | (simp; simpa using hm)
   exact evA_look (ops := ops) (o := x) (T := T) (M := s.M) (d := some d) (v := v) hdy z this
  have hxd : ∀ e, x.dst = some e → e ≠ d := fun e he e' => hne d rfl (by rw [he, e'])
  obtain ⟨v, hk, e1, hs⟩ := ap_step (ops := ops) hap hyg hyd (Nat.le_of_ble_eq_true hcl) h2
  obtain ⟨g1, g2⟩ := hs s (fun p b q hp hkp => by
   rw [gx] at hkp
   exact gAppend_getR hkp (fun e he e' => hyx e he (by rw [e']; exact hp))) (fun b z hz => by
   rw [gx] at hz
   exact gAppend_lookR hz)
  rw [gx] at h1
  refine ⟨g1, ?_, ?_⟩
  ·rw [g2, gx]
   simp only [hin u1 (.inl rfl), hin u2 (.inr rfl), gAppend_set hk hxd]
   exact h1
  ·rw [g2, e1, gx, gx]
   simp only [hin u1 (.inl rfl), hin u2 (.inr rfl), gAppend_set hk hxd]
 ·cases h
theorem c0_step {C : Ctx} {ops : List Oper} {x : Oper} {s : St} {d : Nat} (hx : isC0 x = true) (hg : x.guard = none) (hd : x.dst = some d) (hcl : cls C x ≤ 1) (h1 : (step1 C ops x s).1) :
  ∃ v, (∀ b k, frz1 b k v = v) ∧ ∀ s : St, (step1 C ops x s).1 ∧ (step1 C ops x s).2 = ⟨s.T.set d v, s.M⟩ := by
 have gx : ∀ s : St, step1 C ops x s = ((act C x (evA s.T) s.M).c, St.put ⟨s.T, (act C x (evA s.T) s.M).M⟩ (some d) (act C x (evA s.T) s.M).v) := by
  intro s
  unfold step1
  rw [hg]
  simp only [plain_gstep (Nat.le_succ_of_le hcl), hd]
 unfold isC0 at hx
 split at hx
 ·rename_i c ho
  split at hx
  ·rename_i f hcal hargs
   have ga : ∀ s : St, act C x (evA s.T) s.M = ⟨(aCall C f [] s.M).c, (aCall C f [] s.M).v, s.M⟩ := by
    intro s
    unfold act
    simp only [ho, hcal, fnOf, hargs, List.map_nil, List.append_nil]
    have e := aCall_M (C := C) (f := f) (as := []) (M := s.M)
    generalize aCall C f [] s.M = r at e ⊢
    cases r with
    | mk c v M => simp only at e; rw [e]
   rw [gx, ga] at h1
   have h1 : (aCall C f [] s.M).c := h1
   have hv : ∃ D, (aCall C f [] s.M).v = .d D := by
    unfold aCall at h1 ⊢
    cases hg : C.G f with
    | none => rw [hg] at h1; exact h1.elim
    | some sp =>
     rw [hg] at h1
     simp only at h1 ⊢
     cases hio : ioFlag sp <;> rw [hio] at h1 <;> simp only [cond_true, cond_false] at h1 ⊢
     ·simp only [allData, Bool.or_true, cond_true, mapToD] at h1 ⊢
      exact ⟨_, rfl⟩
     ·exact h1.elim
   obtain ⟨D, hD⟩ := hv
   refine ⟨.d D, fun _ _ => rfl, fun s' => ?_⟩
   rw [gx, ga, (call0_look (M := s.M)).1, (call0_look (M := s.M)).2, hD]
   exact ⟨h1, rfl⟩
  ·cases hx
 ·cases hx
theorem frzB_set {b d : Nat} {v : AV} {T : List AV} {M : Mem} (hv : ∀ b k, frz1 b k v = v) : frzB b ⟨T.set d v, M⟩ = ⟨(frzB b ⟨T, M⟩).T.set d v, (frzB b ⟨T, M⟩).M⟩ := by
 unfold frzB
 cases look M b with
 | none => rfl
 | some k =>
  simp only
  cases (Nat.blt b 1000 && !isLnkK k)
  ·rfl
  ·simp only [cond_true, List.map_set, hv]
theorem frzArgs_set {d : Nat} {v : AV} (hv : ∀ b k, frz1 b k v = v) : ∀ (as : List AV) (T : List AV) (M : Mem), frzArgs as ⟨T.set d v, M⟩ = ⟨(frzArgs as ⟨T, M⟩).T.set d v, (frzArgs as ⟨T, M⟩).M⟩
 | [], T, M => rfl
 | a :: as, T, M => by
  have ih := frzArgs_set (d := d) hv as
  have go : ∀ b, frzArgs as (frzB b ⟨T.set d v, M⟩) = ⟨(frzArgs as (frzB b ⟨T, M⟩)).T.set d v, (frzArgs as (frzB b ⟨T, M⟩)).M⟩ := fun b => by
   rw [frzB_set hv]
   exact ih _ _
  cases a <;> simp only [frzArgs] <;> first | exact go _ | exact ih _ _
theorem comm_fz {C : Ctx} {ops : List Oper} {x y : Oper} {s : St} (h : fzOK C ops x y = true) (h1 : (step1 C ops x s).1) (h2 : (step1 C ops y (step1 C ops x s).2).1) :
  (step1 C ops y s).1 ∧ (step1 C ops x (step1 C ops y s).2).1 ∧ (step1 C ops x (step1 C ops y s).2).2 = (step1 C ops y (step1 C ops x s).2).2 := by
 unfold fzOK at h
 split at h
 ·rename_i d c args hyg hyd hxg hxo hxk
  simp only [Bool.and_eq_true] at h
  obtain ⟨hap, ⟨⟨hcl, hdy⟩, hyx⟩, hne⟩ := h
  have hdy := nin_spec hdy
  have hne := neD_spec hne
  obtain ⟨v, hv, hs⟩ := c0_step (ops := ops) hap hyg hyd (Nat.le_of_ble_eq_true hcl) h2
  have gx : ∀ s : St, step1 C ops x s = ((act C x (evA (frzArgs (args.map (evA s.T)) s).T) (frzArgs (args.map (evA s.T)) s).M).c, St.put ⟨(frzArgs (args.map (evA s.T)) s).T, (act C x (evA (frzArgs (args.map (evA s.T)) s).T) (frzArgs (args.map (evA s.T)) s).M).M⟩ x.dst (act C x (evA (frzArgs (args.map (evA s.T)) s).T) (frzArgs (args.map (evA s.T)) s).M).v) := by
   intro s
   unfold step1 gstep
   rw [hxg]
   simp only [hxk]
  have hargs : ∀ a ∈ args, a ∈ x.op.operands.toList := by
   have hk := hxk
   unfold kindOf at hk
   simp only [hxo] at hk
   split at hk
   ·split at hk
    ·rename_i x' _ _ _ _ _
     cases hcp : copies C x x' <;> rw [hcp] at hk <;> cases hk
    ·cases hk
   ·rename_i f hcal
    have e : args = c.args.toList := by
     cases hio : ioCall C f <;> rw [hio] at hk <;> simp only [cond_true, cond_false] at hk
     ·split at hk
      ·rename_i dd _
       cases hf : C.frz.contains dd <;> rw [hf] at hk <;> simp only [cond_true, cond_false] at hk
       ·cases hf2 : C.frz.contains (dd + 100000) <;> rw [hf2] at hk <;> cases hk
       ·exact (Kind.frz.inj hk).symm
      ·cases hk
     ·cases hk
    intro a ha
    rw [e] at ha
    rw [hxo]
    simp only [Op.operands, Call.operands]
    first
     | (simp; exact .inr (by simpa using ha))
     | (simp; simpa using ha)
   ·cases hk
  have hev : ∀ (T : List AV) (a : Operand), a ∈ x.op.operands.toList → evA (T.set d v) a = evA T a := fun T a ha => evA_look (ops := ops) (o := x) (T := T) (M := s.M) (d := some d) (v := v) hdy a ha
  have hmap : args.map (evA (s.T.set d v)) = args.map (evA s.T) := List.map_congr_left fun a ha => hev _ _ (hargs a ha)
  have hx2 : step1 C ops x ⟨s.T.set d v, s.M⟩ = ((step1 C ops x s).1, ⟨(step1 C ops x s).2.T.set d v, (step1 C ops x s).2.M⟩) := by
   rw [gx, gx]
   simp only [hmap, frzArgs_set hv]
   rw [act_congr (C := C) (o := x) (ρ := evA ((frzArgs (args.map (evA s.T)) ⟨s.T, s.M⟩).T.set d v)) (ρ' := evA (frzArgs (args.map (evA s.T)) ⟨s.T, s.M⟩).T) fun a ha => hev _ a ha]
   cases hdst : x.dst with
   | none => rfl
   | some e =>
    simp only [St.put]
    rw [List.set_comm _ _ (fun e' => hne d rfl (by rw [hdst, e']))]
  refine ⟨(hs s).1, ?_, ?_⟩
  ·rw [(hs s).2, hx2]
   exact h1
  ·rw [(hs s).2, hx2, (hs _).2]
 ·cases h
theorem comm {C : Ctx} {ops : List Oper} {x y : Oper} {s : St} (h0 : commOK C ops x y = true) (h1 : (step1 C ops x s).1) (h2 : (step1 C ops y (step1 C ops x s).2).1) :
  (step1 C ops y s).1 ∧ (step1 C ops x (step1 C ops y s).2).1 ∧ (step1 C ops x (step1 C ops y s).2).2 = (step1 C ops y (step1 C ops x s).2).2 := by
 unfold commOK at h0
 rcases Bool.or_eq_true_iff.1 h0 with h | h
 case inr =>
  rcases Bool.or_eq_true_iff.1 h with h | h
  ·exact comm_ap h h1 h2
  ·exact comm_fz h h1 h2
 rcases Bool.or_eq_true_iff.1 h with h | h
 case inr =>
  rcases Bool.or_eq_true_iff.1 h with h | h
  ·exact comm_gd h h1 h2
  ·exact comm_gd2 h h1 h2
 rcases Bool.or_eq_true_iff.1 h with h | h
 case inr => exact comm_nf h h1 h2
 rcases Bool.or_eq_true_iff.1 h with h | h
 case inr => exact comm_mv h h1 h2
 rcases Bool.or_eq_true_iff.1 h with h | h
 case inr => exact comm_aa h h1 h2
 rcases Bool.or_eq_true_iff.1 h with h | h
 case inr => exact comm_al h h1 h2
 rcases Bool.or_eq_true_iff.1 h with h | h
 case inr => exact comm_ls h h1 h2
 simp only [Bool.and_eq_true] at h
 obtain ⟨⟨⟨hxy, hyx⟩, hne⟩, hcl⟩ := h
 have hxy' := nin_spec hxy
 have hyx' := nin_spec hyx
 have hne' := neD_spec hne
 have hc : cls C x ≤ 2 ∧ cls C y ≤ 2 ∧ ((cls C x ≤ 1 ∧ cls C y ≤ 1) ∨ cls C x = 0 ∨ cls C y = 0) := by
  unfold clsOK at hcl
  simp only [Bool.or_eq_true, Bool.and_eq_true, Nat.ble_eq, Nat.beq_eq] at hcl
  omega
 obtain ⟨hx2, hy2, hcase⟩ := hc
 obtain ⟨a1, a2⟩ := step1_eff (ops := ops) hx2 s
 have a2 := a2 h1
 rw [a1] at h1
 rw [a2] at h2 ⊢
 obtain ⟨b1, b2⟩ := step1_eff (ops := ops) hy2 (St.put ⟨s.T, (eff C ops x s.T s.M).2.2⟩ x.dst (eff C ops x s.T s.M).2.1)
 have b2 := b2 h2
 rw [b1, eff_put hxy', put_M] at h2
 rw [b2, eff_put hxy', put_M]
 obtain ⟨c1, c2⟩ := step1_eff (ops := ops) hy2 s
 have hy1 : (step1 C ops y s).1 := by
  rw [c1]
  rcases hcase with ⟨hx, hy⟩ | hx | hy
  ·rwa [eff_read hx] at h2
  ·rwa [(eff_pure hx s.T s.M s.M).2.2] at h2
  ·rwa [(eff_pure hy s.T (eff C ops x s.T s.M).2.2 s.M).1] at h2
 have c2 := c2 hy1
 rw [c2]
 obtain ⟨d1, d2⟩ := step1_eff (ops := ops) hx2 (St.put ⟨s.T, (eff C ops y s.T s.M).2.2⟩ y.dst (eff C ops y s.T s.M).2.1)
 have hx1 : (step1 C ops x (St.put ⟨s.T, (eff C ops y s.T s.M).2.2⟩ y.dst (eff C ops y s.T s.M).2.1)).1 := by
  rw [d1, eff_put hyx', put_M]
  rcases hcase with ⟨hx, hy⟩ | hx | hy
  ·rwa [eff_read hy]
  ·rwa [(eff_pure hx s.T (eff C ops y s.T s.M).2.2 s.M).1]
  ·rwa [(eff_pure hy s.T s.M s.M).2.2]
 have d2 := d2 hx1
 refine ⟨hy1, hx1, ?_⟩
 rw [d2, eff_put hyx', put_M]
 -- the two ends are one
 have key : ∀ (vx vy : AV) (Mx My N : Mem) (vx' vy' : AV), vx' = vx → vy' = vy → St.put ⟨(St.put ⟨s.T, My⟩ y.dst vy).T, N⟩ x.dst vx' = St.put ⟨(St.put ⟨s.T, Mx⟩ x.dst vx).T, N⟩ y.dst vy' := by
  intro vx vy Mx My N vx' vy' e1 e2
  subst e1 e2
  refine St.ext' ?_ (by rw [put_M, put_M])
  have := put_put (T := s.T) (M := Mx) (M' := My) (d1 := x.dst) (d2 := y.dst) (v1 := vx') (v2 := vy') hne'
  cases hxd : x.dst <;> cases hyd : y.dst <;> rw [hxd, hyd] at this <;> exact this.symm
 rcases hcase with ⟨hx, hy⟩ | hx | hy
 ·rw [eff_read hx, eff_read hy, eff_read hx, eff_read hy]
  exact key _ _ _ _ _ _ _ rfl rfl
 ·have p := eff_pure (ops := ops) hx s.T (eff C ops y s.T s.M).2.2 s.M
  have p0 := eff_pure (ops := ops) hx s.T s.M s.M
  rw [p.2.2, p0.2.2]
  exact key _ _ _ _ _ _ _ p.2.1 rfl
 ·have p := eff_pure (ops := ops) hy s.T (eff C ops x s.T s.M).2.2 s.M
  have p0 := eff_pure (ops := ops) hy s.T s.M s.M
  rw [p.2.2, p0.2.2]
  exact key _ _ _ _ _ _ _ rfl p.2.1
end Go.Vg
namespace Go.Vg
open Go Go.RowKit
noncomputable def foldI (C : Ctx) (ops : List Oper) : List Oper → St → Prop × St
 | [], s => (True, s)
 | o :: os, s => ((step1 C ops o s).1 ∧ (foldI C ops os (step1 C ops o s).2).1, (foldI C ops os (step1 C ops o s).2).2)
theorem yielded_sound {w0 : World} {F : Env} {σ : Sg} {s : St} {a : Act} {w : World} (r : Rel w0 F σ s a w) {ops : List Oper} {j : Nat} {b : Option Bool} (h : yA ops s.T j = some b) : yielded ops.toArray a.tmps j = b := by
 unfold yA dstOf at h
 unfold yielded
 rw [List.getElem?_toArray]
 cases hj : ops[j]? with
 | none => simp [hj] at h
 | some oj =>
  cases hd : oj.dst with
  | none => simp [hj, hd] at h
  | some d =>
   simp only [hj, Option.bind_some, hd] at h ⊢
   split at h
   ·rename_i b' hT
    obtain rfl := Option.some.inj h
    rw [List.getD_eq_getElem?_getD] at hT
    cases hx : s.T[d]? with
    | none => simp [hx] at hT
    | some x =>
     simp only [hx, Option.getD_some] at hT
     subst hT
     obtain ⟨v, hv, ha⟩ := r.tmp d _ hx
     have ev := ar_val ha
     simp [hv, ev]
   ·rename_i hT
    obtain rfl := Option.some.inj h
    rw [List.getD_eq_getElem?_getD] at hT
    cases hx : s.T[d]? with
    | none => simp [hx] at hT
    | some x =>
     simp only [hx, Option.getD_some] at hT
     subst hT
     obtain ⟨v, hv, vs, ev, _⟩ := r.tmp d _ hx
     simp [hv, ev]
   ·cases h
theorem step1_sound {P : Program} {C : Ctx} {w0 : World} {F : Env} {σ : Sg} {s : St} {a : Act} {w : World} {ops : List Oper} {i : Nat} {o : Oper} (K : CtxOk P C) (r : Rel w0 F σ s a w) (hi : ops[i]? = some o) (hc : (step1 C ops o s).1) (Q : Exit → Act → World → Prop) :
  wpOp P ops.toArray Q i (fun a' w' => ∃ σ', Rel w0 F σ' (step1 C ops o s).2 a' w') a w := by
 unfold wpOp
 rw [List.getElem?_toArray, hi]
 simp only
 unfold step1 at hc ⊢
 cases hg : o.guard with
 | none =>
  rw [hg] at hc
  have hw : Region.wanted o (yielded ops.toArray a.tmps) = true := by unfold Region.wanted; rw [hg]
  simp only [hw, if_true]
  exact .inl (gstep_sound K r hc Q)
 | some g =>
  obtain ⟨j, want⟩ := g
  rw [hg] at hc
  simp only at hc ⊢
  cases hy : yA ops s.T j with
  | none => rw [hy] at hc; exact hc.elim
  | some t =>
   rw [hy] at hc
   simp only at hc ⊢
   have hyl := yielded_sound r hy
   have hw : Region.wanted o (yielded ops.toArray a.tmps) = (t == some want) := by
    unfold Region.wanted
    rw [hg]
    simp only [hyl]
   rw [hw]
   cases hq : (t == some want) with
   | true =>
    simp only [hq, cond_true] at hc
    simp only [if_true, cond_true]
    exact .inl (gstep_sound K r hc Q)
   | false =>
    simp only [Bool.false_eq_true, if_false, cond_false]
    exact ⟨σ, r.put o.dst ⟨[], rfl, .nil⟩⟩
theorem region_seq {P : Program} {C : Ctx} (K : CtxOk P C) {w0 : World} {F : Env} {ops : List Oper} {Q : Exit → Act → World → Prop} : ∀ (rest : List Oper) (k : Nat) (σ : Sg) (s : St) (a : Act) (w : World), (∀ j, rest[j]? = ops[k + j]?) → k + rest.length = ops.length →
  Rel w0 F σ s a w → (foldI C ops rest s).1 → (∀ σ' a' w', Rel w0 F σ' (foldI C ops rest s).2 a' w' → Q .normal a' w') → wpOps P ops.toArray Q (List.range' k rest.length) a w
 | [], k, σ, s, a, w, _, _, r, _, h => by
  simp only [List.length_nil, List.range'_zero, wpOps]
  exact h σ a w r
 | o :: rest, k, σ, s, a, w, hr, hl, r, hc, h => by
  simp only [List.length_cons, List.range'_succ, wpOps_cons]
  have hi : ops[k]? = some o := by have := hr 0; simpa using this.symm
  obtain ⟨h1, h2⟩ := hc
  refine wpOp_mono ?_ (step1_sound K r hi h1 Q)
  rintro a' w' ⟨σ', r'⟩
  exact region_seq K rest (k + 1) σ' _ a' w' (fun j => by have := hr (j + 1); simp only [List.getElem?_cons_succ] at this; rw [this]; congr 1; omega) (by simp at hl; omega) r' h2 h
theorem bubble {C : Ctx} {ops : List Oper} {o : Oper} : ∀ (pre post : List Oper) (s : St), (∀ x ∈ pre, commOK C ops x o = true) → (foldI C ops (pre ++ o :: post) s).1 →
  (step1 C ops o s).1 ∧ (foldI C ops (pre ++ post) (step1 C ops o s).2).1 ∧ (foldI C ops (pre ++ post) (step1 C ops o s).2).2 = (foldI C ops (pre ++ o :: post) s).2
 | [], post, s, _, h => ⟨h.1, h.2, rfl⟩
 | x :: pre, post, s, hx, h => by
  simp only [List.cons_append, foldI] at h ⊢
  obtain ⟨h1, h2⟩ := h
  obtain ⟨b1, b2, b3⟩ := bubble pre post (step1 C ops x s).2 (fun y hy => hx y (by simp [hy])) h2
  obtain ⟨c1, c2, c3⟩ := comm (hx x (by simp)) h1 b1
  exact ⟨c1, ⟨c2, by rw [c3]; exact b2⟩, by rw [c3]; exact b3⟩
def maskOf (acc : List Nat) (o : Oper) : Nat := o.after.toList.foldl (fun m e => bif Region.binds .any e then (m ||| 2 ^ e.on) ||| acc.getD e.on 0 else m) 0
def masks : List Oper → List Nat → List Nat
 | [], acc => acc
 | o :: os, acc => masks os (acc ++ [maskOf acc o])
theorem masks_len : ∀ (os : List Oper) (acc : List Nat), (masks os acc).length = acc.length + os.length
 | [], acc => by simp [masks]
 | o :: os, acc => by simp [masks, masks_len os]; omega
theorem masks_pre : ∀ (os : List Oper) (acc : List Nat) (i : Nat), i < acc.length → (masks os acc).getD i 0 = acc.getD i 0
 | [], acc, i, _ => rfl
 | o :: os, acc, i, h => by
  simp only [masks]
  rw [masks_pre os _ i (by simp; omega)]
  simp [List.getElem?_append_left h]
theorem masks_at : ∀ (os : List Oper) (acc : List Nat) (i : Nat) (o : Oper), os[i]? = some o → (masks os acc).getD (acc.length + i) 0 = maskOf ((masks os acc).take (acc.length + i)) o
 | [], acc, i, o, h => by simp at h
 | o :: os, acc, 0, o', h => by
  simp only [List.getElem?_cons_zero, Option.some.injEq] at h
  subst h
  simp only [masks, Nat.add_zero]
  rw [masks_pre os _ _ (by simp)]
  have e : (masks os (acc ++ [maskOf acc o])).take acc.length = acc := by
   have : ∀ (os : List Oper) (acc : List Nat), (masks os acc).take acc.length = acc := by
    intro os
    induction os with
    | nil => intro acc; simp [masks]
    | cons o os ih =>
     intro acc
     simp only [masks]
     have := congrArg (List.take acc.length) (ih (acc ++ [maskOf acc o]))
     rw [List.take_take] at this
     simp only [List.length_append, List.length_cons, List.length_nil] at this
     rw [Nat.min_eq_left (by omega)] at this
     rw [this]
     simp
   have h2 := congrArg (List.take acc.length) (this os (acc ++ [maskOf acc o]))
   rw [List.take_take] at h2
   simp only [List.length_append, List.length_cons, List.length_nil] at h2
   rw [Nat.min_eq_left (by omega)] at h2
   rw [h2]
   simp
  rw [e]
  simp
 | o :: os, acc, i + 1, o', h => by
  simp only [List.getElem?_cons_succ] at h
  simp only [masks]
  have := masks_at os (acc ++ [maskOf acc o]) i o' h
  simp only [List.length_append, List.length_cons, List.length_nil] at this
  rw [show acc.length + (i + 1) = acc.length + (0 + 1) + i from by omega]
  exact this
theorem fold_mask (acc : List Nat) (j : Nat) : ∀ (es : List Edge) (m : Nat), (es.foldl (fun m e => bif Region.binds .any e then (m ||| 2 ^ e.on) ||| acc.getD e.on 0 else m) m).testBit j = true →
  m.testBit j = true ∨ ∃ e ∈ es, Region.binds .any e = true ∧ (e.on = j ∨ (acc.getD e.on 0).testBit j = true)
 | [], m, h => .inl h
 | e :: es, m, h => by
  simp only [List.foldl_cons] at h
  rcases fold_mask acc j es _ h with h | ⟨e', he', hb⟩
  ·cases hb : Region.binds .any e with
   | false => rw [hb] at h; exact .inl h
   | true =>
    rw [hb] at h
    simp only [cond_true, Nat.testBit_or, Bool.or_eq_true, Nat.testBit_two_pow, decide_eq_true_eq] at h
    rcases h with (h | h) | h
    ·exact .inl h
    ·exact .inr ⟨e, by simp, hb, .inl h⟩
    ·exact .inr ⟨e, by simp, hb, .inr h⟩
  ·exact .inr ⟨e', by simp [he'], hb⟩
def pairsOK (C : Ctx) (ops : List Oper) (ms : List Nat) : Bool :=
 (List.range ops.length).all fun i => match ops[i]? with
  | none => true
  | some oi => (oi.after.toList.all fun e => !Region.binds .any e || Nat.blt e.on i) &&
   (List.range i).all fun j => (ms.getD i 0).testBit j || (match ops[j]? with | some oj => commOK C ops oj oi | none => true)
def regionOK (C : Ctx) (ops : List Oper) : Bool := pairsOK C ops (masks ops [])
end Go.Vg
