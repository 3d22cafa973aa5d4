/- Vg, part E11: append to nil, as a copy. -/
import Derived.Test.YtcdjhhepgkcabaaDoorVgE10
import Derived.Laws.AppendOwn
namespace Go.Vg
open Go Go.RowKit

theorem app_own {P : Program} (w : World) (base : Nat) (t ty e : TypeId) (i : TypeInfo) (z : Value) (size bytes : Nat) (ht : P.underlying t = some (.slice e)) (hi : P.info? e = some i) (hz : i.zero = some z)
    (hsize : i.size = size) (hby : i.bytes = bytes) (hzs : z.cells.size = size) (hsz : 0 < size)
    (v : Value) (n : Nat) (xs : List Value) (hown : w.ownsRow base e size v n xs)
    (ad : Option Addr) (m c : Nat) (news : List Value) (hl : news.length = m * size) (hat : At w (fun β => β < w.heap.size) ad news) (h1 : ∀ u ∈ news, isCell u = true)
    (h63 : n + m ≤ maxLen) (hbytes : (n + m) * bytes ≤ 140737488355328) (hbase : base ≤ w.heap.size) :
    ∃ v' w', (Builtin.append_ #[t, t] ty #[v, .slice ad m c]).run P w = .ok v' w' ∧ w'.ownsRow base e size v' (n + m) (xs ++ news) ∧ w.grownBy w' v.ownBlock ∧ (v'.ownBlock = v.ownBlock ∨ v'.ownBlock = some w.heap.size) := by
  have h1' : ∀ u ∈ news, u.oneCell' = true := fun u hu => by rw [isCell_one]; exact h1 u hu
  cases ad with
  | none =>
    have hn : news = [] := by
      rcases hat with h | ⟨_, _, h, _⟩
      · exact h
      · cases h
    subst hn
    have hm : m = 0 := by
      rcases Nat.eq_zero_or_pos m with h | h
      · exact h
      · have := Nat.mul_pos h hsz
        simp at hl
        omega
    subst hm
    refine ⟨v, w, ?_, by simpa using hown, ⟨rfl, rfl, rfl, Nat.le_refl _, fun _ _ _ => rfl⟩, .inl rfl⟩
    rcases hown.2 with ⟨rfl, rfl⟩ | ⟨g, cap, cur, rfl, _, _, hnc, _⟩
    · simp [Builtin.append_, run_underlying ht, sizeOf, typeInfo, hi, Builtin.lenOf, Builtin.firstCells]
    · simp [Builtin.append_, run_underlying ht, sizeOf, typeInfo, hi, Builtin.lenOf, Builtin.firstCells, hnc, storeCells]
  | some a =>
    have hnews : ∀ j u, news[j]? = some u → w.cell? (a.add j) = some u := by
      intro j u hu
      rcases hat with h | ⟨β, o', h, hX, hcells⟩
      · rw [h] at hu; simp at hu
      · obtain rfl := Option.some.inj h
        rw [addr_add_none]
        exact hcells j u hu
    obtain ⟨v', w', hrun, hown', hg, hiff⟩ := run_append_own (P := P) w base t ty e i z size bytes ht hi hz hsize hby hzs hsz v n xs hown a m c news hl hnews h1' h63 hbytes hbase
    refine ⟨v', w', hrun, hown', hg, ?_⟩
    subst hsize
    subst hby
    have hsmall : n + m ≤ 9223372036854775807 := by simp only [maxLen] at h63; omega
    rcases hown.2 with ⟨rfl, rfl⟩ | ⟨g, cap, cur, rfl, hbg, hgg, hnc, hcm, hcs, htake⟩
    · by_cases hm : m = 0
      · left
        rw [(hiff.2 ⟨rfl, hm⟩)]
      · right
        have hr := run_append_nil (P := P) w t ty e i z ht hi hz a m c news hl hnews (by omega) (by omega) (by have hb := hbytes; simp only [Nat.zero_add] at hb; omega)
        rw [hr] at hrun
        obtain ⟨rfl, _⟩ := Result.ok.inj hrun
        rfl
    · by_cases hroom : n + m ≤ cap
      · left
        have hfit : n * i.size + news.length ≤ cur.size := by rw [hl, hcs, ← Nat.add_mul]; exact Nat.mul_le_mul_right _ hroom
        have hr := run_append_room (P := P) w t ty e i ht hi g n cap cur hgg a m c news hl hnews h1' hroom hfit
        rw [hr] at hrun
        obtain ⟨rfl, _⟩ := Result.ok.inj hrun
        rfl
      · right
        have holds : ∀ j u, xs[j]? = some u → w.cell? ((⟨g, 0, none⟩ : Addr).add j) = some u := hown.cells (g := g) rfl
        have hr := run_append_grow (P := P) w t ty e i z ht hi hz ⟨g, 0, none⟩ n cap xs hown.1 holds a m c news hl hnews (by omega) (by omega) (growslice_fits (by omega) hbytes)
        rw [hr] at hrun
        obtain ⟨rfl, _⟩ := Result.ok.inj hrun
        rfl

section
variable {P : Program} {tab : Tab} {w0 : World} {F : Env} {σ : Sg} {s : St} {a : Act} {w : World} {o : Oper}

theorem X_new (r : Rel w0 F σ s a w) {w' : World} {g : Nat} (h1 : w.heap.size ≤ g) (h2 : g < w'.heap.size) : Xs σ s.M w' g := by
  refine ⟨h2, r.okn.1 _ (Nat.le_trans r.frm.size h1), fun b x hbx hσ => ?_⟩
  have hm := r.mem b x hbx
  cases x with
  | fix z =>
    obtain ⟨γ, cs, e, q1, _, q3, _⟩ := hm
    rw [hσ] at q1
    obtain rfl := Option.some.inj q1
    have := block_lt q3
    omega
  | row e z =>
    obtain ⟨cs, sz, n, q1, q2, _⟩ := hm
    rw [hσ] at q1
    have := (q2.lt _ q1.symm).2
    omega

theorem new_sound {C : Ctx} (T : TabOk P C.tab) (r : Rel w0 F σ s a w) {c : Call} {t t2 : TypeId} {x y : Operand} (ho : o.op = .call c) (hcal : c.callee = .builtin .append) (hargs : c.args.toList = [x, y]) (hat : c.argTypes.toList = [t, t2])
    (hc : (aNew C.tab t t2 (evA s.T x) (evA s.T y) s.M).c) : Good P w0 F o s a w (aNew C.tab t t2 (evA s.T x) (evA s.T y) s.M) := by
  have e1 : c.args = #[x, y] := by rw [← Array.toList_inj, hargs]
  have hx := ev_sound r x
  unfold aNew at hc ⊢
  split at hc
  · rename_i heqx
    rw [heqx] at hx
    have ex : a.eval x = .slice none 0 0 := ar_val hx
    split at hc
    · rename_i e d hty hd
      have ht := (T t (tg_lt' (by rw [hty]; simp))).tslice _ hty
      obtain ⟨h1, h2⟩ := toD_sound r (ev_sound r y) hd
      have cast : ∀ {X : Nat → Prop}, VR w X d (a.eval y) → VR w X (castD C.tab t d) (a.eval y) := fun {X} h => by
        by_cases ht : d.isTup = false
        · exact (castD_sound (VR.one h ht)).up
        · cases d <;> first | exact absurd rfl ht | exact h
      generalize castD C.tab t d = D' at *
      have main : ∀ (news : List Value) (ad : Option Addr) (m cp sz : Nat), a.eval y = .slice ad m cp → At w (fun β => β < w.heap.size) ad news → (∀ u ∈ news, isCell u = true) → news.length = m * sz → t2 = t → m ≤ 140737488355328 → m * (tg C.tab e).bytes ≤ 140737488355328 → (tg C.tab e).size = sz → sz ≠ 0 →
          ∃ v' w' ad' cap', (execOp a.eval o).run P w = .ok (.value v') w' ∧ Grow w w' ∧ v' = .slice ad' m cap' ∧ m ≤ cap' ∧ At w' (Xs σ s.M w') ad' news := by
        intro news ad m cp sz hv hatn hnc hnl ht2 hle hby hsz hs0
        subst ht2
        have e2 : c.argTypes = #[t2, t2] := by rw [← Array.toList_inj, hat]
        obtain ⟨i, zv, hinf, hisz, hiby, hzv, hzr⟩ := (T e (tg_lt (by rw [hsz]; exact hs0))).info
        have hzs : zv.cells.size = sz := by
          have := CR.sklen (VR1.cells (hzr w (Xs σ s.M w)))
          rw [(T e (tg_lt (by rw [hsz]; exact hs0))).sksz, Array.length_toList] at this
          omega
        obtain ⟨v', w', hrun, hown, hg, _⟩ := app_own (P := P) w w.heap.size t2 o.type e i zv sz (tg C.tab e).bytes ht hinf hzv (by rw [hisz, hsz]) hiby hzs (by omega) (.slice none 0 0) 0 [] (World.ownsRow_nil w _ e sz) ad m cp news hnl hatn hnc (by unfold maxLen; omega) (by rw [Nat.zero_add]; exact hby) (Nat.le_refl _)
        have hrunO : (execOp a.eval o).run P w = .ok (.value v') w' := by
          unfold execOp
          simp only [ho, resolve, hcal, e1, e2, Sem.run_bind, Sem.run_pure, Result.andThen_ok, invoke, builtin, List.map_toArray, List.map_cons, List.map_nil, ex, hv, hrun]
        rw [Nat.zero_add, List.nil_append] at hown
        obtain ⟨g1, g2, g3, g4, g5⟩ := hg
        refine ⟨v', w', ?_⟩
        rcases hown.2 with ⟨h, h0⟩ | ⟨g, cap, cur, h, hg, hh, hnc', hcm, hsz', htk⟩
        · refine ⟨none, 0, hrunO, ⟨g1, g2, g3, g4, fun k hk => g5 k hk (by rintro ⟨⟩)⟩, by rw [h, h0], by omega, .inl ?_⟩
          exact List.eq_nil_of_length_eq_zero (by rw [hown.1, h0, Nat.zero_mul])
        · refine ⟨some ⟨g, 0, none⟩, cap, hrunO, ⟨g1, g2, g3, g4, fun k hk => g5 k hk (by rintro ⟨⟩)⟩, h, hnc', .inr ⟨g, 0, rfl, X_new r hg (block_lt hh), fun j u hu => ?_⟩⟩
          have := hown.cells (g := g) (by rw [h]; rfl) j u hu
          rw [addr_add_none] at this
          exact this
      have keep : ∀ {w' : World}, Grow w w' → ∀ β, Xs σ s.M w β → Xs σ s.M w' β ∧ w'.heap[β]? = w.heap[β]? := fun hg => Xs.grow hg
      split at hc
      · rename_i k l
        obtain ⟨ad, cp, hv, hlc, hatn⟩ := cast h1
        simp only [List.cons.injEq, and_true] at hv
        obtain ⟨c1, c2, c3, c4⟩ := hc
        obtain ⟨v', w', ad', cap', hrun, hg, hv', hcap, hat'⟩ := main (l.map (Value.int k)) ad l.length cp 1 hv hatn (fun u hu => by obtain ⟨_, _, rfl⟩ := List.mem_map.1 hu; rfl) (by simp) c1 c2 c3 c4 (by decide)
        intro Q
        refine good_grow (P := P) (o := o) r hrun hg ?_ Q
        subst hv'
        exact ⟨ad', cap', rfl, hcap, hat'⟩
      · rename_i sz xs
        obtain ⟨c1, c0, c2, c3, c4, c5⟩ := hc
        have hdd : ∃ z, evA s.T y = .d z := by
          cases hev : evA s.T y with
          | d z => exact ⟨z, rfl⟩
          | _ => rw [hev] at c0; cases c0
        obtain ⟨ad, cp, cs', hv, hlc, hatn, her⟩ := cast (h2 hdd)
        simp only [List.cons.injEq, and_true] at hv
        obtain ⟨v', w', ad', cap', hrun, hg, hv', hcap, hat'⟩ := main cs' ad xs.length cp sz hv (hatn.mono fun β hβ => ⟨hβ.1, rfl⟩) (fun u hu => ER.cell _ _ her u hu) (ER.len _ _ her) c1 c2 c3 c4 c5
        intro Q
        refine good_grow (P := P) (o := o) r hrun hg ?_ Q
        subst hv'
        exact ⟨ad', cap', cs', rfl, hcap, hat', ER.mono (keep hg) _ _ _ her⟩
      · exact hc.elim
    · exact hc.elim
  · exact hc.elim

end
end Go.Vg
