/- Package agree, and the reference's: clamping, and what stands on it. -/
import Derived.Test.YtnadggcfdakpoaaZb13
namespace Go.Proofs.Ytnadggcfdakpoaa
open Go Go.Vg
theorem bytes_all : (List.range 256).all (fun x => decide (iandn .u8 (x : Int) 7 = ((x - x % 8 : Nat) : Int)) && decide (iand .u8 (x : Int) 127 = ((x % 128 : Nat) : Int)) && decide (ior .u8 (iand .u8 (x : Int) 127) 64 = ((x % 64 + 64 : Nat) : Int))) = true := by kernel_rfl
theorem byte_ops {x : Nat} (h : x < 256) : iandn .u8 (x : Int) 7 = ((x - x % 8 : Nat) : Int) ∧ iand .u8 (x : Int) 127 = ((x % 128 : Nat) : Int) ∧ ior .u8 (iand .u8 (x : Int) 127) 64 = ((x % 64 + 64 : Nat) : Int) := by
  have := List.all_eq_true.1 bytes_all x (List.mem_range.2 h)
  rw [Bool.and_eq_true, Bool.and_eq_true] at this
  exact ⟨of_decide_eq_true this.1.1, of_decide_eq_true this.1.2, of_decide_eq_true this.2⟩
theorem K_lt {l : List Int} (h : isK l) : vB 256 l < 115792089237316195423570985008687907853269984665640564039457584007913129639936 := by
  have := vB_lt (b := 256) h.1
  rwa [h.2] at this
theorem K_ends {l : List Int} (h : isK l) : ∃ a c : Nat, l.getD 0 0 = (a : Int) ∧ l.getD 31 0 = (c : Int) ∧ a < 256 ∧ c < 256 ∧ a = vB 256 l % 256 ∧ c = vB 256 l / 452312848583266388373324160190187140051835877600158453279131187530910662656 := by
  have h0 := vB_get (b := 256) h.1 (i := 0) (by rw [h.2]; decide)
  have h1 := vB_get (b := 256) h.1 (i := 31) (by rw [h.2]; decide)
  have hv := K_lt h
  have e31 : (256 : Nat) ^ 31 = 452312848583266388373324160190187140051835877600158453279131187530910662656 := rfl
  rw [Nat.pow_zero, Nat.div_one] at h0
  rw [e31, Nat.mod_eq_of_lt (by omega)] at h1
  exact ⟨_, _, h0, h1, by omega, by omega, rfl, rfl⟩
theorem set31 {l : List Int} (h : l.length = 32) {c x : Nat} (hc : l.getD 31 0 = (c : Int)) : vB 256 (l.set 31 (x : Int)) + 452312848583266388373324160190187140051835877600158453279131187530910662656 * c = vB 256 l + 452312848583266388373324160190187140051835877600158453279131187530910662656 * x := by
  have := vB_set (b := 256) l 31 (x : Int) (by omega)
  rwa [hc, Int.toNat_natCast, Int.toNat_natCast] at this
theorem set0 {l : List Int} (h : l.length = 32) {a x : Nat} (ha : l.getD 0 0 = (a : Int)) : vB 256 (l.set 0 (x : Int)) + a = vB 256 l + x := by
  have := vB_set (b := 256) l 0 (x : Int) (by omega)
  rwa [ha, Int.toNat_natCast, Int.toNat_natCast, Nat.pow_zero, Nat.one_mul, Nat.one_mul] at this
theorem K_set {l : List Int} (h : isK l) (i : Nat) {x : Nat} (hx : x < 256) : isK (l.set i (x : Int)) := by
  refine ⟨?_, by rw [List.length_set]; exact h.2⟩
  intro y hy
  rcases List.mem_or_eq_of_mem_set hy with hy | rfl
  · exact h.1 y hy
  · omega
theorem get31 {l : List Int} (x : Int) : (l.set 0 x).getD 31 0 = l.getD 31 0 := by
  rw [getD_set, if_neg (by omega)]
theorem clN_lt (v : Nat) : clN v < 115792089237316195423570985008687907853269984665640564039457584007913129639936 := by unfold clN; omega
theorem lowP_lt (v : Nat) : lowP v < 115792089237316195423570985008687907853269984665640564039457584007913129639936 := by unfold lowP; omega
theorem N_9 : isN [9, 0, 0, 0] := ⟨okw_dec (by decide), rfl⟩
theorem w9 : vB 18446744073709551616 [9, 0, 0, 0] = 9 := rfl
theorem wcl (v : Nat) : vB 18446744073709551616 (nB 18446744073709551616 4 (clN v)) = clN v := wn (clN_lt v)
theorem wlo (v : Nat) : vB 18446744073709551616 (nB 18446744073709551616 4 (lowP v)) = lowP v := wn (lowP_lt v)
theorem ladM_lt (k u : Nat) : ladM k u < 115792089237316195423570985008687907853269984665640564039457584007913129639936 := flt _
theorem ladR_lt (k u : Nat) : ladR k u < 115792089237316195423570985008687907853269984665640564039457584007913129639936 := flt _
set_option maxRecDepth 100000 in
theorem m58 : Meets Try.prog 58 sp58 := by
  refine meets_of_owed (C := c58) ⟨tab_ok, lkS_ok ⟨m62, trivial⟩⟩ (by kernel_rfl) (by kernel_rfl : Try.prog.funcs[58]? = some Try.f58) (by kernel_rfl) (by kernel_rfl) (by kernel_rfl) _ ?_
  rintro _ ⟨l, rfl, hl⟩
  refine ⟨fun _ => rfl, fun _ => none, ?_⟩
  show owed c58 (fun _ => none) Try.f58 [b32 l] (n4 (clN (vB 256 l)))
  rw [vc58]
  obtain ⟨a, c, ha, hc, ha2, hc2, hav, hcv⟩ := K_ends hl
  obtain ⟨o1, _, _⟩ := byte_ops ha2
  obtain ⟨_, _, o3⟩ := byte_ops hc2
  rw [ha, o1, get31, hc, o3]
  have k1 := K_set hl 0 (x := a - a % 8) (by omega)
  have k2 := K_set k1 31 (x := c % 64 + 64) (by omega)
  have s1 := set0 hl.2 (x := a - a % 8) ha
  have s2 := set31 k1.2 (c := c) (x := c % 64 + 64) (by rw [get31]; exact hc)
  have e : vB 256 ((l.set 0 ((a - a % 8 : Nat) : Int)).set 31 ((c % 64 + 64 : Nat) : Int)) = clN (vB 256 l) := by
    unfold clN
    have hv := K_lt hl
    omega
  rw [e]
  and_intros <;> first | exact True.intro | exact ⟨_, rfl, k2.1, k2.2⟩ | rfl | decide | omega
theorem bset {L : List Int} (h : L.length = 256) {i : Nat} (hi : i < 256) {b x : Nat} (hb : L.getD i 0 = (b : Int)) : vB 2 (L.set i (x : Int)) + 2 ^ i * b = vB 2 L + 2 ^ i * x := by
  have := vB_set (b := 2) L i (x : Int) (by omega)
  rwa [hb, Int.toNat_natCast, Int.toNat_natCast] at this
theorem gne {L : List Int} {i j : Nat} (x : Int) (h : i ≠ j) : (L.set i x).getD j 0 = L.getD j 0 := by
  rw [getD_set, if_neg (fun h2 => h h2.1)]
theorem clamp_bits {v : Nat} (hv : v < 115792089237316195423570985008687907853269984665640564039457584007913129639936) : vB 2 (((((nB 2 256 v).set 0 0).set 1 0).set 2 0).set 254 1 |>.set 255 0) = clN v := by
  have hb : ∀ i, i < 256 → (nB 2 256 v).getD i 0 = ((v / 2 ^ i % 2 : Nat) : Int) := fun i hi => nB_get 2 256 v i hi
  have s0 := bset (L := nB 2 256 v) (nB_length _ _ _) (i := 0) (by decide) (x := 0) (hb 0 (by decide))
  have s1 := bset (L := (nB 2 256 v).set 0 ((0 : Nat) : Int)) (by rw [List.length_set, nB_length]) (i := 1) (by decide) (x := 0) (by rw [gne _ (by decide)]; exact hb 1 (by decide))
  have s2 := bset (L := ((nB 2 256 v).set 0 ((0 : Nat) : Int)).set 1 ((0 : Nat) : Int)) (by rw [List.length_set, List.length_set, nB_length]) (i := 2) (by decide) (x := 0) (by rw [gne _ (by decide), gne _ (by decide)]; exact hb 2 (by decide))
  have s3 := bset (L := (((nB 2 256 v).set 0 ((0 : Nat) : Int)).set 1 ((0 : Nat) : Int)).set 2 ((0 : Nat) : Int)) (by rw [List.length_set, List.length_set, List.length_set, nB_length]) (i := 254) (by decide) (x := 1) (by rw [gne _ (by decide), gne _ (by decide), gne _ (by decide)]; exact hb 254 (by decide))
  have s4 := bset (L := ((((nB 2 256 v).set 0 ((0 : Nat) : Int)).set 1 ((0 : Nat) : Int)).set 2 ((0 : Nat) : Int)).set 254 ((1 : Nat) : Int)) (by rw [List.length_set, List.length_set, List.length_set, List.length_set, nB_length]) (i := 255) (by decide) (x := 0) (by rw [gne _ (by decide), gne _ (by decide), gne _ (by decide), gne _ (by decide)]; exact hb 255 (by decide))
  have hvv : vB 2 (nB 2 256 v) = v := by rw [vB_nB]; exact Nat.mod_eq_of_lt hv
  have p254 : (2 : Nat) ^ 254 = 28948022309329048855892746252171976963317496166410141009864396001978282409984 := rfl
  have p255 : (2 : Nat) ^ 255 = 57896044618658097711785492504343953926634992332820282019728792003956564819968 := rfl
  rw [p254] at s3
  rw [p255] at s4
  rw [hvv] at s0
  show vB 2 ((((((nB 2 256 v).set 0 ((0 : Nat) : Int)).set 1 ((0 : Nat) : Int)).set 2 ((0 : Nat) : Int)).set 254 ((1 : Nat) : Int)).set 255 ((0 : Nat) : Int)) = clN v
  unfold clN
  generalize vB 2 ((((((nB 2 256 v).set 0 ((0 : Nat) : Int)).set 1 ((0 : Nat) : Int)).set 2 ((0 : Nat) : Int)).set 254 ((1 : Nat) : Int)).set 255 ((0 : Nat) : Int)) = z5 at *
  generalize vB 2 (((((nB 2 256 v).set 0 ((0 : Nat) : Int)).set 1 ((0 : Nat) : Int)).set 2 ((0 : Nat) : Int)).set 254 ((1 : Nat) : Int)) = z4 at *
  generalize vB 2 ((((nB 2 256 v).set 0 ((0 : Nat) : Int)).set 1 ((0 : Nat) : Int)).set 2 ((0 : Nat) : Int)) = z3 at *
  generalize vB 2 (((nB 2 256 v).set 0 ((0 : Nat) : Int)).set 1 ((0 : Nat) : Int)) = z2 at *
  generalize vB 2 ((nB 2 256 v).set 0 ((0 : Nat) : Int)) = z1 at *
  clear hb
  omega
theorem bits_ok {v : Nat} : isBits (((((nB 2 256 v).set 0 0).set 1 0).set 2 0).set 254 1 |>.set 255 0) := by
  refine ⟨?_, by simp [nB_length]⟩
  intro x hx
  have base : ∀ x ∈ nB 2 256 v, 0 ≤ x ∧ x < 2 := fun x hx => nB_ok (b := 2) (by decide) _ _ x hx
  rcases List.mem_or_eq_of_mem_set hx with hx | rfl
  · rcases List.mem_or_eq_of_mem_set hx with hx | rfl
    · rcases List.mem_or_eq_of_mem_set hx with hx | rfl
      · rcases List.mem_or_eq_of_mem_set hx with hx | rfl
        · rcases List.mem_or_eq_of_mem_set hx with hx | rfl
          · exact base x hx
          · decide
        · decide
      · decide
    · decide
  · decide
set_option maxRecDepth 100000 in
theorem m59 : Meets Try.prog 59 sp59 := by
  refine meets_of_owed (C := c59) ⟨tab_ok, lkS_ok ⟨m121, m123r, m124, m67, trivial⟩⟩ (by kernel_rfl) (by kernel_rfl : Try.prog.funcs[59]? = some Try.f59) (by kernel_rfl) (by kernel_rfl) (by kernel_rfl) _ ?_
  rintro _ ⟨l, rfl, hl⟩
  refine ⟨fun _ => rfl, fun _ => none, ?_⟩
  show owed c59 (fun _ => none) Try.f59 [b32 l] (n4 (clN (vB 256 l)))
  rw [vc59]
  have e : List.take (((32 : Nat) : Int).toNat - 0) (List.drop 0 l) = l := List.take_of_length_le (Nat.le_of_eq hl.2)
  have hv := K_lt hl
  have ev : vB 65536 (dg (vB 256 l)) = vB 256 l := vl_dg _
  have k1 := okLn (n := vB 256 l) (Nat.lt_trans hv (by decide))
  have hcl := clN_lt (vB 256 l)
  have k2 := okLn (n := clN (vB 256 l)) (Nat.lt_trans hcl (by decide))
  have hbits := bits_ok (v := vB 256 l)
  have hclamp := clamp_bits hv
  have ev2 : vB 65536 (dg (clN (vB 256 l))) = clN (vB 256 l) := vl_dg _
  rw [e, ev, bts_eq, hclamp, ev2]
  simp only [List.length_set, nB_length]
  and_intros <;> first | exact True.intro | exact ⟨_, rfl, hl.1, Nat.le_of_eq hl.2⟩ | exact ⟨_, _, rfl, k1.1, k1.2.2.2, by decide, by decide⟩ | exact ⟨_, rfl, hbits⟩ | exact ⟨_, rfl, k2.1, k2.2.2.2⟩ | rfl | decide | omega
set_option maxRecDepth 100000 in
theorem m60 : Meets Try.prog 60 sp60 := by
  refine meets_of_owed (C := c60) ⟨tab_ok, lkS_ok ⟨m58, m51o, m71, trivial⟩⟩ (by kernel_rfl) (by kernel_rfl : Try.prog.funcs[60]? = some Try.f60) (by kernel_rfl) (by kernel_rfl) (by kernel_rfl) _ ?_
  rintro _ ⟨l, rfl, hl⟩
  refine ⟨fun _ => rfl, fun _ => none, ?_⟩
  show owed c60 (fun _ => none) Try.f60 [b32 l] (b32 (nB 256 32 (ladM (clN (vB 256 l)) 9)))
  rw [vc60, wcl, w9, ladMo_eq, wn (ladM_lt _ _)]
  have h9 := N_9
  have hn := nN (ladM (clN (vB 256 l)) 9)
  and_intros <;> first | exact True.intro | exact ⟨_, rfl, hl⟩ | exact ⟨_, _, rfl, nN _, h9⟩ | exact ⟨_, rfl, hn.1, hn.2⟩ | rfl | decide
set_option maxRecDepth 100000 in
theorem m61 : Meets Try.prog 61 sp61 := by
  refine meets_of_owed (C := c61) ⟨tab_ok, lkS_ok ⟨m59, m52o, m122, trivial⟩⟩ (by kernel_rfl) (by kernel_rfl : Try.prog.funcs[61]? = some Try.f61) (by kernel_rfl) (by kernel_rfl) (by kernel_rfl) _ ?_
  rintro _ ⟨l, rfl, hl⟩
  refine ⟨fun _ => rfl, fun _ => none, ?_⟩
  show owed c61 (fun _ => none) Try.f61 [b32 l] (b32 (nB 256 32 (ladR (clN (vB 256 l)) 9)))
  rw [vc61, wcl, w9, ladRo_eq, wn (ladR_lt _ _)]
  have h9 := N_9
  and_intros <;> first | exact True.intro | exact ⟨_, rfl, hl⟩ | exact ⟨_, _, rfl, nN _, h9⟩ | exact ⟨_, rfl, nN _⟩ | rfl | decide
theorem eqB_null {a : Nat} (ha : a < 115792089237316195423570985008687907853269984665640564039457584007913129639936) : eqB (nB 18446744073709551616 4 a) [0, 0, 0, 0] = decide (a = 0) := eqB_num (b := 0) ha (by decide)
set_option maxRecDepth 100000 in
theorem m56 : Meets Try.prog 56 sp56 := by
  refine meets_of_owed (C := c56) ⟨tab_ok, lkS_ok ⟨m58, m62, m51o, m71, trivial⟩⟩ (by kernel_rfl) (by kernel_rfl : Try.prog.funcs[56]? = some Try.f56) (by kernel_rfl) (by kernel_rfl) (by kernel_rfl) _ ?_
  rintro _ ⟨l, m, rfl, hl, hm⟩
  refine ⟨fun _ => rfl, fun _ => none, ?_⟩
  show owed c56 (fun _ => none) Try.f56 [b32 l, b32 m] (.tup [b32 (nB 256 32 (ladM (clN (vB 256 l)) (lowP (vB 256 m)))), i64 (shE (ladM (clN (vB 256 l)) (lowP (vB 256 m))))])
  rw [vc56]
  obtain ⟨a, c, ha, hc, ha2, hc2, hav, hcv⟩ := K_ends hm
  obtain ⟨_, o2, _⟩ := byte_ops hc2
  rw [hc, o2]
  have k2 := K_set hm 31 (x := c % 128) (by omega)
  have s2 := set31 hm.2 (x := c % 128) hc
  have e : vB 256 (m.set 31 ((c % 128 : Nat) : Int)) = lowP (vB 256 m) := by
    unfold lowP
    have hv := K_lt hm
    omega
  rw [e, wcl, wlo, ladMo_eq, eqB_null (ladM_lt _ _), wn (ladM_lt _ _)]
  have hn := nN (ladM (clN (vB 256 l)) (lowP (vB 256 m)))
  simp (decide := true) only [eq_self, true_and, and_true, ne_eq, not_false_eq_true]
  refine ⟨⟨_, rfl, hl⟩, ⟨_, rfl, k2.1, k2.2⟩, ⟨_, _, rfl, nN _, nN _⟩, ?_⟩
  generalize ladM (clN (vB 256 l)) (lowP (vB 256 m)) = L at hn ⊢
  by_cases h0 : L = 0
  · subst h0
    rfl
  · rw [decide_eq_false h0]
    have e2 : shE L = 0 := by unfold shE; rw [if_neg h0]
    rw [e2]
    exact ⟨⟨_, rfl, hn.1, hn.2⟩, rfl⟩
set_option maxRecDepth 100000 in
theorem m57 : Meets Try.prog 57 sp57 := by
  refine meets_of_owed (C := c57) ⟨tab_ok, lkS_ok ⟨m121, m66, m84, m59, m67, m52o, m72, m122, trivial⟩⟩ (by kernel_rfl) (by kernel_rfl : Try.prog.funcs[57]? = some Try.f57) (by kernel_rfl) (by kernel_rfl) (by kernel_rfl) _ ?_
  rintro _ ⟨l, m, rfl, hl, hm⟩
  refine ⟨fun _ => rfl, fun _ => none, ?_⟩
  show owed c57 (fun _ => none) Try.f57 [b32 l, b32 m] (.tup [b32 (nB 256 32 (ladR (clN (vB 256 l)) (lowP (vB 256 m)))), i64 (shE (ladR (clN (vB 256 l)) (lowP (vB 256 m))))])
  rw [vc57]
  have e : List.take (((32 : Nat) : Int).toNat - 0) (List.drop 0 m) = m := List.take_of_length_le (Nat.le_of_eq hm.2)
  have hv := K_lt hm
  have ev : vB 65536 (dg (vB 256 m)) = vB 256 m := vl_dg _
  have eP : dgP 255 = dg (2 ^ 255) := opq_eq _
  have ep : vB 65536 (dgP 255) = 2 ^ 255 := by rw [eP]; exact vl_dg _
  have k0 := okLn (n := vB 256 m) (Nat.lt_trans hv (by decide))
  have kp := okLn (n := 2 ^ 255) (by decide)
  rw [← eP] at kp
  have k3 : ¬ vB 65536 (dgP 255) = 0 := by rw [ep]; decide
  have el : vB 256 m % 2 ^ 255 = lowP (vB 256 m) := rfl
  have hlo := lowP_lt (vB 256 m)
  have k1 := okLn (n := lowP (vB 256 m)) (Nat.lt_trans hlo (by decide))
  have ev2 : vB 65536 (dg (lowP (vB 256 m))) = lowP (vB 256 m) := vl_dg _
  rw [e, ev, ep, el, ev2, wcl, wlo, ladRo_eq, wn (ladR_lt _ _)]
  have hn := nN (ladR (clN (vB 256 l)) (lowP (vB 256 m)))
  have n0 : isN [0, 0, 0, 0] := N_0
  simp (decide := true) only [eq_self, true_and, and_true, ne_eq, not_false_eq_true]
  refine ⟨⟨_, rfl, hm.1, Nat.le_of_eq hm.2⟩, ⟨255, rfl, by decide, by decide⟩, ⟨_, _, rfl, ⟨k0.1, k0.2.2.1⟩, ⟨kp.1, kp.2.2.1⟩, k3⟩, ⟨_, rfl, hl⟩, ⟨_, rfl, k1.1, k1.2.2.2⟩, ⟨_, _, rfl, nN _, nN _⟩, ⟨_, rfl, hn.1, hn.2⟩, ?_⟩
  generalize ladR (clN (vB 256 l)) (lowP (vB 256 m)) = L at hn ⊢
  by_cases h0 : L = 0
  · subst h0
    have h2 := (dg_null 0).2 rfl
    rw [h2]
    rfl
  · have e2 : shE L = 0 := by unfold shE; rw [if_neg h0]
    have h2 : (((dg L).length : Int) == 0) = false := by
      cases h : (((dg L).length : Int) == 0) with
      | false => rfl
      | true => exact absurd ((dg_null L).1 h) h0
    rw [h2, e2]
    exact ⟨⟨_, rfl, hn⟩, rfl⟩
end Go.Proofs.Ytnadggcfdakpoaa
namespace Go.Proofs.Ytnadggcfdakpoaa
open Go Go.Vg
noncomputable def c10 : Ctx := ⟨tab, lkS [(56, sp56), (57, sp57), (58, sp58), (59, sp59), (60, sp60), (61, sp61)], [], []⟩
--KEEP Go.Vg.spl List.replicate Nat.gcd Go.Vg.eqB Go.Vg.vB Go.Vg.nB Go.Vg.okd Go.Vg.okw okb isN FP isK clN lowP shE ladM ladR
set_option maxRecDepth 100000 in
theorem vc10  (l m : List Int) (F : D)  :
    (owed c10 (fun _ => none) Try.f10 [b32 l, b32 m] F) = (
 (True ∧ false = false) ∧
 (True ∧ false = false) ∧
 True ∧
 ((32 : Nat) ≠ (0 : Nat) ∧ (32 : Nat) = (32 : Nat) ∧ true = true) ∧
 ((32 : Nat) ≠ (0 : Nat) ∧ (32 : Nat) = (32 : Nat) ∧ true = true) ∧
 (∃ (l_1 : List Int), ∃ (m_1 : List Int), [D.arr IntKind.u8 (32 : Nat) l, D.arr IntKind.u8 (32 : Nat) m] = [D.arr IntKind.u8 (32 : Nat) l_1, D.arr IntKind.u8 (32 : Nat) m_1] ∧ isK l_1 ∧ isK m_1) ∧
 True ∧
 ((0 : Nat) < (2 : Nat) ∧ false = false) ∧
 ((1 : Nat) < (2 : Nat) ∧ false = false) ∧
 (True ∧ (32 : Nat) ≠ (0 : Nat)) ∧
 (Sk.arr (32 : Nat) = Sk.arr (32 : Nat) ∧ (32 : Nat) ≠ (0 : Nat) ∧ (32 : Nat) = (32 : Nat) ∧ false = false) ∧
 True ∧
 ((32 : Nat) ≠ (0 : Nat) ∧ (32 : Nat) = (32 : Nat) ∧ true = true) ∧
 ((32 : Nat) ≠ (0 : Nat) ∧ (32 : Nat) = (32 : Nat) ∧ true = true) ∧
 (∃ (l_1 : List Int), ∃ (m_1 : List Int), [D.arr IntKind.u8 (32 : Nat) l, D.arr IntKind.u8 (32 : Nat) m] = [D.arr IntKind.u8 (32 : Nat) l_1, D.arr IntKind.u8 (32 : Nat) m_1] ∧ isK l_1 ∧ isK m_1) ∧
 True ∧
 ((0 : Nat) < (2 : Nat) ∧ false = false) ∧
 ((1 : Nat) < (2 : Nat) ∧ false = false) ∧
 (True ∧ (32 : Nat) ≠ (0 : Nat)) ∧
 (Sk.arr (32 : Nat) = Sk.arr (32 : Nat) ∧ (32 : Nat) ≠ (0 : Nat) ∧ (32 : Nat) = (32 : Nat) ∧ false = false) ∧
 True ∧
 ((32 : Nat) ≠ (0 : Nat) ∧ (32 : Nat) = (32 : Nat) ∧ true = true) ∧
 (∃ (l_1 : List Int), [D.arr IntKind.u8 (32 : Nat) l] = [D.arr IntKind.u8 (32 : Nat) l_1] ∧ isK l_1) ∧
 ((32 : Nat) ≠ (0 : Nat) ∧ (32 : Nat) = (32 : Nat) ∧ true = true) ∧
 (∃ (l_1 : List Int), [D.arr IntKind.u8 (32 : Nat) l] = [D.arr IntKind.u8 (32 : Nat) l_1] ∧ isK l_1) ∧
 (IntKind.u64 = IntKind.u64 ∧ IntKind.u64 = IntKind.u64 ∧ (4 : Nat) = (4 : Nat) ∧ (4 : Nat) = (4 : Nat) ∧ (1 : Nat) = (1 : Nat)) ∧
 True ∧
 match eqB (nB (18446744073709551616 : Nat) (4 : Nat) (clN (vB (256 : Nat) l))) (nB (18446744073709551616 : Nat) (4 : Nat) (clN (vB (256 : Nat) l))) with
 | true =>
  ((32 : Nat) ≠ (0 : Nat) ∧ (32 : Nat) = (32 : Nat) ∧ true = true) ∧
  (∃ (l_1 : List Int), [D.arr IntKind.u8 (32 : Nat) l] = [D.arr IntKind.u8 (32 : Nat) l_1] ∧ isK l_1) ∧
  ((32 : Nat) ≠ (0 : Nat) ∧ (32 : Nat) = (32 : Nat) ∧ true = true) ∧
  (∃ (l_1 : List Int), [D.arr IntKind.u8 (32 : Nat) l] = [D.arr IntKind.u8 (32 : Nat) l_1] ∧ isK l_1) ∧
  (IntKind.u8 = IntKind.u8 ∧ IntKind.u8 = IntKind.u8 ∧ (32 : Nat) = (32 : Nat) ∧ (32 : Nat) = (32 : Nat) ∧ (1 : Nat) = (1 : Nat)) ∧
  True ∧
  True ∧
  match eqB (nB (256 : Nat) (32 : Nat) (ladM (clN (vB (256 : Nat) l)) (9 : Nat))) (nB (256 : Nat) (32 : Nat) (ladR (clN (vB (256 : Nat) l)) (9 : Nat))) with
  | true =>
   ((32 : Nat) ≠ (0 : Nat) ∧ (32 : Nat) = (32 : Nat) ∧ true = true) ∧
   ((32 : Nat) ≠ (0 : Nat) ∧ (32 : Nat) = (32 : Nat) ∧ true = true) ∧
   (IntKind.u8 = IntKind.u8 ∧ IntKind.u8 = IntKind.u8 ∧ (32 : Nat) = (32 : Nat) ∧ (32 : Nat) = (32 : Nat) ∧ (1 : Nat) = (1 : Nat)) ∧
   True ∧
   True ∧
   match eqB (nB (256 : Nat) (32 : Nat) (ladM (clN (vB (256 : Nat) l)) (lowP (vB (256 : Nat) m)))) (nB (256 : Nat) (32 : Nat) (ladR (clN (vB (256 : Nat) l)) (lowP (vB (256 : Nat) m)))) with
   | true => True ∧ True ∧ True ∧ True ∧ True ∧ (false = false ∧ True) ∧ D.val (Value.bool (shE (ladM (clN (vB (256 : Nat) l)) (lowP (vB (256 : Nat) m))) == shE (ladR (clN (vB (256 : Nat) l)) (lowP (vB (256 : Nat) m))))) = F
   | false => True ∧ True ∧ (false = false ∧ True) ∧ D.val (Value.bool false) = F
  | false => True ∧ True ∧ True ∧ True ∧ (false = false ∧ True) ∧ D.val (Value.bool false) = F
 | false => True ∧ True ∧ True ∧ True ∧ True ∧ True ∧ (false = false ∧ True) ∧ D.val (Value.bool false) = F) := by kernel_rfl
theorem args10 {ds : List D} (h : (lawSpec tab Try.f10.params.toList).pre ds) : ∃ l m, ds = [b32 l, b32 m] ∧ isK l ∧ isK m := by
  have h : OkAll tab 8 [88, 88] ds := h
  match ds, h with
  | [x, y], h =>
    obtain ⟨l, rfl, h1⟩ := b32_of h.1
    obtain ⟨m, rfl, h2⟩ := b32_of h.2.1
    exact ⟨l, m, rfl, h1, h2⟩
  | _ :: _ :: _ :: _, h => cases h.2.2
  | [_], h => cases h.2
theorem eqB_refl (l : List Int) : eqB l l = true := by rw [eqB_iff]
set_option maxRecDepth 100000 in
theorem m10 : Meets Try.prog 10 (lawSpec tab Try.f10.params.toList) := by
  refine meets_of_owed (C := c10) ⟨tab_ok, lkS_ok ⟨m56, m57, m58, m59, m60, m61, trivial⟩⟩ (by kernel_rfl) (by kernel_rfl : Try.prog.funcs[10]? = some Try.f10) (by kernel_rfl) (by kernel_rfl) (by kernel_rfl) _ ?_
  intro ds hds
  obtain ⟨l, m, rfl, hl, hm⟩ := args10 hds
  refine ⟨fun _ => rfl, fun _ => none, ?_⟩
  show owed c10 (fun _ => none) Try.f10 [b32 l, b32 m] (.val (.bool true))
  rw [vc10]
  have e1 := lad_eq (k := clN (vB 256 l)) (u := 9) (clN_lt _)
  have e2 := lad_eq (k := clN (vB 256 l)) (u := lowP (vB 256 m)) (clN_lt _)
  simp (decide := true) only [eq_self, true_and, and_true, ne_eq, not_false_eq_true, e1, e2, eqB_refl, beq_self_eq_true]
  and_intros <;> first | exact True.intro | exact ⟨_, _, rfl, hl, hm⟩ | exact ⟨_, rfl, hl⟩ | rfl
end Go.Proofs.Ytnadggcfdakpoaa
