/- GfTells, part 3: the box, and the law. -/
import Derived.Test.YtnadggcfdakpoaaZb10
import Derived.Test.YtnadggcfdakpoaaZb12
namespace Go.Proofs.Ytnadggcfdakpoaa
open Go Go.Vg
theorem tab_set (f : Nat → Int) (n i : Nat) (h : i < n) :
    ((List.range i).map f ++ List.replicate (n - i) 0).set i (f i) = (List.range (i + 1)).map f ++ List.replicate (n - (i + 1)) 0 := by
  rw [show n - i = (n - (i + 1)) + 1 by omega, List.replicate_succ, List.set_append_right _ _ (by simp), List.length_map, List.length_range, Nat.sub_self, List.set_cons_zero, List.range_succ, List.map_append, List.append_assoc]
  rfl
theorem pwL_get {i : Nat} (h : i < 255) : (pwL 255 ++ List.replicate (255 - 255) 0).getD i 0 = ((gpw 3 i : Nat) : Int) := by
  rw [Nat.sub_self, List.replicate_zero, List.append_nil]
  simp [pwL, List.getD_eq_getElem?_getD, h]
theorem box_set {a : Nat} (h : a < 256) : (boxL.take a ++ List.replicate (256 - a) 0).set a ((gbx a : Nat) : Int) = boxL.take (a + 1) ++ List.replicate (256 - (a + 1)) 0 := by
  have := tab_set (fun j => ((gbx j : Nat) : Int)) 256 a h
  have e : ∀ i, i ≤ 256 → boxL.take i = (List.range i).map fun j => ((gbx j : Nat) : Int) := by
    intro i hi
    rw [boxL, ← List.map_take, List.take_range, Nat.min_eq_left hi]
  rw [e a (by omega), e (a + 1) (by omega)]
  exact this
theorem gk_get {k : Nat} (h : k < 5) : [(0 : Int), 4, 5, 6, 7].getD k 0 = ((gk.getD k 0 : Nat) : Int) ∧ gk.getD k 0 < 8 := by
  obtain rfl | rfl | rfl | rfl | rfl : k = 0 ∨ k = 1 ∨ k = 2 ∨ k = 3 ∨ k = 4 := by omega
  all_goals exact ⟨rfl, by decide⟩
set_option maxRecDepth 100000 in
theorem m79 : Meets Try.prog 79 sp79 := by
  refine meets_of_owed (C := c134) ⟨tab_ok, lkS_ok ⟨m81, trivial⟩⟩ (by kernel_rfl) (by kernel_rfl : Try.prog.funcs[79]? = some Try.f79) (by kernel_rfl) (by kernel_rfl) (by kernel_rfl) _ ?_
  intro ds hds
  obtain rfl : ds = [] := List.length_eq_zero_iff.mp hds
  refine ⟨fun _ => rfl, inv79, ?_⟩
  show owed c134 inv79 Try.f79 [] (b256 boxP)
  rw [vc79]
  simp (decide := true) only [eq_self, true_and, and_true, ne_eq, not_false_eq_true, Int.toNat_natCast]
  refine ⟨⟨⟨rfl, rfl⟩, rfl⟩, ?_⟩
  intro x hx
  split
  · rename_i h
    have h := of_decide_eq_true h
    rw [show ((x : Int) + 1) = ((x + 1 : Nat) : Int) by omega, wNi (n := x + 1) (by omega)]
    simp only [Int.toNat_natCast]
    have e : (pwL x ++ List.replicate (255 - x) 0).set x ((gpw 3 x : Nat) : Int) = pwL (x + 1) ++ List.replicate (255 - (x + 1)) 0 := tab_set _ 255 x (by omega)
    rw [e]
    have hp : ∃ a b : Nat, [u8 (gpw 3 x), D.val (Value.int IntKind.u8 3)] = [u8 a, u8 b] ∧ a < 256 ∧ b < 256 := ⟨_, 3, rfl, gpw_lt (by decide) x, by decide⟩
    and_intros <;> first | exact hp | omega | rfl | trivial
  rename_i h
  have h := of_decide_eq_false h
  obtain rfl : x = 255 := by omega
  clear h hx
  refine ⟨by and_intros <;> first | rfl | trivial, ?_⟩
  intro x hx
  split
  · rename_i h
    have h := of_decide_eq_true h
    have hlt : (255 - x) % 255 < 255 := Nat.mod_lt _ (by decide)
    have e1 : (255 : Int) - (x : Int) = ((255 - x : Nat) : Int) := by omega
    have e2 : ((255 - x : Nat) : Int).tmod 255 = (((255 - x) % 255 : Nat) : Int) := tmodN (255 - x) 255
    have hg : gpw 3 x < 256 := gpw_lt (by decide) x
    have e : (gia x).set (gpw 3 x) ((gpw 3 ((255 - x) % 255) : Nat) : Int) = gia (x + 1) := rfl
    rw [e1, wNi (n := 255 - x) (by omega), e2, show ((x : Int) + 1) = ((x + 1 : Nat) : Int) by omega, wNi (n := x + 1) (by omega)]
    simp only [Int.toNat_natCast]
    rw [pwL_get (i := x) (by omega), pwL_get hlt]
    simp only [Int.toNat_natCast]
    rw [e]
    and_intros <;> first | omega | rfl | trivial
  rename_i h
  have h := of_decide_eq_false h
  obtain rfl : x = 255 := by omega
  clear h hx
  refine ⟨by and_intros <;> first | rfl | trivial, ?_⟩
  intro a ha
  split
  · rename_i h
    have h := of_decide_eq_true h
    have hg := giv_lt (a := a) (by omega)
    rw [gia_giv (a := a) (by omega), wNi (n := giv a) (by omega), show ((a : Int) + 1) = ((a + 1 : Nat) : Int) by omega, wNi (n := a + 1) (by omega)]
    simp only [Int.toNat_natCast]
    refine ⟨by omega, ⟨⟨rfl, rfl⟩, trivial⟩, ?_⟩
    rintro ⟨b, i⟩ ⟨hb, hi⟩
    simp only at hb hi ⊢
    obtain rfl : b = giv a := by omega
    split
    · rename_i h2
      have h2 := of_decide_eq_true h2
      rw [show (99 : Int) = ((99 : Nat) : Int) from rfl, ishrN .i64 (by simp only [IntKind.bits]; omega), iand1 .i64 (by rw [kbi]; exact Nat.lt_of_le_of_lt (Nat.div_le_self _ _) (by decide)),
        show ((i : Int) + 1) = ((i + 1 : Nat) : Int) by omega, wNi (n := i + 1) (by omega)]
      simp only [Int.toNat_natCast]
      refine ⟨by omega, ⟨⟨rfl, rfl⟩, trivial⟩, ?_⟩
      rintro ⟨b, j, k⟩ ⟨hb2, hj, hk⟩
      simp only at hb2 hj hk ⊢
      obtain rfl : b = giv a := by omega
      obtain rfl : j = i := by omega
      split
      · rename_i h3
        have h3 := of_decide_eq_true h3
        obtain ⟨e1, e2⟩ := gk_get (k := k) (by omega)
        have e3 : (((j + gk.getD k 0 : Nat) : Int)).tmod 8 = (((j + gk.getD k 0) % 8 : Nat) : Int) := tmodN _ 8
        have hs : (j + gk.getD k 0) % 8 < 8 := Nat.mod_lt _ (by decide)
        have hq : giv a / 2 ^ ((j + gk.getD k 0) % 8) < kb .i64 := Nat.lt_of_le_of_lt (Nat.div_le_self _ _) (by rw [kbi]; omega)
        have hn := gan_le (giv a) j k
        have e4 : gan (giv a) j (k + 1) = gan (giv a) j k + giv a / 2 ^ ((j + gk.getD k 0) % 8) % 2 := rfl
        rw [e1, show ((j : Int) + ((gk.getD k 0 : Nat) : Int)) = ((j + gk.getD k 0 : Nat) : Int) by omega, wNi (n := j + gk.getD k 0) (by omega), e3, ishrN .i64 (by simp only [IntKind.bits]; omega), iand1 .i64 hq,
          show (((gan (giv a) j k : Nat) : Int) + ((giv a / 2 ^ ((j + gk.getD k 0) % 8) % 2 : Nat) : Int)) = ((gan (giv a) j k + giv a / 2 ^ ((j + gk.getD k 0) % 8) % 2 : Nat) : Int) by omega, ← e4,
          wNi (n := gan (giv a) j (k + 1)) (by have := gan_le (giv a) j (k + 1); omega), show ((k : Int) + 1) = ((k + 1 : Nat) : Int) by omega, wNi (n := k + 1) (by omega)]
        simp only [Int.toNat_natCast]
        and_intros <;> first | omega | rfl | trivial
      · rename_i h3
        have h3 := of_decide_eq_false h3
        obtain rfl : k = 5 := by omega
        have e5 : ((gan (giv a) j 5 : Nat) : Int).tmod 2 = ((gan (giv a) j 5 % 2 : Nat) : Int) := tmodN _ 2
        have h2j : 2 ^ j ≤ 2 ^ 7 := Nat.pow_le_pow_right (by decide) (by omega)
        have hx := gax_lt (giv a) j
        have hx1 := gax_lt (giv a) (j + 1)
        have h2k : 2 ^ (j + 1) ≤ 2 ^ 8 := Nat.pow_le_pow_right (by decide) (by omega)
        have e6 : gax (giv a) (j + 1) = gax (giv a) j + gan (giv a) j 5 % 2 * 2 ^ j := rfl
        rw [e5, ishlN .i64 (by simp only [IntKind.bits]; omega), wNi (n := gan (giv a) j 5 % 2 * 2 ^ j) (by omega), ← Int.natCast_add, ← e6, wNi (n := gax (giv a) (j + 1)) (by omega)]
        and_intros <;> first | omega | rfl | trivial
    · rename_i h2
      have h2 := of_decide_eq_false h2
      obtain rfl : i = 8 := by omega
      have hlt := gbx_lt a
      have e : gax (giv a) 8 = gbx a := rfl
      rw [e, wN8, Nat.mod_eq_of_lt hlt, box_set (by omega)]
      and_intros <;> first | omega | rfl | trivial
  · rename_i h
    have h := of_decide_eq_false h
    obtain rfl : a = 256 := by omega
    have e : boxP = boxL := opq_eq _
    rw [e, Nat.sub_self, List.replicate_zero, List.append_nil, List.take_of_length_le (by rw [boxL_len]; exact Nat.le_refl _)]
end Go.Proofs.Ytnadggcfdakpoaa
namespace Go.Proofs.Ytnadggcfdakpoaa
open Go Go.Vg
theorem ch_len (k : IntKind) (n : Nat) : ∀ (c : Nat) (l : List Int), (chunks k n c l).length = c
  | 0, _ => rfl
  | c + 1, l => by simp [chunks, ch_len k n c]
theorem ch_get {k : IntKind} {n : Nat} {d : D} : ∀ {c j : Nat} {l : List Int}, j < c → (chunks k n c l).getD j d = .arr k n ((l.drop (n * j)).take n)
  | 0, _, _, h => by omega
  | c + 1, 0, l, _ => rfl
  | c + 1, j + 1, l, h => by
    show (chunks k n c (l.drop n)).getD j d = _
    rw [ch_get (by omega), List.drop_drop, show n + n * j = n * (j + 1) by rw [Nat.mul_add]; omega]
theorem ch_succ {k : IntKind} {n : Nat} : ∀ (c : Nat) (l : List Int), chunks k n (c + 1) l = chunks k n c l ++ [.arr k n ((l.drop (n * c)).take n)]
  | 0, l => rfl
  | c + 1, l => by
    show D.arr k n (l.take n) :: chunks k n (c + 1) (l.drop n) = D.arr k n (l.take n) :: chunks k n c (l.drop n) ++ [.arr k n ((l.drop (n * (c + 1))).take n)]
    rw [ch_succ c (l.drop n), List.drop_drop, show n + n * c = n * (c + 1) by rw [Nat.mul_add]; omega]
    rfl
theorem take_col {fw : List Int} {j : Nat} (h : 4 * j + 4 ≤ fw.length) : (fw.drop (4 * j)).take 4 = colL fw j := by
  refine ext_getD (n := 4) (by rw [List.length_take, List.length_drop]; omega) rfl fun i hi => ?_
  rw [getD_take hi, getD_drop]
  unfold colL
  match i, hi with
  | 0, _ => rfl
  | 1, _ => rfl
  | 2, _ => rfl
  | 3, _ => rfl
  | k + 4, h => omega
theorem boxP_get {a : Nat} (h : a < 256) : boxP.getD a 0 = ((gbx a : Nat) : Int) := by
  unfold boxP
  rw [opq_eq, boxL_get h]
theorem boxU_get {a : Nat} (h : a < 256) : boxU.getD a 0 = ((gux a : Nat) : Int) := by
  unfold boxU boxP
  rw [opq_eq, gub_box h]
theorem col_get4 {f : Nat → Int} : [f 0, f 1, f 2, f 3] = (List.range 4).map f := rfl
theorem rowc {a b : List D} (h : a = b) : some (Blk.row 39 (.slc 4 a)) = some (Blk.row 39 (.slc 4 b)) := by rw [h]
theorem avc {a b : AV} (h : a = b) : a = b := h
theorem u8c {a b : Nat} (h : a = b) : AV.d (u8 a) = AV.d (u8 b) := by rw [h]
theorem s4L_eq (p : List Int) : s4L p = [((gbx (p.getD 0 0).toNat : Nat) : Int), ((gbx (p.getD 1 0).toNat : Nat) : Int), ((gbx (p.getD 2 0).toNat : Nat) : Int), ((gbx (p.getD 3 0).toNat : Nat) : Int)] := rfl
theorem s4L_trn (p : List Int) : s4L (trn p) = [((gbx (p.getD 1 0).toNat : Nat) : Int), ((gbx (p.getD 2 0).toNat : Nat) : Int), ((gbx (p.getD 3 0).toNat : Nat) : Int), ((gbx (p.getD 0 0).toNat : Nat) : Int)] := rfl
attribute [local irreducible] selL s4L adK eaL shL usL trL adR mxR fwS fwL
set_option maxHeartbeats 4000000 in
set_option maxRecDepth 100000 in
theorem m20 : MeetsQ Try.prog 20 sp20 := by
  refine meetsNew_of_owed (C := c20) ⟨tab_ok, lkS_ok ⟨m79, m80, m81, trivial⟩⟩ (by kernel_rfl) (by kernel_rfl : Try.prog.funcs[20]? = some Try.f20) (by kernel_rfl) (by kernel_rfl) (by kernel_rfl) _ ⟨by kernel_rfl, by kernel_rfl, by kernel_rfl, by kernel_rfl⟩ ?_
  rintro _ ⟨key, rfl, hk, hN⟩
  refine ⟨inv20 (key.length / 4) (fwL (key.length / 4) key), ?_⟩
  show owedNew c20 (inv20 (key.length / 4) (fwL (key.length / 4) key)) Try.f20 [.str key] (.tup [.st [.slc 4 (chunks .u8 4 (4 * (key.length / 4 + 7)) (fwL (key.length / 4) key)), b256 boxP, b256 boxU], i64 0])
  rw [vc20]
  have hz0 : Int.toNat 0 = 0 := rfl
  simp (decide := true) only [eq_self, true_and, and_true, ne_eq, not_false_eq_true, Int.toNat_natCast, ch_len, hz0, List.length_append, List.length_cons, List.length_nil]
  refine m3 ?_ ?_
  · intro h1 h2 h3
    have h1 := bne_iff_ne.1 h1
    have h2 := bne_iff_ne.1 h2
    have h3 := bne_iff_ne.1 h3
    unfold okN at hN
    omega
  · intro hb
    have hn48 : key.length / 4 = 4 ∨ key.length / 4 = 6 ∨ key.length / 4 = 8 := by unfold okN at hN; omega
    have hlen : key.length = 4 * (key.length / 4) := by unfold okN at hN; omega
    rw [td4, wNi (n := key.length / 4) (by omega)]
    generalize hne : key.length / 4 = n at hn48 hlen ⊢
    have hfw := fw_ok hk n
    have hwd : ∀ i j, i < 4 * (n + 7) → j < 4 → (fwL n key).getD (4 * i + j) 0 = (wdL n key i (fwL n key)).getD j 0 := fun i j hi hj => fw_word (by omega) (by omega) hi hj
    generalize fwL n key = fw at hfw hwd ⊢
    have w7 : IntKind.i64.wrap ((n : Int) + 7) = ((n + 7 : Nat) : Int) := wi_n (by omega) 7 (by omega)
    have w28 : IntKind.i64.wrap (4 * ((n + 7 : Nat) : Int)) = ((4 * (n + 7) : Nat) : Int) := by rw [show 4 * ((n + 7 : Nat) : Int) = ((4 * (n + 7) : Nat) : Int) by omega, wNi (by omega)]
    simp only [w7, w28]
    have hbx : ∃ l, [D.arr IntKind.u8 256 boxP] = [D.arr IntKind.u8 256 l] ∧ okb l ∧ l.length = 256 := ⟨_, rfl, by
      unfold boxP
      rw [opq_eq]
      refine ⟨?_, boxL_len⟩
      intro x hx
      obtain ⟨a, ha, rfl⟩ := List.mem_map.1 hx
      have := gbx_lt a
      omega⟩
    refine ⟨hbx, by and_intros <;> first | exact True.intro | omega | rfl, ?_⟩
    intro i hi
    split
    · rename_i h2
      have h2 : i < n := by have := of_decide_eq_true h2; omega
      have q : ∀ k : Nat, k < 4 → IntKind.i64.wrap (((4 * i : Nat) : Int) + (k : Int)) = ((4 * i + k : Nat) : Int) := fun k hk => wi_n (by omega) k (by omega)
      have q0 : IntKind.i64.wrap (4 * (i : Int)) = ((4 * i : Nat) : Int) := by rw [show 4 * (i : Int) = ((4 * i : Nat) : Int) by omega, wNi (by omega)]
      have q1 : IntKind.i64.wrap (((4 * i : Nat) : Int) + 1) = _ := q 1 (by omega)
      have q2 : IntKind.i64.wrap (((4 * i : Nat) : Int) + 2) = _ := q 2 (by omega)
      have q3 : IntKind.i64.wrap (((4 * i : Nat) : Int) + 3) = _ := q 3 (by omega)
      have ec : [key.getD (4 * i) 0, key.getD (4 * i + 1) 0, key.getD (4 * i + 2) 0, key.getD (4 * i + 3) 0] = colL fw i := by
        have wk : ∀ j, j < 4 → fw.getD (4 * i + j) 0 = key.getD (4 * i + j) 0 := by
          intro j hj
          rw [hwd i j (by omega) hj]
          unfold wdL
          rw [if_pos h2]
          unfold colL
          match j, hj with
          | 0, _ => rfl
          | 1, _ => rfl
          | 2, _ => rfl
          | 3, _ => rfl
          | k + 4, h => omega
        have w0 := wk 0 (by omega)
        rw [Nat.add_zero] at w0
        unfold colL
        rw [w0, wk 1 (by omega), wk 2 (by omega), wk 3 (by omega)]
      have es := ch_succ (k := .u8) (n := 4) i fw
      rw [take_col (by rw [hfw.2]; omega)] at es
      simp only [q0, q1, q2, q3, sq (x := i) (by omega), Int.toNat_natCast, ec, ← es]
      and_intros <;> first | exact True.intro | omega | rfl
    · rename_i h2
      have h2 : i = n := by have := of_decide_eq_false h2; omega
      subst h2
      have e0 : (i - 1) / i = 0 := Nat.div_eq_of_lt (by omega)
      refine ⟨by and_intros <;> first | exact True.intro | omega | (rw [e0]; rfl) | rfl, ?_⟩
      clear hi e0
      generalize i = n at *
      intro i ⟨hi1, hi2⟩
      split
      · rename_i h
        have h : i < 4 * (n + 7) := by have := of_decide_eq_true h; omega
        have w1 : IntKind.i64.wrap ((i : Int) - 1) = ((i - 1 : Nat) : Int) := by rw [show (i : Int) - 1 = ((i - 1 : Nat) : Int) by omega, wNi (by omega)]
        have wn : IntKind.i64.wrap ((i : Int) - (n : Int)) = ((i - n : Nat) : Int) := by rw [show (i : Int) - (n : Int) = ((i - n : Nat) : Int) by omega, wNi (by omega)]
        have tmn : (i : Int).tmod (n : Int) = ((i % n : Nat) : Int) := rfl
        have tm8 : (i : Int).tmod 8 = ((i % 8 : Nat) : Int) := rfl
        have g1 : (chunks .u8 4 i fw).getD (i - 1) (D.val (Value.bool false)) = b4 (prL fw i) := by rw [ch_get (by omega), take_col (by rw [hfw.2]; omega)]; rfl
        have gn : (chunks .u8 4 i fw).getD (i - n) (D.val (Value.bool false)) = b4 (colL fw (i - n)) := by rw [ch_get (by omega), take_col (by rw [hfw.2]; omega)]
        have ea : ∀ l, arrOf (D.arr .u8 4 l) = l := fun l => rfl
        have hpp : okb (prL fw i) := colL_ok hfw.1 (i - 1)
        have hb : ∀ j, 0 ≤ (prL fw i).getD j 0 ∧ (prL fw i).getD j 0 < 256 := fun j => okb_g hpp j
        have hbox : ∀ j, boxP.getD ((prL fw i).getD j 0).toNat 0 = ((gbx ((prL fw i).getD j 0).toNat : Nat) : Int) := fun j => boxP_get (by have := hb j; omega)
        simp only [w1, wn, tmn, tm8, Int.toNat_natCast, g1, gn, ea, hbox]
        have hdv : (i % n = 0 → i / n - 1 = (i - 1) / n ∧ (i - 1) / n + 1 = i / n) ∧ (i % n ≠ 0 → (i - 1) / n = i / n) := by
          rcases hn48 with rfl | rfl | rfl <;> omega
        refine ⟨by and_intros <;> omega, by and_intros <;> first | exact True.intro | omega | rfl, by and_intros <;> omega, by and_intros <;> first | exact True.intro | omega | rfl, by omega, ?_, ?_⟩
        · split
          · rename_i h5
            have h5 : i % n = 0 := by have := eq_of_beq h5; omega
            obtain ⟨d1, d2⟩ := hdv.1 h5
            have et : tuL n fw i = (s4L (trn (prL fw i))).set 0 (ixor .u8 ((s4L (trn (prL fw i))).getD 0 0) ((gpw 2 (i / n - 1) : Nat) : Int)) := by unfold tuL; rw [if_pos h5]
            rw [et, s4L_trn, d1]
            have em : gm (gpw 2 ((i - 1) / n)) 2 = gpw 2 (i / n) := by rw [← d2]; rfl
            and_intros <;> first | exact True.intro | exact (hb _).1 | exact (hb _).2 | omega | exact ⟨_, 2, rfl, gpw_lt (by decide) _, by decide⟩ | exact u8c em | rfl
          · rename_i h5
            have h5 : ¬ i % n = 0 := fun e => by rw [e] at h5; cases h5
            have ed := hdv.2 h5
            split
            · rename_i h6
              have h6 : n = 8 := by have := eq_of_beq h6; omega
              split
              · rename_i h7
                have h7 : i % 8 = 4 := by have := eq_of_beq h7; omega
                have et : tuL n fw i = s4L (prL fw i) := by unfold tuL; rw [if_neg h5, if_pos ⟨h6, h7⟩]
                rw [et, s4L_eq, ed]
                and_intros <;> first | exact True.intro | exact (hb _).1 | exact (hb _).2 | omega | rfl
              · rename_i h7
                have h7 : ¬ i % 8 = 4 := fun e => by rw [e] at h7; cases h7
                have et : tuL n fw i = prL fw i := by unfold tuL; rw [if_neg h5, if_neg (fun hh => h7 hh.2)]
                rw [et, ed]
                first | trivial | (and_intros <;> first | exact True.intro | omega | rfl)
            · rename_i h6
              have h6 : ¬ n = 8 := fun e => by rw [e] at h6; cases h6
              have et : tuL n fw i = prL fw i := by unfold tuL; rw [if_neg h5, if_neg (fun hh => h6 hh.1)]
              rw [et, ed]
              first | trivial | (and_intros <;> first | exact True.intro | omega | rfl)
        · intro z hz'
          obtain rfl : z = i := by omega
          have ew : [ixor .u8 ((colL fw (z - n)).getD 0 0) ((tuL n fw z).getD 0 0), ixor .u8 ((colL fw (z - n)).getD 1 0) ((tuL n fw z).getD 1 0), ixor .u8 ((colL fw (z - n)).getD 2 0) ((tuL n fw z).getD 2 0), ixor .u8 ((colL fw (z - n)).getD 3 0) ((tuL n fw z).getD 3 0)] = colL fw z := by
            have wk : ∀ j, j < 4 → fw.getD (4 * z + j) 0 = ixor .u8 (fw.getD (4 * (z - n) + j) 0) ((tuL n fw z).getD j 0) := by
              intro j hj
              rw [hwd z j h hj]
              unfold wdL
              rw [if_neg (by omega), map_getD _ hj]
            have w0 := wk 0 (by omega)
            rw [Nat.add_zero, Nat.add_zero] at w0
            unfold colL
            rw [w0, wk 1 (by omega), wk 2 (by omega), wk 3 (by omega)]
            rfl
          have es := ch_succ (k := .u8) (n := 4) z fw
          rw [take_col (by rw [hfw.2]; omega)] at es
          simp only [ew, ← es]
          and_intros <;> first | exact True.intro | omega | exact u8c (by rw [Nat.add_sub_cancel]) | rfl
      · rename_i h
        have h : i = 4 * (n + 7) := by have := of_decide_eq_false h; omega
        subst h
        rfl
end Go.Proofs.Ytnadggcfdakpoaa
namespace Go.Proofs.Ytnadggcfdakpoaa
open Go Go.Vg
set_option maxRecDepth 100000 in
theorem m20b : Meets Try.prog 20 sp20b := by
  refine meets_of_owed (C := c20) ⟨tab_ok, lkS_ok ⟨m79, m80, m81, trivial⟩⟩ (by kernel_rfl) (by kernel_rfl : Try.prog.funcs[20]? = some Try.f20) (by kernel_rfl) (by kernel_rfl) (by kernel_rfl) _ ?_
  rintro _ ⟨key, rfl, hk, hN, hl⟩
  refine ⟨fun _ => rfl, fun _ => none, ?_⟩
  show owed c20 (fun _ => none) Try.f20 [.str key] (.tup [.val (.pointer none), i64 1])
  rw [vc20b]
  simp (decide := true) only [eq_self, true_and, and_true, ne_eq, not_false_eq_true]
  refine m3 ?_ ?_
  · intro _ _ _
    first | exact True.intro | rfl
  · intro hb
    exact absurd (by
      unfold okN
      refine Classical.byContradiction fun hc => hb ⟨bne_iff_ne.2 (by omega), bne_iff_ne.2 (by omega), bne_iff_ne.2 (by omega)⟩) hN
set_option maxRecDepth 100000 in
theorem m24 : Meets Try.prog 24 sp24 := by
  refine meets_of_owed (C := c24) ⟨tab_ok, fun f s h => by cases h⟩ (by kernel_rfl) (by kernel_rfl : Try.prog.funcs[24]? = some Try.f24) (by kernel_rfl) (by kernel_rfl) (by kernel_rfl) _ ?_
  rintro _ ⟨w, R, rfl, hw, hR⟩
  refine ⟨(fun h => by cases h), fun _ => none, ?_⟩
  show owed c24 (fun _ => none) Try.f24 [keyD w ((R : Nat) : Int)] (.slc 4 (chunks .u8 4 (4 * (((R : Nat) : Int).toNat + 1)) w))
  have w1 : IntKind.i64.wrap ((R : Int) + 1) = ((R + 1 : Nat) : Int) := sq (by omega)
  have w4 : IntKind.i64.wrap (4 * ((R + 1 : Nat) : Int)) = ((4 * (R + 1) : Nat) : Int) := by rw [show 4 * ((R + 1 : Nat) : Int) = ((4 * (R + 1) : Nat) : Int) by omega, wNi (by omega)]
  rw [vc24]
  simp only [w1, w4, Int.toNat_natCast, ch_len, List.drop_zero, Nat.sub_zero]
  and_intros <;> first | exact True.intro | omega | rfl | decide
theorem eqB_refl (l : List Int) : eqB l l = true := eqB_iff.2 rfl
theorem flW_take {V W : List D} (hV : okW V) (hW : okW W) {k : Nat} (h1 : k < V.length) (h2 : k < W.length) (d : D) (e : flW (V.take k) = flW (W.take k)) :
    (flW (V.take (k + 1)) = flW (W.take (k + 1)) ↔ arrOf (V.getD k d) = arrOf (W.getD k d)) := by
  have app : ∀ a b : List D, flW (a ++ b) = flW a ++ flW b := by
    intro a b
    induction a with
    | nil => rfl
    | cons x a ih => show arrOf x ++ flW (a ++ b) = arrOf x ++ flW a ++ flW b; rw [ih, List.append_assoc]
  have s1 : V.take (k + 1) = V.take k ++ [V.getD k d] := by
    rw [List.take_add_one, List.getD_eq_getElem?_getD, List.getElem?_eq_getElem h1]
    rfl
  have s2 : W.take (k + 1) = W.take k ++ [W.getD k d] := by
    rw [List.take_add_one, List.getD_eq_getElem?_getD, List.getElem?_eq_getElem h2]
    rfl
  rw [s1, s2, app, app, e]
  constructor
  · intro h
    have h' : arrOf (V.getD k d) ++ [] = arrOf (W.getD k d) ++ [] := List.append_cancel_left h
    rwa [List.append_nil, List.append_nil] at h'
  · intro h
    show flW (W.take k) ++ (arrOf (V.getD k d) ++ []) = flW (W.take k) ++ (arrOf (W.getD k d) ++ [])
    rw [h]
theorem okW_take {V : List D} (h : okW V) (k : Nat) : okW (V.take k) := fun d hd => h d (List.mem_of_mem_take hd)
theorem flW_pre {V W : List D} (hV : okW V) (hW : okW W) (hl : V.length = W.length) {k : Nat} (hk : k < V.length) (d : D) (h : arrOf (V.getD k d) ≠ arrOf (W.getD k d)) : flW V ≠ flW W := by
  intro e
  obtain ⟨l, e1, hl1⟩ := okW_get hV hk d
  obtain ⟨m, e2, hl2⟩ := okW_get hW (j := k) (by omega) d
  apply h
  rw [e1, e2]
  show l = m
  refine ext_getD hl1.2 hl2.2 fun j hj => ?_
  have a := flW_get hV hk hj d
  have b := flW_get hW (show k < W.length by omega) hj d
  rw [e1] at a
  rw [e2] at b
  rw [e] at a
  exact a.symm.trans b
set_option maxRecDepth 100000 in
theorem m23 : Meets Try.prog 23 sp23 := by
  refine meets_of_owed (C := c0) ⟨tab_ok, fun f s h => by cases h⟩ (by kernel_rfl) (by kernel_rfl : Try.prog.funcs[23]? = some Try.f23) (by kernel_rfl) (by kernel_rfl) (by kernel_rfl) _ ?_
  rintro _ ⟨V, W, rfl, hV, hW, hl⟩
  refine ⟨fun _ => rfl, inv23 V W, ?_⟩
  show owed c0 (inv23 V W) Try.f23 [.slc 4 V, .slc 4 W] (.val (.bool (eqB (flW V) (flW W))))
  rw [vc23]
  simp (decide := true) only [eq_self, true_and, and_true, ne_eq, not_false_eq_true]
  have l1 := flW_len hV
  have l2 := flW_len hW
  split
  · rename_i h
    have h := bne_iff_ne.1 h
    have : eqB (flW V) (flW W) = false := eqB_not.2 fun e => h (by have := congrArg List.length e; omega)
    rw [this]
  · rename_i h
    have h : V.length = W.length := by
      have : ((V.length : Int) != (W.length : Int)) = false := h
      have : (V.length : Int) = (W.length : Int) := by simpa using this
      omega
    refine ⟨by and_intros <;> first | exact True.intro | rfl | omega, ?_⟩
    intro k ⟨hk, he⟩
    split
    · rename_i h2
      have h2 : k < V.length := by have := of_decide_eq_true h2; omega
      simp only [Int.toNat_natCast]
      obtain ⟨l, e1, hl1⟩ := okW_get hV h2 (D.val (Value.bool false))
      obtain ⟨m, e2, hl2⟩ := okW_get hW (show k < W.length by omega) (D.val (Value.bool false))
      have ft := flW_take hV hW h2 (by omega) (D.val (Value.bool false)) he
      have fp := flW_pre hV hW h h2 (D.val (Value.bool false))
      rw [e1, e2] at ft fp
      rw [e1, e2]
      refine ⟨by and_intros <;> first | exact True.intro | rfl | omega | decide, by and_intros <;> first | exact True.intro | rfl | omega | decide, ?_⟩
      split
      · rename_i h3
        have h3 : ¬ l = m := fun e => by
          have h3' : (!eqB l m) = true := h3
          rw [e, eqB_refl] at h3'
          cases h3'
        have : eqB (flW V) (flW W) = false := eqB_not.2 (fp h3)
        rw [this]
      · rename_i h3
        have h3 : l = m := eqB_iff.1 (by
          have h3' : (!eqB l m) = false := h3
          cases hq : eqB l m
          · rw [hq] at h3'; cases h3'
          · rfl)
        rw [sq (x := k) (by omega)]
        simp only [Int.toNat_natCast]
        and_intros <;> first | exact True.intro | omega | exact ft.2 h3 | rfl
    · rename_i h2
      have h2 : k = V.length := by have := of_decide_eq_false h2; omega
      rw [List.take_of_length_le (by omega), List.take_of_length_le (by omega)] at he
      rw [he, eqB_refl]
end Go.Proofs.Ytnadggcfdakpoaa
namespace Go.Proofs.Ytnadggcfdakpoaa
open Go Go.Vg
set_option maxRecDepth 100000 in
theorem ok25  (d : D)  :
    (OkT tab 8 25 d) = (
 ∃ (l : List Int), d = D.ints IntKind.u8 l ∧ (∀ (z : Int), z ∈ l → (0 : Int) ≤ z ∧ z ≤ IntKind.u8.max) ∧ l.length ≤ (9223372036854775807 : Nat) ∧ l.length * (1 : Nat) ≤ (140737488351232 : Nat)) := by kernel_rfl
set_option maxRecDepth 100000 in
theorem ok38  (d : D)  :
    (OkT tab 8 38 d) = (
 ∃ (l : List Int), d = D.arr IntKind.u8 (16 : Nat) l ∧ l.length = (16 : Nat) ∧ ∀ (z : Int), z ∈ l → (0 : Int) ≤ z ∧ z ≤ IntKind.u8.max) := by kernel_rfl
theorem okW_ch {fw : List Int} (h : isB 240 fw) {c : Nat} (hc : c ≤ 60) : okW (chunks .u8 4 c fw) := by
  intro d hd
  obtain ⟨j, hj, rfl⟩ := List.getElem_of_mem hd
  rw [ch_len] at hj
  have := ch_get (k := .u8) (n := 4) (d := D.val (.bool false)) (l := fw) hj
  rw [List.getD_eq_getElem?_getD, List.getElem?_eq_getElem (by rw [ch_len]; exact hj)] at this
  have e : (chunks .u8 4 c fw)[j]'(by rw [ch_len]; exact hj) = b4 ((fw.drop (4 * j)).take 4) := this
  rw [e, take_col (by rw [h.2]; omega)]
  exact ⟨_, rfl, colL_ok h.1 _, rfl⟩
theorem flW_ch {fw : List Int} (h : isB 240 fw) {c : Nat} (hc : c ≤ 60) {m : Nat} (hm : m < 4 * c) : (flW (chunks .u8 4 c fw)).getD m 0 = fw.getD m 0 := by
  have := flW_get (okW_ch h hc) (j := m / 4) (k := m % 4) (by rw [ch_len]; omega) (by omega) (D.val (.bool false))
  rw [show 4 * (m / 4) + m % 4 = m by omega, ch_get (by omega)] at this
  rw [this]
  show ((fw.drop (4 * (m / 4))).take 4).getD (m % 4) 0 = _
  rw [getD_take (by omega), getD_drop, show 4 * (m / 4) + m % 4 = m by omega]
theorem adK_congr {w v b : List Int} {r : Nat} (h : ∀ m, m < 16 * (r + 1) → w.getD m 0 = v.getD m 0) : adK w r b = adK v r b := by
  refine ext_getD (n := 16) (adK_len _ _ _) (adK_len _ _ _) fun i hi => ?_
  rw [adK_get hi, adK_get hi, h _ (by omega)]
theorem enS_congr {w v b : List Int} {R : Nat} (h : ∀ m, m < 16 * (R + 1) → w.getD m 0 = v.getD m 0) : ∀ k, k ≤ R → enS w b R k = enS v b R k
  | 0, _ => adK_congr fun m hm => h m (by omega)
  | k + 1, hk => by rw [enS, enS, enS_congr h k (by omega), adK_congr fun m hm => h m (by omega)]
theorem deS_congr {w v b : List Int} {R : Nat} (h : ∀ m, m < 16 * (R + 1) → w.getD m 0 = v.getD m 0) : ∀ k, k ≤ R → deS w b R k = deS v b R k
  | 0, _ => rfl
  | k + 1, hk => by rw [deS, deS, deS_congr h k (by omega), adK_congr (r := R - k) fun m hm => h m (by omega)]
theorem enL_congr {w v b : List Int} {R : Nat} (h : ∀ m, m < 16 * (R + 1) → w.getD m 0 = v.getD m 0) : enL w R b = enL v R b := enS_congr h R (Nat.le_refl _)
theorem deL_congr {w v b : List Int} {R : Nat} (h : ∀ m, m < 16 * (R + 1) → w.getD m 0 = v.getD m 0) : deL w R b = deL v R b := by
  unfold deL
  rw [deS_congr h R (Nat.le_refl _), adK_congr (r := 0) fun m hm => h m (by omega)]
theorem okX_box : okX boxP boxU := by
  have e : boxP = boxL := opq_eq _
  refine ⟨⟨?_, by rw [e, boxL_len]⟩, ⟨?_, by unfold boxU; exact gub_len _ _⟩, fun a ha => ⟨boxP_get ha, boxU_get ha⟩⟩
  · rw [e]
    intro x hx
    obtain ⟨a, ha, rfl⟩ := List.mem_map.1 hx
    have := gbx_lt a
    omega
  · intro x hx
    obtain ⟨j, hj, rfl⟩ := List.getElem_of_mem hx
    have hl : boxU.length = 256 := by unfold boxU; exact gub_len _ _
    have := boxU_get (a := j) (by omega)
    rw [List.getD_eq_getElem?_getD, List.getElem?_eq_getElem hj] at this
    have h2 : boxU[j] = ((gux j : Nat) : Int) := this
    rw [h2]
    have := gux_lt (a := j) (by omega)
    omega
set_option linter.unusedVariables false in
theorem meets_or {P : Program} {f : FuncId} {s : Go.Vg.Spec} (p q : List D → Prop) (h1 : Meets P f ⟨p, s.f, s.flat, s.ps⟩) (h2 : Meets P f ⟨q, s.f, s.flat, s.ps⟩) (h : ∀ ds, s.pre ds → p ds ∨ q ds) : Meets P f s :=
  fun ds hp => (h ds hp).elim (h1 ds) (h2 ds)
end Go.Proofs.Ytnadggcfdakpoaa
namespace Go.Proofs.Ytnadggcfdakpoaa
open Go Go.Vg
def xoI (a b : List Int) (o i : Nat) : List Int := (List.range 16).map fun j => if j < i then ixor .u8 (a.getD j 0) (b.getD (o + j) 0) else a.getD j 0
def xoL (a b : List Int) (o : Nat) : List Int := xoI a b o 16
def padN (l : Nat) : Nat := 16 - l % 16
def padI (p : List Int) (i : Nat) : List Int := p ++ List.replicate i ((padN p.length : Nat) : Int)
def padL (p : List Int) : List Int := padI p (padN p.length)
def cbC (w : List Int) (R : Nat) (iv q : List Int) : Nat → List Int
  | 0 => iv
  | k + 1 => enL w R (xoL (cbC w R iv q k) q (16 * k))
def seL (w : List Int) (R : Nat) (iv q : List Int) : Nat → List Int
  | 0 => []
  | k + 1 => seL w R iv q k ++ cbC w R iv q (k + 1)
def bkL (s : List Int) (k : Nat) : List Int := (s.drop (16 * k)).take 16
def pvB (iv s : List Int) (k : Nat) : List Int := if k = 0 then iv else bkL s (k - 1)
def opD (w : List Int) (R : Nat) (iv s : List Int) (k : Nat) : List Int := xoL (deL w R (bkL s k)) (pvB iv s k) 0
def opL (w : List Int) (R : Nat) (iv s : List Int) : Nat → List Int
  | 0 => []
  | k + 1 => opL w R iv s k ++ opD w R iv s k
def seM (w : List Int) (R : Nat) (iv q : List Int) (k : Nat) : List Int := seL w R iv q k ++ q.drop (16 * k)
def opM (w : List Int) (R : Nat) (iv s : List Int) (k j : Nat) : List Int := opL w R iv s k ++ ((opD w R iv s k).take j ++ List.replicate (s.length - (16 * k + j)) 0)
def unN (l : List Int) : Nat := (l.getD (l.length - 1) 0).toNat
def tlO (l : List Int) (i : Nat) : Prop := ∀ j, j < i → l.getD (l.length - unN l + j) 0 = ((unN l : Nat) : Int)
def unO (l : List Int) : Prop := 1 ≤ unN l ∧ unN l ≤ 16 ∧ tlO l (unN l)
def okC (s : List Int) : Prop := 0 < s.length ∧ s.length % 16 = 0
def plO (w : List Int) (R : Nat) (iv s : List Int) : List Int := opL w R iv s (s.length / 16)
open Classical in
noncomputable def opnL (w : List Int) (R : Nat) (iv s : List Int) : List Int := if okC s ∧ unO (plO w R iv s) then (plO w R iv s).take (s.length - unN (plO w R iv s)) else []
open Classical in
noncomputable def opnE (w : List Int) (R : Nat) (iv s : List Int) : Int := if okC s then (if unO (plO w R iv s) then 0 else 4) else 1
def lenP (p : List Int) : Prop := p.length ≤ 140737488351232
def padK (p : List Int) : Nat := (padL p).length / 16
def sp96 : Go.Vg.Spec := ⟨fun ds => ∃ s, ds = [.str s] ∧ okb s ∧ 16 ≤ s.length, fun ds => b16 ((bytesD (ds.headD default)).take 16), true, [9]⟩
def sp97 : Go.Vg.Spec := ⟨fun ds => ∃ a b, ds = [b16 a, b16 b] ∧ isB 16 a ∧ isB 16 b, fun ds => b16 (xoL (arrOf (ds.headD default)) (arrOf (ds.getD 1 default)) 0), true, [38, 38]⟩
noncomputable def sp29 : Go.Vg.Spec := ⟨fun ds => ∃ w R iv s, ds = [keyD w ((R : Nat) : Int), b16 iv, .ints .u8 s] ∧ isB 240 w ∧ R ≤ 14 ∧ isB 16 iv ∧ okb s ∧ lenP s,
  fun ds => .tup [.ints .u8 (opnL (kwL (ds.headD default)) (krI (ds.headD default)).toNat (arrOf (ds.getD 1 default)) (intsOf (ds.getD 2 default))), .val (.int .i64 (opnE (kwL (ds.headD default)) (krI (ds.headD default)).toNat (arrOf (ds.getD 1 default)) (intsOf (ds.getD 2 default))))], false, [42, 38, 25]⟩
noncomputable def sp30 : Go.Vg.Spec := ⟨fun ds => ∃ W bx ux iv s, ds = [.ref (cipD W bx ux), b16 iv, .str s] ∧ okW W ∧ 4 ≤ W.length ∧ W.length ≤ 60 ∧ okX bx ux ∧ isB 16 iv ∧ okb s ∧ lenP s,
  fun ds => .tup [.str (opnL (cwL (ds.headD default)) (cnN (ds.headD default) / 4 - 1) (arrOf (ds.getD 1 default)) (bytesD (ds.getD 2 default))), .val (.int .i64 (opnE (cwL (ds.headD default)) (cnN (ds.headD default) / 4 - 1) (arrOf (ds.getD 1 default)) (bytesD (ds.getD 2 default))))], true, [45, 38, 9]⟩
def sp31 : Go.Vg.Spec := ⟨fun ds => ∃ w R iv p, ds = [keyD w ((R : Nat) : Int), b16 iv, .ints .u8 p] ∧ isB 240 w ∧ R ≤ 14 ∧ isB 16 iv ∧ okb p ∧ lenP p,
  fun ds => .ints .u8 (seL (kwL (ds.headD default)) (krI (ds.headD default)).toNat (arrOf (ds.getD 1 default)) (padL (intsOf (ds.getD 2 default))) (padK (intsOf (ds.getD 2 default)))), false, [42, 38, 25]⟩
def sp32 : Go.Vg.Spec := ⟨fun ds => ∃ W bx ux iv p, ds = [.ref (cipD W bx ux), b16 iv, .str p] ∧ okW W ∧ 4 ≤ W.length ∧ W.length ≤ 60 ∧ okX bx ux ∧ isB 16 iv ∧ okb p ∧ lenP p,
  fun ds => .str (seL (cwL (ds.headD default)) (cnN (ds.headD default) / 4 - 1) (arrOf (ds.getD 1 default)) (padL (bytesD (ds.getD 2 default))) (padK (bytesD (ds.getD 2 default)))), true, [45, 38, 9]⟩
def c96 : Ctx := ⟨tab, lkS [], [], []⟩
def c29 : Ctx := ⟨tab, lkS [(27, sp27)], [], []⟩
def c30 : Ctx := ⟨tab, lkS [(96, sp96), (97, sp97), (28, sp28)], [], [300037]⟩
def c31 : Ctx := ⟨tab, lkS [(25, sp25)], [19], []⟩
def c32 : Ctx := ⟨tab, lkS [(96, sp96), (97, sp97), (26, sp26)], [], []⟩
def slotS (s : Go.Vg.St) (i : Nat) : List Int := match s.T.getD i .any with
  | .d (.str l) => l
  | _ => []
def inv96 (p : List Int) : Nat → Option Inv
  | 3 => some ⟨Nat, fun i => [(5, .d (i64n i))], fun i => [(3, .fix (b16 (p.take i ++ List.replicate (16 - i) 0)))], fun s => (slotN s 5).toNat, fun _ i => i ≤ 16, fun i => 16 - i⟩
  | _ => none
def inv97 (a b : List Int) : Nat → Option Inv
  | 2 => some ⟨Nat, fun i => [(6, .d (i64n i))], fun i => [(2, .fix (b16 (xoI a b 0 i)))], fun s => (slotN s 6).toNat, fun _ i => i ≤ 16, fun i => 16 - i⟩
  | _ => none
def inv31 (w : List Int) (R : Nat) (iv p : List Int) : Nat → Option Inv
  | 5 => some ⟨Nat, fun i => [(24, .d (i64n i)), (8, .row 19), (22, .any)], fun i => [(19, .row 5 (.ints .u8 (padI p i)))], fun s => (slotN s 24).toNat, fun _ i => i ≤ padN p.length, fun i => padN p.length - i⟩
  | 9 => some ⟨Nat, fun k => [(9, .d (i64n (16 * k)))], fun k => [(19, .row 5 (.ints .u8 (seM w R iv (padL p) k))), (4, .fix (b16 (cbC w R iv (padL p) k)))], fun s => (slotN s 9).toNat / 16, fun _ k => k ≤ padK p, fun k => padK p - k⟩
  | 12 => some ⟨Nat × Nat, fun x => [(38, .d (i64n x.1))], fun x => [(4, .fix (b16 (xoI (cbC w R iv (padL p) x.2) (padL p) (16 * x.2) x.1)))], fun s => ((slotN s 38).toNat, (slotN s 9).toNat / 16), fun s x => x.1 ≤ 16 ∧ ((16 * x.2 : Nat) : Int) = slotN s 9, fun x => 16 - x.1⟩
  | _ => none
def inv32 (w : List Int) (R : Nat) (iv p : List Int) : Nat → Option Inv
  | 3 => some ⟨Nat, fun i => [(14, .d (i64n i)), (2, .d (.str (padI p i)))], fun _ => [], fun s => (slotN s 14).toNat, fun _ i => i ≤ padN p.length, fun i => padN p.length - i⟩
  | 7 => some ⟨Nat, fun k => [(2, .d (.str ((padL p).drop (16 * k)))), (8, .d (.str (seL w R iv (padL p) k)))], fun k => [(4, .fix (b16 (cbC w R iv (padL p) k)))], fun s => (slotS s 8).length / 16, fun _ k => k ≤ padK p, fun k => padK p - k⟩
  | _ => none
def inv29 (w : List Int) (R : Nat) (iv s : List Int) : Nat → Option Inv
  | 5 => some ⟨Nat, fun k => [(9, .d (i64n (16 * k)))], fun k => [(27, .fix (.arr .u8 s.length (opM w R iv s k 0))), (4, .fix (b16 (pvB iv s k)))], fun s => (slotN s 9).toNat / 16, fun _ k => k ≤ s.length / 16, fun k => s.length / 16 - k⟩
  | 11 => some ⟨Nat × Nat, fun x => [(42, .d (i64n x.1))], fun x => [(27, .fix (.arr .u8 s.length (opM w R iv s x.2 x.1)))], fun s => ((slotN s 42).toNat, (slotN s 9).toNat / 16), fun s x => x.1 ≤ 16 ∧ ((16 * x.2 : Nat) : Int) = slotN s 9, fun x => 16 - x.1⟩
  | 20 => some ⟨Nat, fun i => [(79, .d (i64n i))], fun _ => [], fun s => (slotN s 79).toNat, fun _ i => i ≤ unN (plO w R iv s) ∧ tlO (plO w R iv s) i, fun i => unN (plO w R iv s) - i⟩
  | _ => none
def inv30 (w : List Int) (R : Nat) (iv s : List Int) : Nat → Option Inv
  | 4 => some ⟨Nat, fun k => [(2, .d (.str (s.drop (16 * k)))), (8, .d (.str (opL w R iv s k)))], fun k => [(4, .fix (b16 (pvB iv s k)))], fun s => (slotS s 8).length / 16, fun _ k => k ≤ s.length / 16, fun k => s.length / 16 - k⟩
  | 13 => some ⟨Nat, fun i => [(12, .d (i64n (s.length - unN (plO w R iv s) + i)))], fun _ => [], fun st => (slotN st 12).toNat - (s.length - unN (plO w R iv s)), fun _ i => i ≤ unN (plO w R iv s) ∧ tlO (plO w R iv s) i, fun i => unN (plO w R iv s) - i⟩
  | _ => none
--KEEP List.replicate HXor.hXor Go.Vg.eqB Go.Vg.opq boxP Go.Vg.gm Go.Vg.gpw Go.Vg.giv Go.Vg.rl8 Go.Vg.gbx Go.Vg.gux Go.Vg.gcl Go.Vg.gce Go.Vg.gub Go.Vg.gia Go.Vg.boxL Go.Vg.gax Go.Vg.gan Go.Vg.gsb Go.Vg.clm Go.Vg.red pwL okb sbI suI selL s4L adK colL eaL shL usL trL rowL adR mxR flW okW isB z16 enS enL deS deL okX shR usR Go.Vg.chunks z240 prL trn tuL wdL fwS fwL okN kexW kexR kexE boxU
--KEEP xoI xoL padN padI padL cbC seL bkL pvB opD opL seM opM unN tlO unO okC plO opnL opnE lenP padK
set_option maxRecDepth 100000 in
theorem vc96  (s : List Int) (F : D)  :
    (owed c96 (inv96 s) Try.f96 [.str s] F) = (
 (True ∧ (16 : Nat) ≠ (0 : Nat)) ∧
 (True ∧ (16 : Nat) ≠ (0 : Nat)) ∧
 True ∧
 (((AV.d (D.val (Value.int IntKind.i64 (0 : Int))) = AV.d (D.val (Value.int IntKind.i64 (↑(Int.toNat (0 : Int)) : Int))) ∧ True) ∧
 (some (Blk.fix (D.arr IntKind.u8 (16 : Nat) [(0 : Int), (0 : Int), (0 : Int), (0 : Int), (0 : Int), (0 : Int), (0 : Int), (0 : Int), (0 : Int), (0 : Int), (0 : Int), (0 : Int), (0 : Int), (0 : Int), (0 : Int), (0 : Int)])) =
 some (Blk.fix (D.arr IntKind.u8 (16 : Nat) [(0 : Int), (0 : Int), (0 : Int), (0 : Int), (0 : Int), (0 : Int), (0 : Int), (0 : Int), (0 : Int), (0 : Int), (0 : Int), (0 : Int), (0 : Int), (0 : Int), (0 : Int), (0 : Int)])) ∧
 some (Blk.fix (D.arr IntKind.u8 (16 : Nat) [(0 : Int), (0 : Int), (0 : Int), (0 : Int), (0 : Int), (0 : Int), (0 : Int), (0 : Int), (0 : Int), (0 : Int), (0 : Int), (0 : Int), (0 : Int), (0 : Int), (0 : Int), (0 : Int)])) =
 some (Blk.fix (D.arr IntKind.u8 (16 : Nat) (List.take (Int.toNat (0 : Int)) s ++ [(0 : Int), (0 : Int), (0 : Int), (0 : Int), (0 : Int), (0 : Int), (0 : Int), (0 : Int), (0 : Int), (0 : Int), (0 : Int), (0 : Int), (0 : Int), (0 : Int), (0 : Int), (0 : Int)]))) ∧
 True) ∧
 true = true) ∧
 Int.toNat (0 : Int) ≤ (16 : Nat)) ∧
 ∀ (x : Nat),
 x ≤ (16 : Nat) →
 true = true ∧
 True ∧
 match decide ((↑x : Int) < (16 : Int)) with
 | true =>
  True ∧
  True ∧
  True ∧
  True ∧
  True ∧
  ((0 : Int) ≤ (↑x : Int) ∧ (↑x : Int) < (↑s.length : Int)) ∧
  ((0 : Int) ≤ (↑x : Int) ∧ (↑x : Int) < (↑(16 : Nat) : Int) ∧ (16 : Nat) = (16 : Nat) ∧ (1 : Nat) = (1 : Nat)) ∧
  (((↑x : Int).toNat < (16 : Nat) ∧ ([] : List Nat) = [] ∧ true = true) ∧ (1 : Nat) ≠ (0 : Nat) ∧ (1 : Nat) = (1 : Nat) ∧ false = false) ∧
  True ∧
  True ∧
  ((AV.d (D.val (Value.int IntKind.i64 (IntKind.i64.wrap ((↑x : Int) + (1 : Int))))) = AV.d (D.val (Value.int IntKind.i64 (↑(IntKind.i64.wrap ((↑x : Int) + (1 : Int))).toNat : Int))) ∧ True) ∧
  (some (Blk.fix (D.arr IntKind.u8 (16 : Nat) [(0 : Int), (0 : Int), (0 : Int), (0 : Int), (0 : Int), (0 : Int), (0 : Int), (0 : Int), (0 : Int), (0 : Int), (0 : Int), (0 : Int), (0 : Int), (0 : Int), (0 : Int), (0 : Int)])) =
  some (Blk.fix (D.arr IntKind.u8 (16 : Nat) [(0 : Int), (0 : Int), (0 : Int), (0 : Int), (0 : Int), (0 : Int), (0 : Int), (0 : Int), (0 : Int), (0 : Int), (0 : Int), (0 : Int), (0 : Int), (0 : Int), (0 : Int), (0 : Int)])) ∧
  some (Blk.fix (D.arr IntKind.u8 (16 : Nat) ((List.take x s ++ List.replicate ((16 : Nat) - x) (0 : Int)).set (↑x : Int).toNat (s.getD (↑x : Int).toNat (0 : Int))))) =
  some (Blk.fix (D.arr IntKind.u8 (16 : Nat) (List.take (IntKind.i64.wrap ((↑x : Int) + (1 : Int))).toNat s ++ List.replicate ((16 : Nat) - (IntKind.i64.wrap ((↑x : Int) + (1 : Int))).toNat) (0 : Int)))) ∧
  True) ∧
  true = true) ∧
  (IntKind.i64.wrap ((↑x : Int) + (1 : Int))).toNat ≤ (16 : Nat) ∧ (16 : Nat) - (IntKind.i64.wrap ((↑x : Int) + (1 : Int))).toNat < (16 : Nat) - x
 | false => ((16 : Nat) ≠ (0 : Nat) ∧ (16 : Nat) = (16 : Nat) ∧ true = true) ∧ (Sk.arr (16 : Nat) = Sk.arr (16 : Nat) ∧ (16 : Nat) ≠ (0 : Nat) ∧ (16 : Nat) = (16 : Nat) ∧ false = false) ∧ (((16 : Nat) ≠ (0 : Nat) ∧ (16 : Nat) = (16 : Nat) ∧ true = true) ∧ True) ∧ D.arr IntKind.u8 (16 : Nat) (List.take x s ++ List.replicate ((16 : Nat) - x) (0 : Int)) = F) := by kernel_rfl
set_option maxRecDepth 100000 in
theorem vc97  (a b : List Int) (F : D)  :
    (owed c96 (inv97 a b) Try.f97 [b16 a, b16 b] F) = (
 (True ∧ false = false) ∧
 (True ∧ false = false) ∧
 (True ∧ (16 : Nat) ≠ (0 : Nat)) ∧
 True ∧
 (((AV.d (D.val (Value.int IntKind.i64 (0 : Int))) = AV.d (D.val (Value.int IntKind.i64 (↑(Int.toNat (0 : Int)) : Int))) ∧ True) ∧
 (some (Blk.fix (D.arr IntKind.u8 (16 : Nat) a)) = some (Blk.fix (D.arr IntKind.u8 (16 : Nat) (xoI a b (0 : Nat) (Int.toNat (0 : Int))))) ∧
 some (Blk.fix (D.arr IntKind.u8 (16 : Nat) b)) = some (Blk.fix (D.arr IntKind.u8 (16 : Nat) b)) ∧
 some (Blk.fix (D.arr IntKind.u8 (16 : Nat) [(0 : Int), (0 : Int), (0 : Int), (0 : Int), (0 : Int), (0 : Int), (0 : Int), (0 : Int), (0 : Int), (0 : Int), (0 : Int), (0 : Int), (0 : Int), (0 : Int), (0 : Int), (0 : Int)])) =
 some (Blk.fix (D.arr IntKind.u8 (16 : Nat) [(0 : Int), (0 : Int), (0 : Int), (0 : Int), (0 : Int), (0 : Int), (0 : Int), (0 : Int), (0 : Int), (0 : Int), (0 : Int), (0 : Int), (0 : Int), (0 : Int), (0 : Int), (0 : Int)])) ∧
 True) ∧
 true = true) ∧
 Int.toNat (0 : Int) ≤ (16 : Nat)) ∧
 ∀ (x : Nat),
 x ≤ (16 : Nat) →
 true = true ∧
 True ∧
 match decide ((↑x : Int) < (16 : Int)) with
 | true =>
  True ∧
  True ∧
  True ∧
  ((0 : Int) ≤ (↑x : Int) ∧ (↑x : Int) < (↑(16 : Nat) : Int) ∧ (16 : Nat) = (16 : Nat) ∧ (1 : Nat) = (1 : Nat)) ∧
  ((1 : Nat) ≠ (0 : Nat) ∧ (1 : Nat) = (1 : Nat) ∧ false = false) ∧
  True ∧
  ((0 : Int) ≤ (↑x : Int) ∧ (↑x : Int) < (↑(16 : Nat) : Int) ∧ (16 : Nat) = (16 : Nat) ∧ (1 : Nat) = (1 : Nat)) ∧
  ((1 : Nat) ≠ (0 : Nat) ∧ (1 : Nat) = (1 : Nat) ∧ false = false) ∧
  True ∧
  ((0 : Int) ≤ (↑x : Int) ∧ (↑x : Int) < (↑(16 : Nat) : Int) ∧ (16 : Nat) = (16 : Nat) ∧ (1 : Nat) = (1 : Nat)) ∧
  (((↑x : Int).toNat < (16 : Nat) ∧ ([] : List Nat) = [] ∧ true = true) ∧ (1 : Nat) ≠ (0 : Nat) ∧ (1 : Nat) = (1 : Nat) ∧ false = false) ∧
  True ∧
  True ∧
  ((AV.d (D.val (Value.int IntKind.i64 (IntKind.i64.wrap ((↑x : Int) + (1 : Int))))) = AV.d (D.val (Value.int IntKind.i64 (↑(IntKind.i64.wrap ((↑x : Int) + (1 : Int))).toNat : Int))) ∧ True) ∧
  (some (Blk.fix (D.arr IntKind.u8 (16 : Nat) ((xoI a b (0 : Nat) x).set (↑x : Int).toNat (ixor IntKind.u8 ((xoI a b (0 : Nat) x).getD (↑x : Int).toNat (0 : Int)) (b.getD (↑x : Int).toNat (0 : Int)))))) = some (Blk.fix (D.arr IntKind.u8 (16 : Nat) (xoI a b (0 : Nat) (IntKind.i64.wrap ((↑x : Int) + (1 : Int))).toNat))) ∧
  some (Blk.fix (D.arr IntKind.u8 (16 : Nat) b)) = some (Blk.fix (D.arr IntKind.u8 (16 : Nat) b)) ∧
  some (Blk.fix (D.arr IntKind.u8 (16 : Nat) [(0 : Int), (0 : Int), (0 : Int), (0 : Int), (0 : Int), (0 : Int), (0 : Int), (0 : Int), (0 : Int), (0 : Int), (0 : Int), (0 : Int), (0 : Int), (0 : Int), (0 : Int), (0 : Int)])) =
  some (Blk.fix (D.arr IntKind.u8 (16 : Nat) [(0 : Int), (0 : Int), (0 : Int), (0 : Int), (0 : Int), (0 : Int), (0 : Int), (0 : Int), (0 : Int), (0 : Int), (0 : Int), (0 : Int), (0 : Int), (0 : Int), (0 : Int), (0 : Int)])) ∧
  True) ∧
  true = true) ∧
  (IntKind.i64.wrap ((↑x : Int) + (1 : Int))).toNat ≤ (16 : Nat) ∧ (16 : Nat) - (IntKind.i64.wrap ((↑x : Int) + (1 : Int))).toNat < (16 : Nat) - x
 | false => ((16 : Nat) ≠ (0 : Nat) ∧ (16 : Nat) = (16 : Nat) ∧ true = true) ∧ (Sk.arr (16 : Nat) = Sk.arr (16 : Nat) ∧ (16 : Nat) ≠ (0 : Nat) ∧ (16 : Nat) = (16 : Nat) ∧ false = false) ∧ (((16 : Nat) ≠ (0 : Nat) ∧ (16 : Nat) = (16 : Nat) ∧ true = true) ∧ True) ∧ D.arr IntKind.u8 (16 : Nat) (xoI a b (0 : Nat) x) = F) := by kernel_rfl
set_option maxRecDepth 100000 in
theorem vc29  (w : List Int) (R : Nat) (iv s : List Int) (F : D)  :
    (owed c29 (inv29 w R iv s) Try.f29 [keyD w ((R : Nat) : Int), b16 iv, .ints .u8 s] F) = (
 (True ∧ false = false) ∧
 (True ∧ false = false) ∧
 True ∧
 True ∧
 True ∧
 True ∧
 True ∧
 True ∧
 match (↑s.length : Int) == (0 : Int) with
 | true => True ∧ True ∧ True ∧ (false = false ∧ false = false ∧ True) ∧ D.tup [D.ints IntKind.u8 [], D.val (Value.int IntKind.i64 (1 : Int))] = F
 | false =>
  True ∧
  True ∧
  (16 : Int) ≠ (0 : Int) ∧
  True ∧
  True ∧
  match (↑s.length : Int).tmod (16 : Int) != (0 : Int) with
  | true => True ∧ True ∧ (false = false ∧ false = false ∧ True) ∧ D.tup [D.ints IntKind.u8 [], D.val (Value.int IntKind.i64 (1 : Int))] = F
  | false =>
   True ∧
   True ∧
   ((0 : Int) ≤ (↑s.length : Int) ∧ (↑s.length : Int) = (↑s.length : Int) ∧ (↑s.length : Int) ≤ (281474976710656 : Int) ∧ (↑(1 : Nat) : Int) * (↑s.length : Int) ≤ (281474976710656 : Int) ∧ (1 : Nat) = (1 : Nat)) ∧
   True ∧
   True ∧
   (((AV.d (D.val (Value.int IntKind.i64 (0 : Int))) = AV.d (D.val (Value.int IntKind.i64 (↑(0 : Nat) : Int))) ∧ True) ∧
   (some (Blk.fix (D.st [D.arr IntKind.u8 (240 : Nat) w, D.val (Value.int IntKind.i64 (↑R : Int))])) = some (Blk.fix (D.st [D.arr IntKind.u8 (240 : Nat) w, D.val (Value.int IntKind.i64 (↑R : Int))])) ∧
   some (Blk.fix (D.arr IntKind.u8 (16 : Nat) iv)) = some (Blk.fix (D.arr IntKind.u8 (16 : Nat) (pvB iv s (0 / 16 : Nat)))) ∧ some (Blk.fix (D.arr IntKind.u8 (↑s.length : Int).toNat (List.replicate (↑s.length : Int).toNat (0 : Int)))) = some (Blk.fix (D.arr IntKind.u8 s.length (opM w R iv s (0 / 16 : Nat) (0 : Nat)))) ∧ True) ∧
   true = true) ∧
   (0 / 16 : Nat) ≤ s.length / (16 : Nat)) ∧
   ∀ (x : Nat),
   x ≤ s.length / (16 : Nat) →
   true = true ∧
   True ∧
   True ∧
   True ∧
   True ∧
   match decide ((↑((16 : Nat) * x) : Int) < (↑s.length : Int)) with
   | true =>
    (True ∧ (16 : Nat) ≠ (0 : Nat)) ∧
    ((0 : Int) ≤ (0 : Int) ∧ (0 : Int) ≤ (↑(16 : Nat) : Int) ∧ (↑(16 : Nat) : Int) ≤ (↑(16 : Nat) : Int) ∧ (16 : Nat) = (16 : Nat) ∧ (1 : Nat) = (1 : Nat)) ∧
    True ∧
    True ∧
    ((0 : Int) ≤ (↑((16 : Nat) * x) : Int) ∧ (↑((16 : Nat) * x) : Int) ≤ (↑s.length : Int) ∧ (↑s.length : Int) ≤ (↑s.length : Int) ∧ (1 : Nat) = (1 : Nat)) ∧
    (IntKind.u8 = IntKind.u8 ∧ (1 : Nat) = (1 : Nat)) ∧
    ((241 : Nat) ≠ (0 : Nat) ∧ (241 : Nat) = (241 : Nat) ∧ true = true) ∧
    ((16 : Nat) ≠ (0 : Nat) ∧ (16 : Nat) = (16 : Nat) ∧ true = true) ∧
    (∃ (w_1 : List Int),
    ∃ (R_1 : Nat),
    ∃ (b : List Int),
    [D.st [D.arr IntKind.u8 (240 : Nat) w, D.val (Value.int IntKind.i64 (↑R : Int))],
    D.arr IntKind.u8 (16 : Nat)
    (List.take ((List.drop (↑((16 : Nat) * x) : Int).toNat (List.take (↑s.length : Int).toNat s)).length.min ((↑(16 : Nat) : Int).toNat - (0 : Nat))) (List.drop (↑((16 : Nat) * x) : Int).toNat (List.take (↑s.length : Int).toNat s)) ++
    List.drop ((0 : Nat) + (List.drop (↑((16 : Nat) * x) : Int).toNat (List.take (↑s.length : Int).toNat s)).length.min ((↑(16 : Nat) : Int).toNat - (0 : Nat)))
    [(0 : Int), (0 : Int), (0 : Int), (0 : Int), (0 : Int), (0 : Int), (0 : Int), (0 : Int), (0 : Int), (0 : Int), (0 : Int), (0 : Int), (0 : Int), (0 : Int), (0 : Int), (0 : Int)])] =
    [D.st [D.arr IntKind.u8 (240 : Nat) w_1, D.val (Value.int IntKind.i64 (↑R_1 : Int))], D.arr IntKind.u8 (16 : Nat) b] ∧
    isB (240 : Nat) w_1 ∧ isB (16 : Nat) b ∧ R_1 ≤ (14 : Nat)) ∧
    (True ∧ (16 : Nat) ≠ (0 : Nat)) ∧
    (Sk.arr (16 : Nat) = Sk.arr (16 : Nat) ∧ (16 : Nat) ≠ (0 : Nat) ∧ (16 : Nat) = (16 : Nat) ∧ false = false) ∧
    True ∧
    (((AV.d (D.val (Value.int IntKind.i64 (0 : Int))) = AV.d (D.val (Value.int IntKind.i64 (↑(0 : Nat) : Int))) ∧ True) ∧
    (some (Blk.fix (D.st [D.arr IntKind.u8 (240 : Nat) w, D.val (Value.int IntKind.i64 (↑R : Int))])) = some (Blk.fix (D.st [D.arr IntKind.u8 (240 : Nat) w, D.val (Value.int IntKind.i64 (↑R : Int))])) ∧
    some (Blk.fix (D.arr IntKind.u8 (16 : Nat) (pvB iv s x))) = some (Blk.fix (D.arr IntKind.u8 (16 : Nat) (pvB iv s x))) ∧
    some
    (Blk.fix
    (D.arr IntKind.u8 (16 : Nat)
    (List.take ((List.drop (↑((16 : Nat) * x) : Int).toNat (List.take (↑s.length : Int).toNat s)).length.min ((↑(16 : Nat) : Int).toNat - (0 : Nat))) (List.drop (↑((16 : Nat) * x) : Int).toNat (List.take (↑s.length : Int).toNat s)) ++
    List.drop ((0 : Nat) + (List.drop (↑((16 : Nat) * x) : Int).toNat (List.take (↑s.length : Int).toNat s)).length.min ((↑(16 : Nat) : Int).toNat - (0 : Nat)))
    [(0 : Int), (0 : Int), (0 : Int), (0 : Int), (0 : Int), (0 : Int), (0 : Int), (0 : Int), (0 : Int), (0 : Int), (0 : Int), (0 : Int), (0 : Int), (0 : Int), (0 : Int), (0 : Int)]))) =
    some
    (Blk.fix
    (D.arr IntKind.u8 (16 : Nat)
    (List.take ((List.drop (↑((16 : Nat) * x) : Int).toNat (List.take (↑s.length : Int).toNat s)).length.min ((↑(16 : Nat) : Int).toNat - (0 : Nat))) (List.drop (↑((16 : Nat) * x) : Int).toNat (List.take (↑s.length : Int).toNat s)) ++
    List.drop ((0 : Nat) + (List.drop (↑((16 : Nat) * x) : Int).toNat (List.take (↑s.length : Int).toNat s)).length.min ((↑(16 : Nat) : Int).toNat - (0 : Nat)))
    [(0 : Int), (0 : Int), (0 : Int), (0 : Int), (0 : Int), (0 : Int), (0 : Int), (0 : Int), (0 : Int), (0 : Int), (0 : Int), (0 : Int), (0 : Int), (0 : Int), (0 : Int), (0 : Int)]))) ∧
    some
    (Blk.fix
    (D.arr IntKind.u8 (16 : Nat)
    (deL w (↑R : Int).toNat
    (List.take ((List.drop (↑((16 : Nat) * x) : Int).toNat (List.take (↑s.length : Int).toNat s)).length.min ((↑(16 : Nat) : Int).toNat - (0 : Nat))) (List.drop (↑((16 : Nat) * x) : Int).toNat (List.take (↑s.length : Int).toNat s)) ++
    List.drop ((0 : Nat) + (List.drop (↑((16 : Nat) * x) : Int).toNat (List.take (↑s.length : Int).toNat s)).length.min ((↑(16 : Nat) : Int).toNat - (0 : Nat)))
    [(0 : Int), (0 : Int), (0 : Int), (0 : Int), (0 : Int), (0 : Int), (0 : Int), (0 : Int), (0 : Int), (0 : Int), (0 : Int), (0 : Int), (0 : Int), (0 : Int), (0 : Int), (0 : Int)])))) =
    some
    (Blk.fix
    (D.arr IntKind.u8 (16 : Nat)
    (deL w (↑R : Int).toNat
    (List.take ((List.drop (↑((16 : Nat) * x) : Int).toNat (List.take (↑s.length : Int).toNat s)).length.min ((↑(16 : Nat) : Int).toNat - (0 : Nat))) (List.drop (↑((16 : Nat) * x) : Int).toNat (List.take (↑s.length : Int).toNat s)) ++
    List.drop ((0 : Nat) + (List.drop (↑((16 : Nat) * x) : Int).toNat (List.take (↑s.length : Int).toNat s)).length.min ((↑(16 : Nat) : Int).toNat - (0 : Nat)))
    [(0 : Int), (0 : Int), (0 : Int), (0 : Int), (0 : Int), (0 : Int), (0 : Int), (0 : Int), (0 : Int), (0 : Int), (0 : Int), (0 : Int), (0 : Int), (0 : Int), (0 : Int), (0 : Int)])))) ∧
    some (Blk.fix (D.arr IntKind.u8 s.length (opM w R iv s x (0 : Nat)))) = some (Blk.fix (D.arr IntKind.u8 s.length (opM w R iv s ((↑((16 : Nat) * x) : Int).toNat / (16 : Nat)) (0 : Nat)))) ∧ True) ∧
    true = true) ∧
    (0 : Nat) ≤ (16 : Nat) ∧ (↑((16 : Nat) * ((↑((16 : Nat) * x) : Int).toNat / (16 : Nat))) : Int) = (↑((16 : Nat) * x) : Int)) ∧
    ∀ (x_1 : Nat × Nat),
    x_1.fst ≤ (16 : Nat) ∧ (↑((16 : Nat) * x_1.snd) : Int) = (↑((16 : Nat) * x) : Int) →
    true = true ∧
    True ∧
    match decide ((↑x_1.fst : Int) < (16 : Int)) with
    | true =>
     True ∧
     True ∧
     True ∧
     True ∧
     True ∧
     True ∧
     True ∧
     ((0 : Int) ≤ (↑x_1.fst : Int) ∧ (↑x_1.fst : Int) < (↑(16 : Nat) : Int) ∧ (16 : Nat) = (16 : Nat) ∧ (1 : Nat) = (1 : Nat)) ∧
     ((1 : Nat) ≠ (0 : Nat) ∧ (1 : Nat) = (1 : Nat) ∧ false = false) ∧
     True ∧
     ((0 : Int) ≤ (↑x_1.fst : Int) ∧ (↑x_1.fst : Int) < (↑(16 : Nat) : Int) ∧ (16 : Nat) = (16 : Nat) ∧ (1 : Nat) = (1 : Nat)) ∧
     ((1 : Nat) ≠ (0 : Nat) ∧ (1 : Nat) = (1 : Nat) ∧ false = false) ∧
     True ∧
     ((0 : Int) ≤ IntKind.i64.wrap ((↑((16 : Nat) * x) : Int) + (↑x_1.fst : Int)) ∧ IntKind.i64.wrap ((↑((16 : Nat) * x) : Int) + (↑x_1.fst : Int)) < (↑(↑s.length : Int).toNat : Int) ∧ (1 : Nat) = (1 : Nat)) ∧
     (((0 : Nat) + (IntKind.i64.wrap ((↑((16 : Nat) * x) : Int) + (↑x_1.fst : Int))).toNat < s.length ∧ ([] : List Nat) = [] ∧ true = true) ∧ (1 : Nat) ≠ (0 : Nat) ∧ (1 : Nat) = (1 : Nat) ∧ false = false) ∧
     True ∧
     True ∧
     ((AV.d (D.val (Value.int IntKind.i64 (IntKind.i64.wrap ((↑x_1.fst : Int) + (1 : Int))))) = AV.d (D.val (Value.int IntKind.i64 (↑(IntKind.i64.wrap ((↑x_1.fst : Int) + (1 : Int))).toNat : Int))) ∧ True) ∧
     (some (Blk.fix (D.st [D.arr IntKind.u8 (240 : Nat) w, D.val (Value.int IntKind.i64 (↑R : Int))])) = some (Blk.fix (D.st [D.arr IntKind.u8 (240 : Nat) w, D.val (Value.int IntKind.i64 (↑R : Int))])) ∧
     some (Blk.fix (D.arr IntKind.u8 (16 : Nat) (pvB iv s x))) = some (Blk.fix (D.arr IntKind.u8 (16 : Nat) (pvB iv s x))) ∧
     some
     (Blk.fix
     (D.arr IntKind.u8 (16 : Nat)
     (List.take ((List.drop (↑((16 : Nat) * x) : Int).toNat (List.take (↑s.length : Int).toNat s)).length.min ((↑(16 : Nat) : Int).toNat - (0 : Nat))) (List.drop (↑((16 : Nat) * x) : Int).toNat (List.take (↑s.length : Int).toNat s)) ++
     List.drop ((0 : Nat) + (List.drop (↑((16 : Nat) * x) : Int).toNat (List.take (↑s.length : Int).toNat s)).length.min ((↑(16 : Nat) : Int).toNat - (0 : Nat)))
     [(0 : Int), (0 : Int), (0 : Int), (0 : Int), (0 : Int), (0 : Int), (0 : Int), (0 : Int), (0 : Int), (0 : Int), (0 : Int), (0 : Int), (0 : Int), (0 : Int), (0 : Int), (0 : Int)]))) =
     some
     (Blk.fix
     (D.arr IntKind.u8 (16 : Nat)
     (List.take ((List.drop (↑((16 : Nat) * x) : Int).toNat (List.take (↑s.length : Int).toNat s)).length.min ((↑(16 : Nat) : Int).toNat - (0 : Nat))) (List.drop (↑((16 : Nat) * x) : Int).toNat (List.take (↑s.length : Int).toNat s)) ++
     List.drop ((0 : Nat) + (List.drop (↑((16 : Nat) * x) : Int).toNat (List.take (↑s.length : Int).toNat s)).length.min ((↑(16 : Nat) : Int).toNat - (0 : Nat)))
     [(0 : Int), (0 : Int), (0 : Int), (0 : Int), (0 : Int), (0 : Int), (0 : Int), (0 : Int), (0 : Int), (0 : Int), (0 : Int), (0 : Int), (0 : Int), (0 : Int), (0 : Int), (0 : Int)]))) ∧
     some
     (Blk.fix
     (D.arr IntKind.u8 (16 : Nat)
     (deL w (↑R : Int).toNat
     (List.take ((List.drop (↑((16 : Nat) * x) : Int).toNat (List.take (↑s.length : Int).toNat s)).length.min ((↑(16 : Nat) : Int).toNat - (0 : Nat))) (List.drop (↑((16 : Nat) * x) : Int).toNat (List.take (↑s.length : Int).toNat s)) ++
     List.drop ((0 : Nat) + (List.drop (↑((16 : Nat) * x) : Int).toNat (List.take (↑s.length : Int).toNat s)).length.min ((↑(16 : Nat) : Int).toNat - (0 : Nat)))
     [(0 : Int), (0 : Int), (0 : Int), (0 : Int), (0 : Int), (0 : Int), (0 : Int), (0 : Int), (0 : Int), (0 : Int), (0 : Int), (0 : Int), (0 : Int), (0 : Int), (0 : Int), (0 : Int)])))) =
     some
     (Blk.fix
     (D.arr IntKind.u8 (16 : Nat)
     (deL w (↑R : Int).toNat
     (List.take ((List.drop (↑((16 : Nat) * x) : Int).toNat (List.take (↑s.length : Int).toNat s)).length.min ((↑(16 : Nat) : Int).toNat - (0 : Nat))) (List.drop (↑((16 : Nat) * x) : Int).toNat (List.take (↑s.length : Int).toNat s)) ++
     List.drop ((0 : Nat) + (List.drop (↑((16 : Nat) * x) : Int).toNat (List.take (↑s.length : Int).toNat s)).length.min ((↑(16 : Nat) : Int).toNat - (0 : Nat)))
     [(0 : Int), (0 : Int), (0 : Int), (0 : Int), (0 : Int), (0 : Int), (0 : Int), (0 : Int), (0 : Int), (0 : Int), (0 : Int), (0 : Int), (0 : Int), (0 : Int), (0 : Int), (0 : Int)])))) ∧
     some
     (Blk.fix
     (D.arr IntKind.u8 s.length
     ((opM w R iv s x_1.snd x_1.fst).set ((0 : Nat) + (IntKind.i64.wrap ((↑((16 : Nat) * x) : Int) + (↑x_1.fst : Int))).toNat)
     (ixor IntKind.u8
     ((deL w (↑R : Int).toNat
     (List.take ((List.drop (↑((16 : Nat) * x) : Int).toNat (List.take (↑s.length : Int).toNat s)).length.min ((↑(16 : Nat) : Int).toNat - (0 : Nat))) (List.drop (↑((16 : Nat) * x) : Int).toNat (List.take (↑s.length : Int).toNat s)) ++
     List.drop ((0 : Nat) + (List.drop (↑((16 : Nat) * x) : Int).toNat (List.take (↑s.length : Int).toNat s)).length.min ((↑(16 : Nat) : Int).toNat - (0 : Nat)))
     [(0 : Int), (0 : Int), (0 : Int), (0 : Int), (0 : Int), (0 : Int), (0 : Int), (0 : Int), (0 : Int), (0 : Int), (0 : Int), (0 : Int), (0 : Int), (0 : Int), (0 : Int), (0 : Int)])).getD
     (↑x_1.fst : Int).toNat (0 : Int))
     ((pvB iv s x).getD (↑x_1.fst : Int).toNat (0 : Int)))))) =
     some (Blk.fix (D.arr IntKind.u8 s.length (opM w R iv s ((↑((16 : Nat) * x) : Int).toNat / (16 : Nat)) (IntKind.i64.wrap ((↑x_1.fst : Int) + (1 : Int))).toNat))) ∧
     True) ∧
     true = true) ∧
     ((IntKind.i64.wrap ((↑x_1.fst : Int) + (1 : Int))).toNat ≤ (16 : Nat) ∧ (↑((16 : Nat) * ((↑((16 : Nat) * x) : Int).toNat / (16 : Nat))) : Int) = (↑((16 : Nat) * x) : Int)) ∧ (16 : Nat) - (IntKind.i64.wrap ((↑x_1.fst : Int) + (1 : Int))).toNat < (16 : Nat) - x_1.fst
    | false =>
     ((16 : Nat) ≠ (0 : Nat) ∧ (16 : Nat) = (16 : Nat) ∧ true = true) ∧
     (Sk.arr (16 : Nat) = Sk.arr (16 : Nat) ∧ (16 : Nat) ≠ (0 : Nat) ∧ (16 : Nat) = (16 : Nat) ∧ false = false) ∧
     True ∧
     True ∧
     True ∧
     ((AV.d (D.val (Value.int IntKind.i64 (IntKind.i64.wrap ((↑((16 : Nat) * x) : Int) + (16 : Int))))) = AV.d (D.val (Value.int IntKind.i64 (↑((16 : Nat) * ((IntKind.i64.wrap ((↑((16 : Nat) * x) : Int) + (16 : Int))).toNat / (16 : Nat))) : Int))) ∧ True) ∧
     (some (Blk.fix (D.st [D.arr IntKind.u8 (240 : Nat) w, D.val (Value.int IntKind.i64 (↑R : Int))])) = some (Blk.fix (D.st [D.arr IntKind.u8 (240 : Nat) w, D.val (Value.int IntKind.i64 (↑R : Int))])) ∧
     some
     (Blk.fix
     (D.arr IntKind.u8 (16 : Nat)
     (List.take ((List.drop (↑((16 : Nat) * x) : Int).toNat (List.take (↑s.length : Int).toNat s)).length.min ((↑(16 : Nat) : Int).toNat - (0 : Nat))) (List.drop (↑((16 : Nat) * x) : Int).toNat (List.take (↑s.length : Int).toNat s)) ++
     List.drop ((0 : Nat) + (List.drop (↑((16 : Nat) * x) : Int).toNat (List.take (↑s.length : Int).toNat s)).length.min ((↑(16 : Nat) : Int).toNat - (0 : Nat)))
     [(0 : Int), (0 : Int), (0 : Int), (0 : Int), (0 : Int), (0 : Int), (0 : Int), (0 : Int), (0 : Int), (0 : Int), (0 : Int), (0 : Int), (0 : Int), (0 : Int), (0 : Int), (0 : Int)]))) =
     some (Blk.fix (D.arr IntKind.u8 (16 : Nat) (pvB iv s ((IntKind.i64.wrap ((↑((16 : Nat) * x) : Int) + (16 : Int))).toNat / (16 : Nat))))) ∧
     some (Blk.fix (D.arr IntKind.u8 s.length (opM w R iv s x_1.snd x_1.fst))) = some (Blk.fix (D.arr IntKind.u8 s.length (opM w R iv s ((IntKind.i64.wrap ((↑((16 : Nat) * x) : Int) + (16 : Int))).toNat / (16 : Nat)) (0 : Nat)))) ∧ True) ∧
     true = true) ∧
     (IntKind.i64.wrap ((↑((16 : Nat) * x) : Int) + (16 : Int))).toNat / (16 : Nat) ≤ s.length / (16 : Nat) ∧ s.length / (16 : Nat) - (IntKind.i64.wrap ((↑((16 : Nat) * x) : Int) + (16 : Int))).toNat / (16 : Nat) < s.length / (16 : Nat) - x
   | false =>
    True ∧
    True ∧
    True ∧
    True ∧
    ((0 : Int) ≤ IntKind.i64.wrap ((↑(↑s.length : Int).toNat : Int) - (1 : Int)) ∧ IntKind.i64.wrap ((↑(↑s.length : Int).toNat : Int) - (1 : Int)) < (↑(↑s.length : Int).toNat : Int) ∧ (1 : Nat) = (1 : Nat)) ∧
    ((1 : Nat) ≠ (0 : Nat) ∧ (1 : Nat) = (1 : Nat) ∧ false = false) ∧
    True ∧
    True ∧
    True ∧
    True ∧
    True ∧
    match decide (IntKind.i64.wrap ((opM w R iv s x (0 : Nat)).getD ((0 : Nat) + (IntKind.i64.wrap ((↑(↑s.length : Int).toNat : Int) - (1 : Int))).toNat) (0 : Int)) < (1 : Int)) with
    | true => True ∧ True ∧ True ∧ (false = false ∧ false = false ∧ True) ∧ D.tup [D.ints IntKind.u8 [], D.val (Value.int IntKind.i64 (4 : Int))] = F
    | false =>
     True ∧
     True ∧
     True ∧
     match decide (IntKind.i64.wrap ((opM w R iv s x (0 : Nat)).getD ((0 : Nat) + (IntKind.i64.wrap ((↑(↑s.length : Int).toNat : Int) - (1 : Int))).toNat) (0 : Int)) > (16 : Int)) with
     | true => True ∧ True ∧ (false = false ∧ false = false ∧ True) ∧ D.tup [D.ints IntKind.u8 [], D.val (Value.int IntKind.i64 (4 : Int))] = F
     | false =>
      True ∧
      True ∧
      True ∧
      True ∧
      True ∧
      ((0 : Int) ≤ IntKind.i64.wrap ((↑(↑s.length : Int).toNat : Int) - IntKind.i64.wrap ((opM w R iv s x (0 : Nat)).getD ((0 : Nat) + (IntKind.i64.wrap ((↑(↑s.length : Int).toNat : Int) - (1 : Int))).toNat) (0 : Int))) ∧
      IntKind.i64.wrap ((↑(↑s.length : Int).toNat : Int) - IntKind.i64.wrap ((opM w R iv s x (0 : Nat)).getD ((0 : Nat) + (IntKind.i64.wrap ((↑(↑s.length : Int).toNat : Int) - (1 : Int))).toNat) (0 : Int))) ≤ (↑(↑s.length : Int).toNat : Int) ∧
      (↑(↑s.length : Int).toNat : Int) ≤ (↑(↑s.length : Int).toNat : Int) ∧ (1 : Nat) = (1 : Nat)) ∧
      True ∧
      True ∧
      (((AV.d (D.val (Value.int IntKind.i64 (0 : Int))) = AV.d (D.val (Value.int IntKind.i64 (↑(Int.toNat (0 : Int)) : Int))) ∧ True) ∧
      (some (Blk.fix (D.st [D.arr IntKind.u8 (240 : Nat) w, D.val (Value.int IntKind.i64 (↑R : Int))])) = some (Blk.fix (D.st [D.arr IntKind.u8 (240 : Nat) w, D.val (Value.int IntKind.i64 (↑R : Int))])) ∧
      some (Blk.fix (D.arr IntKind.u8 (16 : Nat) (pvB iv s x))) = some (Blk.fix (D.arr IntKind.u8 (16 : Nat) (pvB iv s x))) ∧ some (Blk.fix (D.arr IntKind.u8 s.length (opM w R iv s x (0 : Nat)))) = some (Blk.fix (D.arr IntKind.u8 s.length (opM w R iv s x (0 : Nat)))) ∧ True) ∧
      true = true) ∧
      Int.toNat (0 : Int) ≤ unN (plO w R iv s) ∧ tlO (plO w R iv s) (Int.toNat (0 : Int))) ∧
      ∀ (x_1 : Nat),
      x_1 ≤ unN (plO w R iv s) ∧ tlO (plO w R iv s) x_1 →
      true = true ∧
      True ∧
      match
      decide
      ((↑x_1 : Int) <
      (↑((↑(↑s.length : Int).toNat : Int).toNat - (IntKind.i64.wrap ((↑(↑s.length : Int).toNat : Int) - IntKind.i64.wrap ((opM w R iv s x (0 : Nat)).getD ((0 : Nat) + (IntKind.i64.wrap ((↑(↑s.length : Int).toNat : Int) - (1 : Int))).toNat) (0 : Int)))).toNat) : Int)) with
      | true =>
       ((0 : Int) ≤ (↑x_1 : Int) ∧
       (↑x_1 : Int) <
       (↑((↑(↑s.length : Int).toNat : Int).toNat - (IntKind.i64.wrap ((↑(↑s.length : Int).toNat : Int) - IntKind.i64.wrap ((opM w R iv s x (0 : Nat)).getD ((0 : Nat) + (IntKind.i64.wrap ((↑(↑s.length : Int).toNat : Int) - (1 : Int))).toNat) (0 : Int)))).toNat) : Int) ∧
       (1 : Nat) = (1 : Nat)) ∧
       ((1 : Nat) ≠ (0 : Nat) ∧ (1 : Nat) = (1 : Nat) ∧ false = false) ∧
       True ∧
       True ∧
       True ∧
       True ∧
       True ∧
       match
       IntKind.i64.wrap
       ((opM w R iv s x (0 : Nat)).getD
       ((0 : Nat) + (IntKind.i64.wrap ((↑(↑s.length : Int).toNat : Int) - IntKind.i64.wrap ((opM w R iv s x (0 : Nat)).getD ((0 : Nat) + (IntKind.i64.wrap ((↑(↑s.length : Int).toNat : Int) - (1 : Int))).toNat) (0 : Int)))).toNat + (↑x_1 : Int).toNat) (0 : Int)) !=
       IntKind.i64.wrap ((opM w R iv s x (0 : Nat)).getD ((0 : Nat) + (IntKind.i64.wrap ((↑(↑s.length : Int).toNat : Int) - (1 : Int))).toNat) (0 : Int)) with
       | true => True ∧ True ∧ (false = false ∧ false = false ∧ True) ∧ D.tup [D.ints IntKind.u8 [], D.val (Value.int IntKind.i64 (4 : Int))] = F
       | false =>
        True ∧
        True ∧
        ((AV.d (D.val (Value.int IntKind.i64 (IntKind.i64.wrap ((↑x_1 : Int) + (1 : Int))))) = AV.d (D.val (Value.int IntKind.i64 (↑(IntKind.i64.wrap ((↑x_1 : Int) + (1 : Int))).toNat : Int))) ∧ True) ∧
        (some (Blk.fix (D.st [D.arr IntKind.u8 (240 : Nat) w, D.val (Value.int IntKind.i64 (↑R : Int))])) = some (Blk.fix (D.st [D.arr IntKind.u8 (240 : Nat) w, D.val (Value.int IntKind.i64 (↑R : Int))])) ∧
        some (Blk.fix (D.arr IntKind.u8 (16 : Nat) (pvB iv s x))) = some (Blk.fix (D.arr IntKind.u8 (16 : Nat) (pvB iv s x))) ∧
        some (Blk.fix (D.arr IntKind.u8 s.length (opM w R iv s x (0 : Nat)))) = some (Blk.fix (D.arr IntKind.u8 s.length (opM w R iv s x (0 : Nat)))) ∧ True) ∧
        true = true) ∧
        ((IntKind.i64.wrap ((↑x_1 : Int) + (1 : Int))).toNat ≤ unN (plO w R iv s) ∧ tlO (plO w R iv s) (IntKind.i64.wrap ((↑x_1 : Int) + (1 : Int))).toNat) ∧ unN (plO w R iv s) - (IntKind.i64.wrap ((↑x_1 : Int) + (1 : Int))).toNat < unN (plO w R iv s) - x_1
      | false =>
       True ∧
       True ∧
       True ∧
       True ∧
       True ∧
       True ∧
       True ∧
       True ∧
       True ∧
       ((0 : Int) ≤ (0 : Int) ∧
       (0 : Int) ≤ IntKind.i64.wrap ((↑(↑s.length : Int).toNat : Int) - IntKind.i64.wrap ((opM w R iv s x (0 : Nat)).getD ((0 : Nat) + (IntKind.i64.wrap ((↑(↑s.length : Int).toNat : Int) - (1 : Int))).toNat) (0 : Int))) ∧
       IntKind.i64.wrap ((↑(↑s.length : Int).toNat : Int) - IntKind.i64.wrap ((opM w R iv s x (0 : Nat)).getD ((0 : Nat) + (IntKind.i64.wrap ((↑(↑s.length : Int).toNat : Int) - (1 : Int))).toNat) (0 : Int))) ≤
       IntKind.i64.wrap ((↑(↑s.length : Int).toNat : Int) - IntKind.i64.wrap ((opM w R iv s x (0 : Nat)).getD ((0 : Nat) + (IntKind.i64.wrap ((↑(↑s.length : Int).toNat : Int) - (1 : Int))).toNat) (0 : Int))) ∧
       IntKind.i64.wrap ((↑(↑s.length : Int).toNat : Int) - IntKind.i64.wrap ((opM w R iv s x (0 : Nat)).getD ((0 : Nat) + (IntKind.i64.wrap ((↑(↑s.length : Int).toNat : Int) - (1 : Int))).toNat) (0 : Int))) ≤ (↑(↑s.length : Int).toNat : Int) ∧
       (1 : Nat) = (1 : Nat)) ∧
       True ∧
       True ∧
       (false = false ∧ false = false ∧ True) ∧
       D.tup
       [D.ints IntKind.u8
       (List.take ((IntKind.i64.wrap ((↑(↑s.length : Int).toNat : Int) - IntKind.i64.wrap ((opM w R iv s x (0 : Nat)).getD ((0 : Nat) + (IntKind.i64.wrap ((↑(↑s.length : Int).toNat : Int) - (1 : Int))).toNat) (0 : Int)))).toNat - Int.toNat (0 : Int))
       (List.drop (0 : Nat) (opM w R iv s x (0 : Nat)))),
       D.val (Value.int IntKind.i64 (0 : Int))] =
       F) := by kernel_rfl
set_option maxRecDepth 100000 in
theorem vc30  (W : List D) (bx ux iv s : List Int) (F : D)  :
    (owed c30 (inv30 (flW W) (W.length / 4 - 1) iv s) Try.f30 [.ref (cipD W bx ux), b16 iv, .str s] F) = (
 (True ∧ false = false) ∧
 True ∧
 True ∧
 True ∧
 True ∧
 True ∧
 match eqB s (ints { data := { toList := [] } }) with
 | true => True ∧ True ∧ True ∧ (false = false ∧ false = false ∧ True) ∧ D.tup [D.str (ints { data := { toList := [] } }), D.val (Value.int IntKind.i64 (1 : Int))] = F
 | false =>
  True ∧
  True ∧
  (16 : Int) ≠ (0 : Int) ∧
  True ∧
  True ∧
  match decide ((↑s.length : Int).tmod (16 : Int) > (0 : Int)) with
  | true => True ∧ True ∧ (false = false ∧ false = false ∧ True) ∧ D.tup [D.str (ints { data := { toList := [] } }), D.val (Value.int IntKind.i64 (1 : Int))] = F
  | false =>
   True ∧
   (((AV.d (D.str s) = AV.d (D.str (List.drop ((16 : Nat) * ((ints { data := { toList := [] } }).length / (16 : Nat))) s)) ∧ AV.d (D.str (ints { data := { toList := [] } })) = AV.d (D.str (opL (flW W) (W.length / (4 : Nat) - (1 : Nat)) iv s ((ints { data := { toList := [] } }).length / (16 : Nat)))) ∧ True) ∧
   (some (Blk.fix (D.arr IntKind.u8 (16 : Nat) iv)) = some (Blk.fix (D.arr IntKind.u8 (16 : Nat) (pvB iv s ((ints { data := { toList := [] } }).length / (16 : Nat))))) ∧ True) ∧ true = true) ∧
   (ints { data := { toList := [] } }).length / (16 : Nat) ≤ s.length / (16 : Nat)) ∧
   ∀ (x : Nat),
   x ≤ s.length / (16 : Nat) →
   true = true ∧
   True ∧
   True ∧
   True ∧
   match decide ((↑(List.drop ((16 : Nat) * x) s).length : Int) > (0 : Int)) with
   | true =>
    True ∧
    ((0 : Int) ≤ (0 : Int) ∧ (0 : Int) ≤ (16 : Int) ∧ (16 : Int) ≤ (↑(List.drop ((16 : Nat) * x) s).length : Int)) ∧
    (∃ (s_1 : List Int), [D.str (List.drop (0 : Nat) (List.take (16 : Nat) (List.drop ((16 : Nat) * x) s)))] = [D.str s_1] ∧ okb s_1 ∧ (16 : Nat) ≤ s_1.length) ∧
    (True ∧ (16 : Nat) ≠ (0 : Nat)) ∧
    (Sk.arr (16 : Nat) = Sk.arr (16 : Nat) ∧ (16 : Nat) ≠ (0 : Nat) ∧ (16 : Nat) = (16 : Nat) ∧ false = false) ∧
    True ∧
    ((16 : Nat) ≠ (0 : Nat) ∧ (16 : Nat) = (16 : Nat) ∧ true = true) ∧
    (∃ (W_1 : List D),
    ∃ (bx_1 : List Int),
    ∃ (ux_1 : List Int),
    ∃ (b : List Int),
    [(D.st [D.slc (4 : Nat) W, D.arr IntKind.u8 (256 : Nat) bx, D.arr IntKind.u8 (256 : Nat) ux]).ref, D.arr IntKind.u8 (16 : Nat) (List.take (16 : Nat) (List.drop (0 : Nat) (List.take (16 : Nat) (List.drop ((16 : Nat) * x) s))))] =
    [(D.st [D.slc (4 : Nat) W_1, D.arr IntKind.u8 (256 : Nat) bx_1, D.arr IntKind.u8 (256 : Nat) ux_1]).ref, D.arr IntKind.u8 (16 : Nat) b] ∧
    okW W_1 ∧ (4 : Nat) ≤ W_1.length ∧ W_1.length ≤ (60 : Nat) ∧ okX bx_1 ux_1 ∧ isB (16 : Nat) b) ∧
    ((16 : Nat) ≠ (0 : Nat) ∧ (16 : Nat) = (16 : Nat) ∧ true = true) ∧
    (∃ (a : List Int),
    ∃ (b : List Int),
    [D.arr IntKind.u8 (16 : Nat) (deL (flW W) (W.length / (4 : Nat) - (1 : Nat)) (List.take (16 : Nat) (List.drop (0 : Nat) (List.take (16 : Nat) (List.drop ((16 : Nat) * x) s))))), D.arr IntKind.u8 (16 : Nat) (pvB iv s x)] = [D.arr IntKind.u8 (16 : Nat) a, D.arr IntKind.u8 (16 : Nat) b] ∧ isB (16 : Nat) a ∧ isB (16 : Nat) b) ∧
    (True ∧ (16 : Nat) ≠ (0 : Nat)) ∧
    (Sk.arr (16 : Nat) = Sk.arr (16 : Nat) ∧ (16 : Nat) ≠ (0 : Nat) ∧ (16 : Nat) = (16 : Nat) ∧ false = false) ∧
    True ∧
    ((0 : Int) ≤ (0 : Int) ∧ (0 : Int) ≤ (↑(16 : Nat) : Int) ∧ (↑(16 : Nat) : Int) ≤ (↑(16 : Nat) : Int) ∧ (16 : Nat) = (16 : Nat) ∧ (1 : Nat) = (1 : Nat)) ∧
    isBytes (List.take ((↑(16 : Nat) : Int).toNat - (0 : Nat)) (List.drop (0 : Nat) (xoL (deL (flW W) (W.length / (4 : Nat) - (1 : Nat)) (List.take (16 : Nat) (List.drop (0 : Nat) (List.take (16 : Nat) (List.drop ((16 : Nat) * x) s))))) (pvB iv s x) (0 : Nat)))) ∧
    (↑((opL (flW W) (W.length / (4 : Nat) - (1 : Nat)) iv s x).length +
    (List.take ((↑(16 : Nat) : Int).toNat - (0 : Nat)) (List.drop (0 : Nat) (xoL (deL (flW W) (W.length / (4 : Nat) - (1 : Nat)) (List.take (16 : Nat) (List.drop (0 : Nat) (List.take (16 : Nat) (List.drop ((16 : Nat) * x) s))))) (pvB iv s x) (0 : Nat)))).length) :
    Int) ≤
    (9223372036854775807 : Int) ∧
    True ∧
    ((16 : Nat) ≠ (0 : Nat) ∧ (16 : Nat) = (16 : Nat) ∧ true = true) ∧
    True ∧
    ((0 : Int) ≤ (16 : Int) ∧ (16 : Int) ≤ (↑(List.drop ((16 : Nat) * x) s).length : Int) ∧ (↑(List.drop ((16 : Nat) * x) s).length : Int) ≤ (↑(List.drop ((16 : Nat) * x) s).length : Int)) ∧
    (Sk.arr (16 : Nat) = Sk.arr (16 : Nat) ∧ (16 : Nat) ≠ (0 : Nat) ∧ (16 : Nat) = (16 : Nat) ∧ false = false) ∧
    True ∧
    ((AV.d (D.str (List.drop (16 : Nat) (List.take (↑(List.drop ((16 : Nat) * x) s).length : Int).toNat (List.drop ((16 : Nat) * x) s)))) =
    AV.d
    (D.str
    (List.drop
    ((16 : Nat) *
    ((opL (flW W) (W.length / (4 : Nat) - (1 : Nat)) iv s x ++
    List.take ((↑(16 : Nat) : Int).toNat - (0 : Nat)) (List.drop (0 : Nat) (xoL (deL (flW W) (W.length / (4 : Nat) - (1 : Nat)) (List.take (16 : Nat) (List.drop (0 : Nat) (List.take (16 : Nat) (List.drop ((16 : Nat) * x) s))))) (pvB iv s x) (0 : Nat)))).length /
    (16 : Nat)))
    s)) ∧
    AV.d
    (D.str
    (opL (flW W) (W.length / (4 : Nat) - (1 : Nat)) iv s x ++
    List.take ((↑(16 : Nat) : Int).toNat - (0 : Nat)) (List.drop (0 : Nat) (xoL (deL (flW W) (W.length / (4 : Nat) - (1 : Nat)) (List.take (16 : Nat) (List.drop (0 : Nat) (List.take (16 : Nat) (List.drop ((16 : Nat) * x) s))))) (pvB iv s x) (0 : Nat))))) =
    AV.d
    (D.str
    (opL (flW W) (W.length / (4 : Nat) - (1 : Nat)) iv s
    ((opL (flW W) (W.length / (4 : Nat) - (1 : Nat)) iv s x ++
    List.take ((↑(16 : Nat) : Int).toNat - (0 : Nat)) (List.drop (0 : Nat) (xoL (deL (flW W) (W.length / (4 : Nat) - (1 : Nat)) (List.take (16 : Nat) (List.drop (0 : Nat) (List.take (16 : Nat) (List.drop ((16 : Nat) * x) s))))) (pvB iv s x) (0 : Nat)))).length /
    (16 : Nat)))) ∧
    True) ∧
    (some (Blk.fix (D.arr IntKind.u8 (16 : Nat) (List.take (16 : Nat) (List.drop (0 : Nat) (List.take (16 : Nat) (List.drop ((16 : Nat) * x) s)))))) =
    some
    (Blk.fix
    (D.arr IntKind.u8 (16 : Nat)
    (pvB iv s
    ((opL (flW W) (W.length / (4 : Nat) - (1 : Nat)) iv s x ++
    List.take ((↑(16 : Nat) : Int).toNat - (0 : Nat)) (List.drop (0 : Nat) (xoL (deL (flW W) (W.length / (4 : Nat) - (1 : Nat)) (List.take (16 : Nat) (List.drop (0 : Nat) (List.take (16 : Nat) (List.drop ((16 : Nat) * x) s))))) (pvB iv s x) (0 : Nat)))).length /
    (16 : Nat))))) ∧
    True) ∧
    true = true) ∧
    (opL (flW W) (W.length / (4 : Nat) - (1 : Nat)) iv s x ++
    List.take ((↑(16 : Nat) : Int).toNat - (0 : Nat)) (List.drop (0 : Nat) (xoL (deL (flW W) (W.length / (4 : Nat) - (1 : Nat)) (List.take (16 : Nat) (List.drop (0 : Nat) (List.take (16 : Nat) (List.drop ((16 : Nat) * x) s))))) (pvB iv s x) (0 : Nat)))).length /
    (16 : Nat) ≤
    s.length / (16 : Nat) ∧
    s.length / (16 : Nat) -
    (opL (flW W) (W.length / (4 : Nat) - (1 : Nat)) iv s x ++
    List.take ((↑(16 : Nat) : Int).toNat - (0 : Nat)) (List.drop (0 : Nat) (xoL (deL (flW W) (W.length / (4 : Nat) - (1 : Nat)) (List.take (16 : Nat) (List.drop (0 : Nat) (List.take (16 : Nat) (List.drop ((16 : Nat) * x) s))))) (pvB iv s x) (0 : Nat)))).length /
    (16 : Nat) <
    s.length / (16 : Nat) - x
   | false =>
    True ∧
    True ∧
    True ∧
    True ∧
    ((0 : Int) ≤ IntKind.i64.wrap ((↑(opL (flW W) (W.length / (4 : Nat) - (1 : Nat)) iv s x).length : Int) - (1 : Int)) ∧ IntKind.i64.wrap ((↑(opL (flW W) (W.length / (4 : Nat) - (1 : Nat)) iv s x).length : Int) - (1 : Int)) < (↑(opL (flW W) (W.length / (4 : Nat) - (1 : Nat)) iv s x).length : Int)) ∧
    True ∧
    True ∧
    True ∧
    True ∧
    True ∧
    match IntKind.i64.wrap ((opL (flW W) (W.length / (4 : Nat) - (1 : Nat)) iv s x).getD (IntKind.i64.wrap ((↑(opL (flW W) (W.length / (4 : Nat) - (1 : Nat)) iv s x).length : Int) - (1 : Int))).toNat (0 : Int)) == (0 : Int) with
    | true => True ∧ True ∧ True ∧ (false = false ∧ false = false ∧ True) ∧ D.tup [D.str (ints { data := { toList := [] } }), D.val (Value.int IntKind.i64 (4 : Int))] = F
    | false =>
     True ∧
     True ∧
     True ∧
     match decide (IntKind.i64.wrap ((opL (flW W) (W.length / (4 : Nat) - (1 : Nat)) iv s x).getD (IntKind.i64.wrap ((↑(opL (flW W) (W.length / (4 : Nat) - (1 : Nat)) iv s x).length : Int) - (1 : Int))).toNat (0 : Int)) > (16 : Int)) with
     | true => True ∧ True ∧ (false = false ∧ false = false ∧ True) ∧ D.tup [D.str (ints { data := { toList := [] } }), D.val (Value.int IntKind.i64 (4 : Int))] = F
     | false =>
      True ∧
      True ∧
      True ∧
      True ∧
      True ∧
      (((AV.d
      (D.val
      (Value.int IntKind.i64
      (IntKind.i64.wrap
      ((↑(opL (flW W) (W.length / (4 : Nat) - (1 : Nat)) iv s x).length : Int) - IntKind.i64.wrap ((opL (flW W) (W.length / (4 : Nat) - (1 : Nat)) iv s x).getD (IntKind.i64.wrap ((↑(opL (flW W) (W.length / (4 : Nat) - (1 : Nat)) iv s x).length : Int) - (1 : Int))).toNat (0 : Int)))))) =
      AV.d
      (D.val
      (Value.int IntKind.i64
      (↑(s.length - unN (plO (flW W) (W.length / (4 : Nat) - (1 : Nat)) iv s) +
      ((IntKind.i64.wrap
      ((↑(opL (flW W) (W.length / (4 : Nat) - (1 : Nat)) iv s x).length : Int) - IntKind.i64.wrap ((opL (flW W) (W.length / (4 : Nat) - (1 : Nat)) iv s x).getD (IntKind.i64.wrap ((↑(opL (flW W) (W.length / (4 : Nat) - (1 : Nat)) iv s x).length : Int) - (1 : Int))).toNat (0 : Int)))).toNat -
      (s.length - unN (plO (flW W) (W.length / (4 : Nat) - (1 : Nat)) iv s)))) :
      Int))) ∧
      True) ∧
      (some (Blk.fix (D.arr IntKind.u8 (16 : Nat) (pvB iv s x))) = some (Blk.fix (D.arr IntKind.u8 (16 : Nat) (pvB iv s x))) ∧ True) ∧ true = true) ∧
      (IntKind.i64.wrap ((↑(opL (flW W) (W.length / (4 : Nat) - (1 : Nat)) iv s x).length : Int) - IntKind.i64.wrap ((opL (flW W) (W.length / (4 : Nat) - (1 : Nat)) iv s x).getD (IntKind.i64.wrap ((↑(opL (flW W) (W.length / (4 : Nat) - (1 : Nat)) iv s x).length : Int) - (1 : Int))).toNat (0 : Int)))).toNat -
      (s.length - unN (plO (flW W) (W.length / (4 : Nat) - (1 : Nat)) iv s)) ≤
      unN (plO (flW W) (W.length / (4 : Nat) - (1 : Nat)) iv s) ∧
      tlO (plO (flW W) (W.length / (4 : Nat) - (1 : Nat)) iv s)
      ((IntKind.i64.wrap ((↑(opL (flW W) (W.length / (4 : Nat) - (1 : Nat)) iv s x).length : Int) - IntKind.i64.wrap ((opL (flW W) (W.length / (4 : Nat) - (1 : Nat)) iv s x).getD (IntKind.i64.wrap ((↑(opL (flW W) (W.length / (4 : Nat) - (1 : Nat)) iv s x).length : Int) - (1 : Int))).toNat (0 : Int)))).toNat -
      (s.length - unN (plO (flW W) (W.length / (4 : Nat) - (1 : Nat)) iv s)))) ∧
      ∀ (x_1 : Nat),
      x_1 ≤ unN (plO (flW W) (W.length / (4 : Nat) - (1 : Nat)) iv s) ∧ tlO (plO (flW W) (W.length / (4 : Nat) - (1 : Nat)) iv s) x_1 →
      true = true ∧
      True ∧
      True ∧
      True ∧
      True ∧
      match decide ((↑(s.length - unN (plO (flW W) (W.length / (4 : Nat) - (1 : Nat)) iv s) + x_1) : Int) < (↑(opL (flW W) (W.length / (4 : Nat) - (1 : Nat)) iv s x).length : Int)) with
      | true =>
       True ∧
       True ∧
       ((0 : Int) ≤ (↑(s.length - unN (plO (flW W) (W.length / (4 : Nat) - (1 : Nat)) iv s) + x_1) : Int) ∧ (↑(s.length - unN (plO (flW W) (W.length / (4 : Nat) - (1 : Nat)) iv s) + x_1) : Int) < (↑(opL (flW W) (W.length / (4 : Nat) - (1 : Nat)) iv s x).length : Int)) ∧
       True ∧
       True ∧
       True ∧
       match
       IntKind.i64.wrap ((opL (flW W) (W.length / (4 : Nat) - (1 : Nat)) iv s x).getD (↑(s.length - unN (plO (flW W) (W.length / (4 : Nat) - (1 : Nat)) iv s) + x_1) : Int).toNat (0 : Int)) !=
       IntKind.i64.wrap ((opL (flW W) (W.length / (4 : Nat) - (1 : Nat)) iv s x).getD (IntKind.i64.wrap ((↑(opL (flW W) (W.length / (4 : Nat) - (1 : Nat)) iv s x).length : Int) - (1 : Int))).toNat (0 : Int)) with
       | true => True ∧ True ∧ (false = false ∧ false = false ∧ True) ∧ D.tup [D.str (ints { data := { toList := [] } }), D.val (Value.int IntKind.i64 (4 : Int))] = F
       | false =>
        True ∧
        True ∧
        True ∧
        ((AV.d (D.val (Value.int IntKind.i64 (IntKind.i64.wrap ((↑(s.length - unN (plO (flW W) (W.length / (4 : Nat) - (1 : Nat)) iv s) + x_1) : Int) + (1 : Int))))) =
        AV.d
        (D.val
        (Value.int IntKind.i64
        (↑(s.length - unN (plO (flW W) (W.length / (4 : Nat) - (1 : Nat)) iv s) +
        ((IntKind.i64.wrap ((↑(s.length - unN (plO (flW W) (W.length / (4 : Nat) - (1 : Nat)) iv s) + x_1) : Int) + (1 : Int))).toNat - (s.length - unN (plO (flW W) (W.length / (4 : Nat) - (1 : Nat)) iv s)))) :
        Int))) ∧
        True) ∧
        (some (Blk.fix (D.arr IntKind.u8 (16 : Nat) (pvB iv s x))) = some (Blk.fix (D.arr IntKind.u8 (16 : Nat) (pvB iv s x))) ∧ True) ∧ true = true) ∧
        ((IntKind.i64.wrap ((↑(s.length - unN (plO (flW W) (W.length / (4 : Nat) - (1 : Nat)) iv s) + x_1) : Int) + (1 : Int))).toNat - (s.length - unN (plO (flW W) (W.length / (4 : Nat) - (1 : Nat)) iv s)) ≤ unN (plO (flW W) (W.length / (4 : Nat) - (1 : Nat)) iv s) ∧
        tlO (plO (flW W) (W.length / (4 : Nat) - (1 : Nat)) iv s) ((IntKind.i64.wrap ((↑(s.length - unN (plO (flW W) (W.length / (4 : Nat) - (1 : Nat)) iv s) + x_1) : Int) + (1 : Int))).toNat - (s.length - unN (plO (flW W) (W.length / (4 : Nat) - (1 : Nat)) iv s)))) ∧
        unN (plO (flW W) (W.length / (4 : Nat) - (1 : Nat)) iv s) - ((IntKind.i64.wrap ((↑(s.length - unN (plO (flW W) (W.length / (4 : Nat) - (1 : Nat)) iv s) + x_1) : Int) + (1 : Int))).toNat - (s.length - unN (plO (flW W) (W.length / (4 : Nat) - (1 : Nat)) iv s))) <
        unN (plO (flW W) (W.length / (4 : Nat) - (1 : Nat)) iv s) - x_1
      | false =>
       True ∧
       True ∧
       True ∧
       True ∧
       True ∧
       ((0 : Int) ≤ (0 : Int) ∧
       (0 : Int) ≤
       IntKind.i64.wrap
       ((↑(opL (flW W) (W.length / (4 : Nat) - (1 : Nat)) iv s x).length : Int) -
       IntKind.i64.wrap ((opL (flW W) (W.length / (4 : Nat) - (1 : Nat)) iv s x).getD (IntKind.i64.wrap ((↑(opL (flW W) (W.length / (4 : Nat) - (1 : Nat)) iv s x).length : Int) - (1 : Int))).toNat (0 : Int))) ∧
       IntKind.i64.wrap
       ((↑(opL (flW W) (W.length / (4 : Nat) - (1 : Nat)) iv s x).length : Int) -
       IntKind.i64.wrap ((opL (flW W) (W.length / (4 : Nat) - (1 : Nat)) iv s x).getD (IntKind.i64.wrap ((↑(opL (flW W) (W.length / (4 : Nat) - (1 : Nat)) iv s x).length : Int) - (1 : Int))).toNat (0 : Int))) ≤
       (↑(opL (flW W) (W.length / (4 : Nat) - (1 : Nat)) iv s x).length : Int)) ∧
       True ∧
       True ∧
       (false = false ∧ false = false ∧ True) ∧
       D.tup
       [D.str
       (List.drop (0 : Nat)
       (List.take
       (IntKind.i64.wrap
       ((↑(opL (flW W) (W.length / (4 : Nat) - (1 : Nat)) iv s x).length : Int) -
       IntKind.i64.wrap ((opL (flW W) (W.length / (4 : Nat) - (1 : Nat)) iv s x).getD (IntKind.i64.wrap ((↑(opL (flW W) (W.length / (4 : Nat) - (1 : Nat)) iv s x).length : Int) - (1 : Int))).toNat (0 : Int)))).toNat
       (opL (flW W) (W.length / (4 : Nat) - (1 : Nat)) iv s x))),
       D.val (Value.int IntKind.i64 (0 : Int))] =
       F) := by kernel_rfl
set_option maxRecDepth 100000 in
theorem vc31  (w : List Int) (R : Nat) (iv p : List Int) (F : D)  :
    (owed c31 (inv31 w R iv p) Try.f31 [keyD w ((R : Nat) : Int), b16 iv, .ints .u8 p] F) = (
 (True ∧ false = false) ∧
 (True ∧ false = false) ∧
 True ∧
 True ∧
 True ∧
 (16 : Int) ≠ (0 : Int) ∧
 True ∧
 True ∧
 True ∧
 True ∧
 True ∧
 True ∧
 ((0 : Int) ≤ (0 : Int) ∧
 (0 : Int) ≤ IntKind.i64.wrap ((↑p.length : Int) + IntKind.i64.wrap ((16 : Int) - (↑p.length : Int).tmod (16 : Int))) ∧
 IntKind.i64.wrap ((↑p.length : Int) + IntKind.i64.wrap ((16 : Int) - (↑p.length : Int).tmod (16 : Int))) ≤ (281474976710656 : Int) ∧ (↑(1 : Nat) : Int) * IntKind.i64.wrap ((↑p.length : Int) + IntKind.i64.wrap ((16 : Int) - (↑p.length : Int).tmod (16 : Int))) ≤ (281474976710656 : Int) ∧ (1 : Nat) = (1 : Nat)) ∧
 True ∧
 True ∧
 True ∧
 ((5 : TypeId) = (5 : TypeId) ∧ (25 : Nat) = (25 : Nat) ∧ true = true ∧ p.length ≤ (140737488355328 : Nat) ∧ p.length * (1 : Nat) ≤ (140737488355328 : Nat) ∧ (1 : Nat) ≠ (0 : Nat) ∧ (1 : Nat) = (1 : Nat)) ∧
 True ∧
 True ∧
 True ∧
 (((AV.d (D.st [D.arr IntKind.u8 (240 : Nat) w, D.val (Value.int IntKind.i64 (↑R : Int))]) = AV.d (D.st [D.arr IntKind.u8 (240 : Nat) w, D.val (Value.int IntKind.i64 (↑R : Int))]) ∧
 AV.d (D.arr IntKind.u8 (16 : Nat) iv) = AV.d (D.arr IntKind.u8 (16 : Nat) iv) ∧
 AV.d (D.ints IntKind.u8 p) = AV.d (D.ints IntKind.u8 p) ∧
 AV.ptr (3 : Nat) [] = AV.ptr (3 : Nat) [] ∧
 AV.ptr (4 : Nat) [] = AV.ptr (4 : Nat) [] ∧
 AV.d (D.val (Value.slice none (0 : Nat) (0 : Nat))) = AV.d (D.val (Value.slice none (0 : Nat) (0 : Nat))) ∧
 AV.d (D.val (Value.int IntKind.i64 (IntKind.i64.wrap ((16 : Int) - (↑p.length : Int).tmod (16 : Int))))) = AV.d (D.val (Value.int IntKind.i64 (IntKind.i64.wrap ((16 : Int) - (↑p.length : Int).tmod (16 : Int))))) ∧
 AV.row (19 : Nat) = AV.row (19 : Nat) ∧
 AV.d (D.ints IntKind.u8 p) = AV.d (D.ints IntKind.u8 p) ∧
 AV.d (D.val (Value.int IntKind.i64 (↑p.length : Int))) = AV.d (D.val (Value.int IntKind.i64 (↑p.length : Int))) ∧
 AV.d (D.val (Value.int IntKind.i64 ((↑p.length : Int).tmod (16 : Int)))) = AV.d (D.val (Value.int IntKind.i64 ((↑p.length : Int).tmod (16 : Int)))) ∧
 AV.d (D.val (Value.int IntKind.i64 (IntKind.i64.wrap ((16 : Int) - (↑p.length : Int).tmod (16 : Int))))) = AV.d (D.val (Value.int IntKind.i64 (IntKind.i64.wrap ((16 : Int) - (↑p.length : Int).tmod (16 : Int))))) ∧
 AV.d (D.ints IntKind.u8 p) = AV.d (D.ints IntKind.u8 p) ∧
 AV.d (D.val (Value.int IntKind.i64 (↑p.length : Int))) = AV.d (D.val (Value.int IntKind.i64 (↑p.length : Int))) ∧
 AV.d (D.val (Value.int IntKind.i64 (IntKind.i64.wrap ((16 : Int) - (↑p.length : Int).tmod (16 : Int))))) = AV.d (D.val (Value.int IntKind.i64 (IntKind.i64.wrap ((16 : Int) - (↑p.length : Int).tmod (16 : Int))))) ∧
 AV.d (D.val (Value.int IntKind.i64 (IntKind.i64.wrap ((↑p.length : Int) + IntKind.i64.wrap ((16 : Int) - (↑p.length : Int).tmod (16 : Int)))))) = AV.d (D.val (Value.int IntKind.i64 (IntKind.i64.wrap ((↑p.length : Int) + IntKind.i64.wrap ((16 : Int) - (↑p.length : Int).tmod (16 : Int)))))) ∧
 AV.d (D.ints IntKind.u8 p) = AV.d (D.ints IntKind.u8 p) ∧
 AV.d (D.val (Value.int IntKind.i64 (IntKind.i64.wrap ((16 : Int) - (↑p.length : Int).tmod (16 : Int))))) = AV.d (D.val (Value.int IntKind.i64 (IntKind.i64.wrap ((16 : Int) - (↑p.length : Int).tmod (16 : Int))))) ∧
 AV.d (D.val (Value.int IntKind.i64 (0 : Int))) = AV.d (D.val (Value.int IntKind.i64 (↑(Int.toNat (0 : Int)) : Int))) ∧ True) ∧
 (some (Blk.fix (D.st [D.arr IntKind.u8 (240 : Nat) w, D.val (Value.int IntKind.i64 (↑R : Int))])) = some (Blk.fix (D.st [D.arr IntKind.u8 (240 : Nat) w, D.val (Value.int IntKind.i64 (↑R : Int))])) ∧
 some (Blk.fix (D.arr IntKind.u8 (16 : Nat) iv)) = some (Blk.fix (D.arr IntKind.u8 (16 : Nat) iv)) ∧ some (Blk.row (5 : TypeId) (D.ints IntKind.u8 p)) = some (Blk.row (5 : TypeId) (D.ints IntKind.u8 (padI p (Int.toNat (0 : Int))))) ∧ True) ∧
 true = true) ∧
 Int.toNat (0 : Int) ≤ padN p.length) ∧
 ∀ (x : Nat),
 x ≤ padN p.length →
 true = true ∧
 True ∧
 match decide ((↑x : Int) < IntKind.i64.wrap ((16 : Int) - (↑p.length : Int).tmod (16 : Int))) with
 | true =>
  True ∧
  True ∧
  True ∧
  ((1 : Nat) = (1 : Nat) ∧ (1 : Nat) ≤ (4096 : Nat)) ∧
  ((5 : TypeId) = (5 : TypeId) ∧
  (25 : Nat) = (25 : Nat) ∧
  true = true ∧
  (padI p x ++ [IntKind.u8.wrap (IntKind.i64.wrap ((16 : Int) - (↑p.length : Int).tmod (16 : Int)))]).length ≤ (140737488355328 : Nat) ∧ (padI p x ++ [IntKind.u8.wrap (IntKind.i64.wrap ((16 : Int) - (↑p.length : Int).tmod (16 : Int)))]).length * (1 : Nat) ≤ (140737488355328 : Nat) ∧ (1 : Nat) ≠ (0 : Nat) ∧ (1 : Nat) = (1 : Nat)) ∧
  True ∧
  True ∧
  True ∧
  ((AV.d (D.st [D.arr IntKind.u8 (240 : Nat) w, D.val (Value.int IntKind.i64 (↑R : Int))]) = AV.d (D.st [D.arr IntKind.u8 (240 : Nat) w, D.val (Value.int IntKind.i64 (↑R : Int))]) ∧
  AV.d (D.arr IntKind.u8 (16 : Nat) iv) = AV.d (D.arr IntKind.u8 (16 : Nat) iv) ∧
  AV.d (D.ints IntKind.u8 p) = AV.d (D.ints IntKind.u8 p) ∧
  AV.ptr (3 : Nat) [] = AV.ptr (3 : Nat) [] ∧
  AV.ptr (4 : Nat) [] = AV.ptr (4 : Nat) [] ∧
  AV.d (D.val (Value.slice none (0 : Nat) (0 : Nat))) = AV.d (D.val (Value.slice none (0 : Nat) (0 : Nat))) ∧
  AV.d (D.val (Value.int IntKind.i64 (IntKind.i64.wrap ((16 : Int) - (↑p.length : Int).tmod (16 : Int))))) = AV.d (D.val (Value.int IntKind.i64 (IntKind.i64.wrap ((16 : Int) - (↑p.length : Int).tmod (16 : Int))))) ∧
  AV.row (19 : Nat) = AV.row (19 : Nat) ∧
  AV.d (D.ints IntKind.u8 p) = AV.d (D.ints IntKind.u8 p) ∧
  AV.d (D.val (Value.int IntKind.i64 (↑p.length : Int))) = AV.d (D.val (Value.int IntKind.i64 (↑p.length : Int))) ∧
  AV.d (D.val (Value.int IntKind.i64 ((↑p.length : Int).tmod (16 : Int)))) = AV.d (D.val (Value.int IntKind.i64 ((↑p.length : Int).tmod (16 : Int)))) ∧
  AV.d (D.val (Value.int IntKind.i64 (IntKind.i64.wrap ((16 : Int) - (↑p.length : Int).tmod (16 : Int))))) = AV.d (D.val (Value.int IntKind.i64 (IntKind.i64.wrap ((16 : Int) - (↑p.length : Int).tmod (16 : Int))))) ∧
  AV.d (D.ints IntKind.u8 p) = AV.d (D.ints IntKind.u8 p) ∧
  AV.d (D.val (Value.int IntKind.i64 (↑p.length : Int))) = AV.d (D.val (Value.int IntKind.i64 (↑p.length : Int))) ∧
  AV.d (D.val (Value.int IntKind.i64 (IntKind.i64.wrap ((16 : Int) - (↑p.length : Int).tmod (16 : Int))))) = AV.d (D.val (Value.int IntKind.i64 (IntKind.i64.wrap ((16 : Int) - (↑p.length : Int).tmod (16 : Int))))) ∧
  AV.d (D.val (Value.int IntKind.i64 (IntKind.i64.wrap ((↑p.length : Int) + IntKind.i64.wrap ((16 : Int) - (↑p.length : Int).tmod (16 : Int)))))) = AV.d (D.val (Value.int IntKind.i64 (IntKind.i64.wrap ((↑p.length : Int) + IntKind.i64.wrap ((16 : Int) - (↑p.length : Int).tmod (16 : Int)))))) ∧
  AV.d (D.ints IntKind.u8 p) = AV.d (D.ints IntKind.u8 p) ∧
  AV.d (D.val (Value.int IntKind.i64 (IntKind.i64.wrap ((16 : Int) - (↑p.length : Int).tmod (16 : Int))))) = AV.d (D.val (Value.int IntKind.i64 (IntKind.i64.wrap ((16 : Int) - (↑p.length : Int).tmod (16 : Int))))) ∧
  AV.d (D.val (Value.int IntKind.i64 (IntKind.i64.wrap ((↑x : Int) + (1 : Int))))) = AV.d (D.val (Value.int IntKind.i64 (↑(IntKind.i64.wrap ((↑x : Int) + (1 : Int))).toNat : Int))) ∧ True) ∧
  (some (Blk.fix (D.st [D.arr IntKind.u8 (240 : Nat) w, D.val (Value.int IntKind.i64 (↑R : Int))])) = some (Blk.fix (D.st [D.arr IntKind.u8 (240 : Nat) w, D.val (Value.int IntKind.i64 (↑R : Int))])) ∧
  some (Blk.fix (D.arr IntKind.u8 (16 : Nat) iv)) = some (Blk.fix (D.arr IntKind.u8 (16 : Nat) iv)) ∧
  some (Blk.row (5 : TypeId) (D.ints IntKind.u8 (padI p x ++ [IntKind.u8.wrap (IntKind.i64.wrap ((16 : Int) - (↑p.length : Int).tmod (16 : Int)))]))) = some (Blk.row (5 : TypeId) (D.ints IntKind.u8 (padI p (IntKind.i64.wrap ((↑x : Int) + (1 : Int))).toNat))) ∧ True) ∧
  true = true) ∧
  (IntKind.i64.wrap ((↑x : Int) + (1 : Int))).toNat ≤ padN p.length ∧ padN p.length - (IntKind.i64.wrap ((↑x : Int) + (1 : Int))).toNat < padN p.length - x
 | false =>
  True ∧
  (((AV.d (D.st [D.arr IntKind.u8 (240 : Nat) w, D.val (Value.int IntKind.i64 (↑R : Int))]) = AV.d (D.st [D.arr IntKind.u8 (240 : Nat) w, D.val (Value.int IntKind.i64 (↑R : Int))]) ∧
  AV.d (D.arr IntKind.u8 (16 : Nat) iv) = AV.d (D.arr IntKind.u8 (16 : Nat) iv) ∧
  AV.d (D.ints IntKind.u8 p) = AV.d (D.ints IntKind.u8 p) ∧
  AV.ptr (3 : Nat) [] = AV.ptr (3 : Nat) [] ∧
  AV.ptr (4 : Nat) [] = AV.ptr (4 : Nat) [] ∧
  AV.d (D.val (Value.slice none (0 : Nat) (0 : Nat))) = AV.d (D.val (Value.slice none (0 : Nat) (0 : Nat))) ∧
  AV.d (D.val (Value.int IntKind.i64 (IntKind.i64.wrap ((16 : Int) - (↑p.length : Int).tmod (16 : Int))))) = AV.d (D.val (Value.int IntKind.i64 (IntKind.i64.wrap ((16 : Int) - (↑p.length : Int).tmod (16 : Int))))) ∧
  AV.row (19 : Nat) = AV.row (19 : Nat) ∧
  AV.d (D.val (Value.int IntKind.i64 (0 : Int))) = AV.d (D.val (Value.int IntKind.i64 (↑(0 : Nat) : Int))) ∧
  AV.d (D.ints IntKind.u8 p) = AV.d (D.ints IntKind.u8 p) ∧
  AV.d (D.val (Value.int IntKind.i64 (↑p.length : Int))) = AV.d (D.val (Value.int IntKind.i64 (↑p.length : Int))) ∧
  AV.d (D.val (Value.int IntKind.i64 ((↑p.length : Int).tmod (16 : Int)))) = AV.d (D.val (Value.int IntKind.i64 ((↑p.length : Int).tmod (16 : Int)))) ∧
  AV.d (D.val (Value.int IntKind.i64 (IntKind.i64.wrap ((16 : Int) - (↑p.length : Int).tmod (16 : Int))))) = AV.d (D.val (Value.int IntKind.i64 (IntKind.i64.wrap ((16 : Int) - (↑p.length : Int).tmod (16 : Int))))) ∧
  AV.d (D.ints IntKind.u8 p) = AV.d (D.ints IntKind.u8 p) ∧
  AV.d (D.val (Value.int IntKind.i64 (↑p.length : Int))) = AV.d (D.val (Value.int IntKind.i64 (↑p.length : Int))) ∧
  AV.d (D.val (Value.int IntKind.i64 (IntKind.i64.wrap ((16 : Int) - (↑p.length : Int).tmod (16 : Int))))) = AV.d (D.val (Value.int IntKind.i64 (IntKind.i64.wrap ((16 : Int) - (↑p.length : Int).tmod (16 : Int))))) ∧
  AV.d (D.val (Value.int IntKind.i64 (IntKind.i64.wrap ((↑p.length : Int) + IntKind.i64.wrap ((16 : Int) - (↑p.length : Int).tmod (16 : Int)))))) = AV.d (D.val (Value.int IntKind.i64 (IntKind.i64.wrap ((↑p.length : Int) + IntKind.i64.wrap ((16 : Int) - (↑p.length : Int).tmod (16 : Int)))))) ∧
  AV.d (D.ints IntKind.u8 p) = AV.d (D.ints IntKind.u8 p) ∧
  AV.d (D.val (Value.int IntKind.i64 (IntKind.i64.wrap ((16 : Int) - (↑p.length : Int).tmod (16 : Int))))) = AV.d (D.val (Value.int IntKind.i64 (IntKind.i64.wrap ((16 : Int) - (↑p.length : Int).tmod (16 : Int))))) ∧
  AV.d (D.val (Value.int IntKind.i64 (↑x : Int))) = AV.d (D.val (Value.int IntKind.i64 (↑x : Int))) ∧
  AV.d (D.val (Value.bool (decide ((↑x : Int) < IntKind.i64.wrap ((16 : Int) - (↑p.length : Int).tmod (16 : Int)))))) = AV.d (D.val (Value.bool (decide ((↑x : Int) < IntKind.i64.wrap ((16 : Int) - (↑p.length : Int).tmod (16 : Int)))))) ∧ True) ∧
  (some (Blk.fix (D.st [D.arr IntKind.u8 (240 : Nat) w, D.val (Value.int IntKind.i64 (↑R : Int))])) = some (Blk.fix (D.st [D.arr IntKind.u8 (240 : Nat) w, D.val (Value.int IntKind.i64 (↑R : Int))])) ∧
  some (Blk.fix (D.arr IntKind.u8 (16 : Nat) iv)) = some (Blk.fix (D.arr IntKind.u8 (16 : Nat) (cbC w R iv (padL p) (0 / 16 : Nat)))) ∧ some (Blk.row (5 : TypeId) (D.ints IntKind.u8 (padI p x))) = some (Blk.row (5 : TypeId) (D.ints IntKind.u8 (seM w R iv (padL p) (0 / 16 : Nat)))) ∧ True) ∧
  true = true) ∧
  (0 / 16 : Nat) ≤ padK p) ∧
  ∀ (x_1 : Nat),
  x_1 ≤ padK p →
  true = true ∧
  True ∧
  True ∧
  True ∧
  True ∧
  match decide ((↑((16 : Nat) * x_1) : Int) < (↑(seM w R iv (padL p) x_1).length : Int)) with
  | true =>
   True ∧
   (((AV.d (D.st [D.arr IntKind.u8 (240 : Nat) w, D.val (Value.int IntKind.i64 (↑R : Int))]) = AV.d (D.st [D.arr IntKind.u8 (240 : Nat) w, D.val (Value.int IntKind.i64 (↑R : Int))]) ∧
   AV.d (D.arr IntKind.u8 (16 : Nat) iv) = AV.d (D.arr IntKind.u8 (16 : Nat) iv) ∧
   AV.d (D.ints IntKind.u8 p) = AV.d (D.ints IntKind.u8 p) ∧
   AV.ptr (3 : Nat) [] = AV.ptr (3 : Nat) [] ∧
   AV.ptr (4 : Nat) [] = AV.ptr (4 : Nat) [] ∧
   AV.d (D.val (Value.slice none (0 : Nat) (0 : Nat))) = AV.d (D.val (Value.slice none (0 : Nat) (0 : Nat))) ∧
   AV.d (D.val (Value.int IntKind.i64 (IntKind.i64.wrap ((16 : Int) - (↑p.length : Int).tmod (16 : Int))))) = AV.d (D.val (Value.int IntKind.i64 (IntKind.i64.wrap ((16 : Int) - (↑p.length : Int).tmod (16 : Int))))) ∧
   AV.row (19 : Nat) = AV.row (19 : Nat) ∧
   AV.d (D.val (Value.int IntKind.i64 (↑((16 : Nat) * x_1) : Int))) = AV.d (D.val (Value.int IntKind.i64 (↑((16 : Nat) * x_1) : Int))) ∧
   AV.d (D.ints IntKind.u8 p) = AV.d (D.ints IntKind.u8 p) ∧
   AV.d (D.val (Value.int IntKind.i64 (↑p.length : Int))) = AV.d (D.val (Value.int IntKind.i64 (↑p.length : Int))) ∧
   AV.d (D.val (Value.int IntKind.i64 ((↑p.length : Int).tmod (16 : Int)))) = AV.d (D.val (Value.int IntKind.i64 ((↑p.length : Int).tmod (16 : Int)))) ∧
   AV.d (D.val (Value.int IntKind.i64 (IntKind.i64.wrap ((16 : Int) - (↑p.length : Int).tmod (16 : Int))))) = AV.d (D.val (Value.int IntKind.i64 (IntKind.i64.wrap ((16 : Int) - (↑p.length : Int).tmod (16 : Int))))) ∧
   AV.d (D.ints IntKind.u8 p) = AV.d (D.ints IntKind.u8 p) ∧
   AV.d (D.val (Value.int IntKind.i64 (↑p.length : Int))) = AV.d (D.val (Value.int IntKind.i64 (↑p.length : Int))) ∧
   AV.d (D.val (Value.int IntKind.i64 (IntKind.i64.wrap ((16 : Int) - (↑p.length : Int).tmod (16 : Int))))) = AV.d (D.val (Value.int IntKind.i64 (IntKind.i64.wrap ((16 : Int) - (↑p.length : Int).tmod (16 : Int))))) ∧
   AV.d (D.val (Value.int IntKind.i64 (IntKind.i64.wrap ((↑p.length : Int) + IntKind.i64.wrap ((16 : Int) - (↑p.length : Int).tmod (16 : Int)))))) =
   AV.d (D.val (Value.int IntKind.i64 (IntKind.i64.wrap ((↑p.length : Int) + IntKind.i64.wrap ((16 : Int) - (↑p.length : Int).tmod (16 : Int)))))) ∧
   AV.d (D.ints IntKind.u8 p) = AV.d (D.ints IntKind.u8 p) ∧
   AV.d (D.val (Value.int IntKind.i64 (IntKind.i64.wrap ((16 : Int) - (↑p.length : Int).tmod (16 : Int))))) = AV.d (D.val (Value.int IntKind.i64 (IntKind.i64.wrap ((16 : Int) - (↑p.length : Int).tmod (16 : Int))))) ∧
   AV.d (D.val (Value.int IntKind.i64 (↑x : Int))) = AV.d (D.val (Value.int IntKind.i64 (↑x : Int))) ∧
   AV.d (D.val (Value.bool (decide ((↑x : Int) < IntKind.i64.wrap ((16 : Int) - (↑p.length : Int).tmod (16 : Int)))))) = AV.d (D.val (Value.bool (decide ((↑x : Int) < IntKind.i64.wrap ((16 : Int) - (↑p.length : Int).tmod (16 : Int)))))) ∧
   AV.d (D.val (Value.int IntKind.i64 (↑((16 : Nat) * x_1) : Int))) = AV.d (D.val (Value.int IntKind.i64 (↑((16 : Nat) * x_1) : Int))) ∧
   AV.row (19 : Nat) = AV.row (19 : Nat) ∧
   AV.d (D.val (Value.int IntKind.i64 (↑(seM w R iv (padL p) x_1).length : Int))) = AV.d (D.val (Value.int IntKind.i64 (↑(seM w R iv (padL p) x_1).length : Int))) ∧
   AV.d (D.val (Value.bool (decide ((↑((16 : Nat) * x_1) : Int) < (↑(seM w R iv (padL p) x_1).length : Int))))) = AV.d (D.val (Value.bool (decide ((↑((16 : Nat) * x_1) : Int) < (↑(seM w R iv (padL p) x_1).length : Int))))) ∧
   AV.d (D.val (Value.int IntKind.i64 (0 : Int))) = AV.d (D.val (Value.int IntKind.i64 (↑(0 : Nat) : Int))) ∧ True) ∧
   (some (Blk.fix (D.st [D.arr IntKind.u8 (240 : Nat) w, D.val (Value.int IntKind.i64 (↑R : Int))])) = some (Blk.fix (D.st [D.arr IntKind.u8 (240 : Nat) w, D.val (Value.int IntKind.i64 (↑R : Int))])) ∧
   some (Blk.fix (D.arr IntKind.u8 (16 : Nat) (cbC w R iv (padL p) x_1))) = some (Blk.fix (D.arr IntKind.u8 (16 : Nat) (xoI (cbC w R iv (padL p) ((↑((16 : Nat) * x_1) : Int).toNat / (16 : Nat))) (padL p) ((16 : Nat) * ((↑((16 : Nat) * x_1) : Int).toNat / (16 : Nat))) (0 : Nat)))) ∧
   some (Blk.row (5 : TypeId) (D.ints IntKind.u8 (seM w R iv (padL p) x_1))) = some (Blk.row (5 : TypeId) (D.ints IntKind.u8 (seM w R iv (padL p) x_1))) ∧ True) ∧
   true = true) ∧
   (0 : Nat) ≤ (16 : Nat) ∧ (↑((16 : Nat) * ((↑((16 : Nat) * x_1) : Int).toNat / (16 : Nat))) : Int) = (↑((16 : Nat) * x_1) : Int)) ∧
   ∀ (x_2 : Nat × Nat),
   x_2.fst ≤ (16 : Nat) ∧ (↑((16 : Nat) * x_2.snd) : Int) = (↑((16 : Nat) * x_1) : Int) →
   true = true ∧
   True ∧
   match decide ((↑x_2.fst : Int) < (16 : Int)) with
   | true =>
    True ∧
    True ∧
    True ∧
    ((0 : Int) ≤ (↑x_2.fst : Int) ∧ (↑x_2.fst : Int) < (↑(16 : Nat) : Int) ∧ (16 : Nat) = (16 : Nat) ∧ (1 : Nat) = (1 : Nat)) ∧
    ((1 : Nat) ≠ (0 : Nat) ∧ (1 : Nat) = (1 : Nat) ∧ false = false) ∧
    True ∧
    True ∧
    True ∧
    True ∧
    ((0 : Int) ≤ IntKind.i64.wrap ((↑((16 : Nat) * x_1) : Int) + (↑x_2.fst : Int)) ∧ IntKind.i64.wrap ((↑((16 : Nat) * x_1) : Int) + (↑x_2.fst : Int)) < (↑(seM w R iv (padL p) x_1).length : Int) ∧ (1 : Nat) = (1 : Nat)) ∧
    ((IntKind.i64.wrap ((↑((16 : Nat) * x_1) : Int) + (↑x_2.fst : Int))).toNat < (seM w R iv (padL p) x_1).length ∧ (1 : Nat) = (1 : Nat) ∧ false = false) ∧
    True ∧
    ((0 : Int) ≤ (↑x_2.fst : Int) ∧ (↑x_2.fst : Int) < (↑(16 : Nat) : Int) ∧ (16 : Nat) = (16 : Nat) ∧ (1 : Nat) = (1 : Nat)) ∧
    (((↑x_2.fst : Int).toNat < (16 : Nat) ∧ ([] : List Nat) = [] ∧ true = true) ∧ (1 : Nat) ≠ (0 : Nat) ∧ (1 : Nat) = (1 : Nat) ∧ false = false) ∧
    True ∧
    True ∧
    ((AV.d (D.st [D.arr IntKind.u8 (240 : Nat) w, D.val (Value.int IntKind.i64 (↑R : Int))]) = AV.d (D.st [D.arr IntKind.u8 (240 : Nat) w, D.val (Value.int IntKind.i64 (↑R : Int))]) ∧
    AV.d (D.arr IntKind.u8 (16 : Nat) iv) = AV.d (D.arr IntKind.u8 (16 : Nat) iv) ∧
    AV.d (D.ints IntKind.u8 p) = AV.d (D.ints IntKind.u8 p) ∧
    AV.ptr (3 : Nat) [] = AV.ptr (3 : Nat) [] ∧
    AV.ptr (4 : Nat) [] = AV.ptr (4 : Nat) [] ∧
    AV.d (D.val (Value.slice none (0 : Nat) (0 : Nat))) = AV.d (D.val (Value.slice none (0 : Nat) (0 : Nat))) ∧
    AV.d (D.val (Value.int IntKind.i64 (IntKind.i64.wrap ((16 : Int) - (↑p.length : Int).tmod (16 : Int))))) = AV.d (D.val (Value.int IntKind.i64 (IntKind.i64.wrap ((16 : Int) - (↑p.length : Int).tmod (16 : Int))))) ∧
    AV.row (19 : Nat) = AV.row (19 : Nat) ∧
    AV.d (D.val (Value.int IntKind.i64 (↑((16 : Nat) * x_1) : Int))) = AV.d (D.val (Value.int IntKind.i64 (↑((16 : Nat) * x_1) : Int))) ∧
    AV.d (D.ints IntKind.u8 p) = AV.d (D.ints IntKind.u8 p) ∧
    AV.d (D.val (Value.int IntKind.i64 (↑p.length : Int))) = AV.d (D.val (Value.int IntKind.i64 (↑p.length : Int))) ∧
    AV.d (D.val (Value.int IntKind.i64 ((↑p.length : Int).tmod (16 : Int)))) = AV.d (D.val (Value.int IntKind.i64 ((↑p.length : Int).tmod (16 : Int)))) ∧
    AV.d (D.val (Value.int IntKind.i64 (IntKind.i64.wrap ((16 : Int) - (↑p.length : Int).tmod (16 : Int))))) = AV.d (D.val (Value.int IntKind.i64 (IntKind.i64.wrap ((16 : Int) - (↑p.length : Int).tmod (16 : Int))))) ∧
    AV.d (D.ints IntKind.u8 p) = AV.d (D.ints IntKind.u8 p) ∧
    AV.d (D.val (Value.int IntKind.i64 (↑p.length : Int))) = AV.d (D.val (Value.int IntKind.i64 (↑p.length : Int))) ∧
    AV.d (D.val (Value.int IntKind.i64 (IntKind.i64.wrap ((16 : Int) - (↑p.length : Int).tmod (16 : Int))))) = AV.d (D.val (Value.int IntKind.i64 (IntKind.i64.wrap ((16 : Int) - (↑p.length : Int).tmod (16 : Int))))) ∧
    AV.d (D.val (Value.int IntKind.i64 (IntKind.i64.wrap ((↑p.length : Int) + IntKind.i64.wrap ((16 : Int) - (↑p.length : Int).tmod (16 : Int)))))) =
    AV.d (D.val (Value.int IntKind.i64 (IntKind.i64.wrap ((↑p.length : Int) + IntKind.i64.wrap ((16 : Int) - (↑p.length : Int).tmod (16 : Int)))))) ∧
    AV.d (D.ints IntKind.u8 p) = AV.d (D.ints IntKind.u8 p) ∧
    AV.d (D.val (Value.int IntKind.i64 (IntKind.i64.wrap ((16 : Int) - (↑p.length : Int).tmod (16 : Int))))) = AV.d (D.val (Value.int IntKind.i64 (IntKind.i64.wrap ((16 : Int) - (↑p.length : Int).tmod (16 : Int))))) ∧
    AV.d (D.val (Value.int IntKind.i64 (↑x : Int))) = AV.d (D.val (Value.int IntKind.i64 (↑x : Int))) ∧
    AV.d (D.val (Value.bool (decide ((↑x : Int) < IntKind.i64.wrap ((16 : Int) - (↑p.length : Int).tmod (16 : Int)))))) = AV.d (D.val (Value.bool (decide ((↑x : Int) < IntKind.i64.wrap ((16 : Int) - (↑p.length : Int).tmod (16 : Int)))))) ∧
    AV.d (D.val (Value.int IntKind.i64 (↑((16 : Nat) * x_1) : Int))) = AV.d (D.val (Value.int IntKind.i64 (↑((16 : Nat) * x_1) : Int))) ∧
    AV.row (19 : Nat) = AV.row (19 : Nat) ∧
    AV.d (D.val (Value.int IntKind.i64 (↑(seM w R iv (padL p) x_1).length : Int))) = AV.d (D.val (Value.int IntKind.i64 (↑(seM w R iv (padL p) x_1).length : Int))) ∧
    AV.d (D.val (Value.bool (decide ((↑((16 : Nat) * x_1) : Int) < (↑(seM w R iv (padL p) x_1).length : Int))))) = AV.d (D.val (Value.bool (decide ((↑((16 : Nat) * x_1) : Int) < (↑(seM w R iv (padL p) x_1).length : Int))))) ∧
    AV.d (D.val (Value.int IntKind.i64 (IntKind.i64.wrap ((↑x_2.fst : Int) + (1 : Int))))) = AV.d (D.val (Value.int IntKind.i64 (↑(IntKind.i64.wrap ((↑x_2.fst : Int) + (1 : Int))).toNat : Int))) ∧ True) ∧
    (some (Blk.fix (D.st [D.arr IntKind.u8 (240 : Nat) w, D.val (Value.int IntKind.i64 (↑R : Int))])) = some (Blk.fix (D.st [D.arr IntKind.u8 (240 : Nat) w, D.val (Value.int IntKind.i64 (↑R : Int))])) ∧
    some
    (Blk.fix
    (D.arr IntKind.u8 (16 : Nat)
    ((xoI (cbC w R iv (padL p) x_2.snd) (padL p) ((16 : Nat) * x_2.snd) x_2.fst).set (↑x_2.fst : Int).toNat
    (ixor IntKind.u8 ((xoI (cbC w R iv (padL p) x_2.snd) (padL p) ((16 : Nat) * x_2.snd) x_2.fst).getD (↑x_2.fst : Int).toNat (0 : Int)) ((seM w R iv (padL p) x_1).getD (IntKind.i64.wrap ((↑((16 : Nat) * x_1) : Int) + (↑x_2.fst : Int))).toNat (0 : Int)))))) =
    some (Blk.fix (D.arr IntKind.u8 (16 : Nat) (xoI (cbC w R iv (padL p) ((↑((16 : Nat) * x_1) : Int).toNat / (16 : Nat))) (padL p) ((16 : Nat) * ((↑((16 : Nat) * x_1) : Int).toNat / (16 : Nat))) (IntKind.i64.wrap ((↑x_2.fst : Int) + (1 : Int))).toNat))) ∧
    some (Blk.row (5 : TypeId) (D.ints IntKind.u8 (seM w R iv (padL p) x_1))) = some (Blk.row (5 : TypeId) (D.ints IntKind.u8 (seM w R iv (padL p) x_1))) ∧ True) ∧
    true = true) ∧
    ((IntKind.i64.wrap ((↑x_2.fst : Int) + (1 : Int))).toNat ≤ (16 : Nat) ∧ (↑((16 : Nat) * ((↑((16 : Nat) * x_1) : Int).toNat / (16 : Nat))) : Int) = (↑((16 : Nat) * x_1) : Int)) ∧ (16 : Nat) - (IntKind.i64.wrap ((↑x_2.fst : Int) + (1 : Int))).toNat < (16 : Nat) - x_2.fst
   | false =>
    ((241 : Nat) ≠ (0 : Nat) ∧ (241 : Nat) = (241 : Nat) ∧ true = true) ∧
    ((16 : Nat) ≠ (0 : Nat) ∧ (16 : Nat) = (16 : Nat) ∧ true = true) ∧
    (∃ (w_1 : List Int),
    ∃ (R_1 : Nat),
    ∃ (b : List Int),
    [D.st [D.arr IntKind.u8 (240 : Nat) w, D.val (Value.int IntKind.i64 (↑R : Int))], D.arr IntKind.u8 (16 : Nat) (xoI (cbC w R iv (padL p) x_2.snd) (padL p) ((16 : Nat) * x_2.snd) x_2.fst)] =
    [D.st [D.arr IntKind.u8 (240 : Nat) w_1, D.val (Value.int IntKind.i64 (↑R_1 : Int))], D.arr IntKind.u8 (16 : Nat) b] ∧
    isB (240 : Nat) w_1 ∧ isB (16 : Nat) b ∧ R_1 ≤ (14 : Nat)) ∧
    (Sk.arr (16 : Nat) = Sk.arr (16 : Nat) ∧ (16 : Nat) ≠ (0 : Nat) ∧ (16 : Nat) = (16 : Nat) ∧ false = false) ∧
    True ∧
    True ∧
    ((0 : Int) ≤ (↑((16 : Nat) * x_1) : Int) ∧ (↑((16 : Nat) * x_1) : Int) ≤ (↑(seM w R iv (padL p) x_1).length : Int) ∧ (↑(seM w R iv (padL p) x_1).length : Int) ≤ (↑(seM w R iv (padL p) x_1).length : Int) ∧ (1 : Nat) ≠ (0 : Nat) ∧ (1 : Nat) = (1 : Nat)) ∧
    ((0 : Int) ≤ (0 : Int) ∧ (0 : Int) ≤ (↑(16 : Nat) : Int) ∧ (↑(16 : Nat) : Int) ≤ (↑(16 : Nat) : Int) ∧ (16 : Nat) = (16 : Nat) ∧ (1 : Nat) = (1 : Nat)) ∧
    (IntKind.u8 = IntKind.u8 ∧ (1 : Nat) = (1 : Nat)) ∧
    True ∧
    True ∧
    True ∧
    ((AV.d (D.st [D.arr IntKind.u8 (240 : Nat) w, D.val (Value.int IntKind.i64 (↑R : Int))]) = AV.d (D.st [D.arr IntKind.u8 (240 : Nat) w, D.val (Value.int IntKind.i64 (↑R : Int))]) ∧
    AV.d (D.arr IntKind.u8 (16 : Nat) iv) = AV.d (D.arr IntKind.u8 (16 : Nat) iv) ∧
    AV.d (D.ints IntKind.u8 p) = AV.d (D.ints IntKind.u8 p) ∧
    AV.ptr (3 : Nat) [] = AV.ptr (3 : Nat) [] ∧
    AV.ptr (4 : Nat) [] = AV.ptr (4 : Nat) [] ∧
    AV.d (D.val (Value.slice none (0 : Nat) (0 : Nat))) = AV.d (D.val (Value.slice none (0 : Nat) (0 : Nat))) ∧
    AV.d (D.val (Value.int IntKind.i64 (IntKind.i64.wrap ((16 : Int) - (↑p.length : Int).tmod (16 : Int))))) = AV.d (D.val (Value.int IntKind.i64 (IntKind.i64.wrap ((16 : Int) - (↑p.length : Int).tmod (16 : Int))))) ∧
    AV.row (19 : Nat) = AV.row (19 : Nat) ∧
    AV.d (D.val (Value.int IntKind.i64 (IntKind.i64.wrap ((↑((16 : Nat) * x_1) : Int) + (16 : Int))))) = AV.d (D.val (Value.int IntKind.i64 (↑((16 : Nat) * ((IntKind.i64.wrap ((↑((16 : Nat) * x_1) : Int) + (16 : Int))).toNat / (16 : Nat))) : Int))) ∧
    AV.d (D.ints IntKind.u8 p) = AV.d (D.ints IntKind.u8 p) ∧
    AV.d (D.val (Value.int IntKind.i64 (↑p.length : Int))) = AV.d (D.val (Value.int IntKind.i64 (↑p.length : Int))) ∧
    AV.d (D.val (Value.int IntKind.i64 ((↑p.length : Int).tmod (16 : Int)))) = AV.d (D.val (Value.int IntKind.i64 ((↑p.length : Int).tmod (16 : Int)))) ∧
    AV.d (D.val (Value.int IntKind.i64 (IntKind.i64.wrap ((16 : Int) - (↑p.length : Int).tmod (16 : Int))))) = AV.d (D.val (Value.int IntKind.i64 (IntKind.i64.wrap ((16 : Int) - (↑p.length : Int).tmod (16 : Int))))) ∧
    AV.d (D.ints IntKind.u8 p) = AV.d (D.ints IntKind.u8 p) ∧
    AV.d (D.val (Value.int IntKind.i64 (↑p.length : Int))) = AV.d (D.val (Value.int IntKind.i64 (↑p.length : Int))) ∧
    AV.d (D.val (Value.int IntKind.i64 (IntKind.i64.wrap ((16 : Int) - (↑p.length : Int).tmod (16 : Int))))) = AV.d (D.val (Value.int IntKind.i64 (IntKind.i64.wrap ((16 : Int) - (↑p.length : Int).tmod (16 : Int))))) ∧
    AV.d (D.val (Value.int IntKind.i64 (IntKind.i64.wrap ((↑p.length : Int) + IntKind.i64.wrap ((16 : Int) - (↑p.length : Int).tmod (16 : Int)))))) =
    AV.d (D.val (Value.int IntKind.i64 (IntKind.i64.wrap ((↑p.length : Int) + IntKind.i64.wrap ((16 : Int) - (↑p.length : Int).tmod (16 : Int)))))) ∧
    AV.d (D.ints IntKind.u8 p) = AV.d (D.ints IntKind.u8 p) ∧
    AV.d (D.val (Value.int IntKind.i64 (IntKind.i64.wrap ((16 : Int) - (↑p.length : Int).tmod (16 : Int))))) = AV.d (D.val (Value.int IntKind.i64 (IntKind.i64.wrap ((16 : Int) - (↑p.length : Int).tmod (16 : Int))))) ∧
    AV.d (D.val (Value.int IntKind.i64 (↑x : Int))) = AV.d (D.val (Value.int IntKind.i64 (↑x : Int))) ∧
    AV.d (D.val (Value.bool (decide ((↑x : Int) < IntKind.i64.wrap ((16 : Int) - (↑p.length : Int).tmod (16 : Int)))))) = AV.d (D.val (Value.bool (decide ((↑x : Int) < IntKind.i64.wrap ((16 : Int) - (↑p.length : Int).tmod (16 : Int)))))) ∧ True) ∧
    (some (Blk.fix (D.st [D.arr IntKind.u8 (240 : Nat) w, D.val (Value.int IntKind.i64 (↑R : Int))])) = some (Blk.fix (D.st [D.arr IntKind.u8 (240 : Nat) w, D.val (Value.int IntKind.i64 (↑R : Int))])) ∧
    some (Blk.fix (D.arr IntKind.u8 (16 : Nat) (enL w (↑R : Int).toNat (xoI (cbC w R iv (padL p) x_2.snd) (padL p) ((16 : Nat) * x_2.snd) x_2.fst)))) =
    some (Blk.fix (D.arr IntKind.u8 (16 : Nat) (cbC w R iv (padL p) ((IntKind.i64.wrap ((↑((16 : Nat) * x_1) : Int) + (16 : Int))).toNat / (16 : Nat))))) ∧
    some
    (Blk.row (5 : TypeId)
    (D.ints IntKind.u8
    (List.take (↑((16 : Nat) * x_1) : Int).toNat (seM w R iv (padL p) x_1) ++
    List.take
    ((List.take ((↑(16 : Nat) : Int).toNat - Int.toNat (0 : Int)) (List.drop (0 : Nat) (enL w (↑R : Int).toNat (xoI (cbC w R iv (padL p) x_2.snd) (padL p) ((16 : Nat) * x_2.snd) x_2.fst)))).length.min
    ((↑(seM w R iv (padL p) x_1).length : Int).toNat - (↑((16 : Nat) * x_1) : Int).toNat))
    (List.take ((↑(16 : Nat) : Int).toNat - Int.toNat (0 : Int)) (List.drop (0 : Nat) (enL w (↑R : Int).toNat (xoI (cbC w R iv (padL p) x_2.snd) (padL p) ((16 : Nat) * x_2.snd) x_2.fst)))) ++
    List.drop
    ((↑((16 : Nat) * x_1) : Int).toNat +
    (List.take ((↑(16 : Nat) : Int).toNat - Int.toNat (0 : Int)) (List.drop (0 : Nat) (enL w (↑R : Int).toNat (xoI (cbC w R iv (padL p) x_2.snd) (padL p) ((16 : Nat) * x_2.snd) x_2.fst)))).length.min
    ((↑(seM w R iv (padL p) x_1).length : Int).toNat - (↑((16 : Nat) * x_1) : Int).toNat))
    (seM w R iv (padL p) x_1)))) =
    some (Blk.row (5 : TypeId) (D.ints IntKind.u8 (seM w R iv (padL p) ((IntKind.i64.wrap ((↑((16 : Nat) * x_1) : Int) + (16 : Int))).toNat / (16 : Nat))))) ∧
    True) ∧
    true = true) ∧
    (IntKind.i64.wrap ((↑((16 : Nat) * x_1) : Int) + (16 : Int))).toNat / (16 : Nat) ≤ padK p ∧ padK p - (IntKind.i64.wrap ((↑((16 : Nat) * x_1) : Int) + (16 : Int))).toNat / (16 : Nat) < padK p - x_1
  | false => True ∧ True ∧ (false = false ∧ True) ∧ D.ints IntKind.u8 (seM w R iv (padL p) x_1) = F) := by kernel_rfl
set_option maxRecDepth 100000 in
theorem vc32  (W : List D) (bx ux iv p : List Int) (F : D)  :
    (owed c32 (inv32 (flW W) (W.length / 4 - 1) iv p) Try.f32 [.ref (cipD W bx ux), b16 iv, .str p] F) = (
 (True ∧ false = false) ∧
 True ∧
 True ∧
 True ∧
 (16 : Int) ≠ (0 : Int) ∧
 True ∧
 True ∧
 True ∧
 True ∧
 (((AV.d (D.val (Value.int IntKind.i64 (0 : Int))) = AV.d (D.val (Value.int IntKind.i64 (↑(Int.toNat (0 : Int)) : Int))) ∧ AV.d (D.str p) = AV.d (D.str (padI p (Int.toNat (0 : Int)))) ∧ True) ∧ (some (Blk.fix (D.arr IntKind.u8 (16 : Nat) iv)) = some (Blk.fix (D.arr IntKind.u8 (16 : Nat) iv)) ∧ True) ∧ true = true) ∧ Int.toNat (0 : Int) ≤ padN p.length) ∧
 ∀ (x : Nat),
 x ≤ padN p.length →
 true = true ∧
 True ∧
 match decide ((↑x : Int) < IntKind.i64.wrap ((16 : Int) - (↑p.length : Int).tmod (16 : Int))) with
 | true =>
  True ∧
  True ∧
  True ∧
  ((1 : Nat) = (1 : Nat) ∧ (1 : Nat) ≤ (4096 : Nat)) ∧
  isBytes [IntKind.u8.wrap (IntKind.i64.wrap ((16 : Int) - (↑p.length : Int).tmod (16 : Int)))] ∧
  (↑((padI p x).length + (1 : Nat)) : Int) ≤ (9223372036854775807 : Int) ∧
  True ∧
  True ∧
  True ∧
  ((AV.d (D.val (Value.int IntKind.i64 (IntKind.i64.wrap ((↑x : Int) + (1 : Int))))) = AV.d (D.val (Value.int IntKind.i64 (↑(IntKind.i64.wrap ((↑x : Int) + (1 : Int))).toNat : Int))) ∧
  AV.d (D.str (padI p x ++ [IntKind.u8.wrap (IntKind.i64.wrap ((16 : Int) - (↑p.length : Int).tmod (16 : Int)))])) = AV.d (D.str (padI p (IntKind.i64.wrap ((↑x : Int) + (1 : Int))).toNat)) ∧ True) ∧
  (some (Blk.fix (D.arr IntKind.u8 (16 : Nat) iv)) = some (Blk.fix (D.arr IntKind.u8 (16 : Nat) iv)) ∧ True) ∧ true = true) ∧
  (IntKind.i64.wrap ((↑x : Int) + (1 : Int))).toNat ≤ padN p.length ∧ padN p.length - (IntKind.i64.wrap ((↑x : Int) + (1 : Int))).toNat < padN p.length - x
 | false =>
  True ∧
  (((AV.d (D.str (padI p x)) = AV.d (D.str (List.drop ((16 : Nat) * ((ints { data := { toList := [] } }).length / (16 : Nat))) (padL p))) ∧ AV.d (D.str (ints { data := { toList := [] } })) = AV.d (D.str (seL (flW W) (W.length / (4 : Nat) - (1 : Nat)) iv (padL p) ((ints { data := { toList := [] } }).length / (16 : Nat)))) ∧ True) ∧
  (some (Blk.fix (D.arr IntKind.u8 (16 : Nat) iv)) = some (Blk.fix (D.arr IntKind.u8 (16 : Nat) (cbC (flW W) (W.length / (4 : Nat) - (1 : Nat)) iv (padL p) ((ints { data := { toList := [] } }).length / (16 : Nat))))) ∧ True) ∧ true = true) ∧
  (ints { data := { toList := [] } }).length / (16 : Nat) ≤ padK p) ∧
  ∀ (x : Nat),
  x ≤ padK p →
  true = true ∧
  True ∧
  True ∧
  True ∧
  match decide ((↑(List.drop ((16 : Nat) * x) (padL p)).length : Int) > (0 : Int)) with
  | true =>
   True ∧
   ((16 : Nat) ≠ (0 : Nat) ∧ (16 : Nat) = (16 : Nat) ∧ true = true) ∧
   True ∧
   ((0 : Int) ≤ (0 : Int) ∧ (0 : Int) ≤ (16 : Int) ∧ (16 : Int) ≤ (↑(List.drop ((16 : Nat) * x) (padL p)).length : Int)) ∧
   (∃ (s : List Int), [D.str (List.drop (Int.toNat (0 : Int)) (List.take (16 : Nat) (List.drop ((16 : Nat) * x) (padL p))))] = [D.str s] ∧ okb s ∧ (16 : Nat) ≤ s.length) ∧
   (∃ (a : List Int),
   ∃ (b : List Int),
   [D.arr IntKind.u8 (16 : Nat) (cbC (flW W) (W.length / (4 : Nat) - (1 : Nat)) iv (padL p) x), D.arr IntKind.u8 (16 : Nat) (List.take (16 : Nat) (List.drop (Int.toNat (0 : Int)) (List.take (16 : Nat) (List.drop ((16 : Nat) * x) (padL p)))))] = [D.arr IntKind.u8 (16 : Nat) a, D.arr IntKind.u8 (16 : Nat) b] ∧
   isB (16 : Nat) a ∧ isB (16 : Nat) b) ∧
   (∃ (W_1 : List D),
   ∃ (bx_1 : List Int),
   ∃ (ux_1 : List Int),
   ∃ (b : List Int),
   [(D.st [D.slc (4 : Nat) W, D.arr IntKind.u8 (256 : Nat) bx, D.arr IntKind.u8 (256 : Nat) ux]).ref, D.arr IntKind.u8 (16 : Nat) (xoL (cbC (flW W) (W.length / (4 : Nat) - (1 : Nat)) iv (padL p) x) (List.take (16 : Nat) (List.drop (Int.toNat (0 : Int)) (List.take (16 : Nat) (List.drop ((16 : Nat) * x) (padL p))))) (0 : Nat))] =
   [(D.st [D.slc (4 : Nat) W_1, D.arr IntKind.u8 (256 : Nat) bx_1, D.arr IntKind.u8 (256 : Nat) ux_1]).ref, D.arr IntKind.u8 (16 : Nat) b] ∧
   okW W_1 ∧ (4 : Nat) ≤ W_1.length ∧ W_1.length ≤ (60 : Nat) ∧ okX bx_1 ux_1 ∧ isB (16 : Nat) b) ∧
   (Sk.arr (16 : Nat) = Sk.arr (16 : Nat) ∧ (16 : Nat) ≠ (0 : Nat) ∧ (16 : Nat) = (16 : Nat) ∧ false = false) ∧
   True ∧
   ((0 : Int) ≤ (0 : Int) ∧ (0 : Int) ≤ (↑(16 : Nat) : Int) ∧ (↑(16 : Nat) : Int) ≤ (↑(16 : Nat) : Int) ∧ (16 : Nat) = (16 : Nat) ∧ (1 : Nat) = (1 : Nat)) ∧
   isBytes
   (List.take ((↑(16 : Nat) : Int).toNat - Int.toNat (0 : Int))
   (List.drop (0 : Nat) (enL (flW W) (W.length / (4 : Nat) - (1 : Nat)) (xoL (cbC (flW W) (W.length / (4 : Nat) - (1 : Nat)) iv (padL p) x) (List.take (16 : Nat) (List.drop (Int.toNat (0 : Int)) (List.take (16 : Nat) (List.drop ((16 : Nat) * x) (padL p))))) (0 : Nat))))) ∧
   (↑((seL (flW W) (W.length / (4 : Nat) - (1 : Nat)) iv (padL p) x).length +
   (List.take ((↑(16 : Nat) : Int).toNat - Int.toNat (0 : Int))
   (List.drop (0 : Nat) (enL (flW W) (W.length / (4 : Nat) - (1 : Nat)) (xoL (cbC (flW W) (W.length / (4 : Nat) - (1 : Nat)) iv (padL p) x) (List.take (16 : Nat) (List.drop (Int.toNat (0 : Int)) (List.take (16 : Nat) (List.drop ((16 : Nat) * x) (padL p))))) (0 : Nat))))).length) :
   Int) ≤
   (9223372036854775807 : Int) ∧
   True ∧
   True ∧
   ((0 : Int) ≤ (16 : Int) ∧ (16 : Int) ≤ (↑(List.drop ((16 : Nat) * x) (padL p)).length : Int) ∧ (↑(List.drop ((16 : Nat) * x) (padL p)).length : Int) ≤ (↑(List.drop ((16 : Nat) * x) (padL p)).length : Int)) ∧
   True ∧
   ((AV.d (D.str (List.drop (16 : Nat) (List.take (↑(List.drop ((16 : Nat) * x) (padL p)).length : Int).toNat (List.drop ((16 : Nat) * x) (padL p))))) =
   AV.d
   (D.str
   (List.drop
   ((16 : Nat) *
   ((seL (flW W) (W.length / (4 : Nat) - (1 : Nat)) iv (padL p) x ++
   List.take ((↑(16 : Nat) : Int).toNat - Int.toNat (0 : Int))
   (List.drop (0 : Nat) (enL (flW W) (W.length / (4 : Nat) - (1 : Nat)) (xoL (cbC (flW W) (W.length / (4 : Nat) - (1 : Nat)) iv (padL p) x) (List.take (16 : Nat) (List.drop (Int.toNat (0 : Int)) (List.take (16 : Nat) (List.drop ((16 : Nat) * x) (padL p))))) (0 : Nat))))).length /
   (16 : Nat)))
   (padL p))) ∧
   AV.d
   (D.str
   (seL (flW W) (W.length / (4 : Nat) - (1 : Nat)) iv (padL p) x ++
   List.take ((↑(16 : Nat) : Int).toNat - Int.toNat (0 : Int))
   (List.drop (0 : Nat) (enL (flW W) (W.length / (4 : Nat) - (1 : Nat)) (xoL (cbC (flW W) (W.length / (4 : Nat) - (1 : Nat)) iv (padL p) x) (List.take (16 : Nat) (List.drop (Int.toNat (0 : Int)) (List.take (16 : Nat) (List.drop ((16 : Nat) * x) (padL p))))) (0 : Nat)))))) =
   AV.d
   (D.str
   (seL (flW W) (W.length / (4 : Nat) - (1 : Nat)) iv (padL p)
   ((seL (flW W) (W.length / (4 : Nat) - (1 : Nat)) iv (padL p) x ++
   List.take ((↑(16 : Nat) : Int).toNat - Int.toNat (0 : Int))
   (List.drop (0 : Nat) (enL (flW W) (W.length / (4 : Nat) - (1 : Nat)) (xoL (cbC (flW W) (W.length / (4 : Nat) - (1 : Nat)) iv (padL p) x) (List.take (16 : Nat) (List.drop (Int.toNat (0 : Int)) (List.take (16 : Nat) (List.drop ((16 : Nat) * x) (padL p))))) (0 : Nat))))).length /
   (16 : Nat)))) ∧
   True) ∧
   (some (Blk.fix (D.arr IntKind.u8 (16 : Nat) (enL (flW W) (W.length / (4 : Nat) - (1 : Nat)) (xoL (cbC (flW W) (W.length / (4 : Nat) - (1 : Nat)) iv (padL p) x) (List.take (16 : Nat) (List.drop (Int.toNat (0 : Int)) (List.take (16 : Nat) (List.drop ((16 : Nat) * x) (padL p))))) (0 : Nat))))) =
   some
   (Blk.fix
   (D.arr IntKind.u8 (16 : Nat)
   (cbC (flW W) (W.length / (4 : Nat) - (1 : Nat)) iv (padL p)
   ((seL (flW W) (W.length / (4 : Nat) - (1 : Nat)) iv (padL p) x ++
   List.take ((↑(16 : Nat) : Int).toNat - Int.toNat (0 : Int))
   (List.drop (0 : Nat) (enL (flW W) (W.length / (4 : Nat) - (1 : Nat)) (xoL (cbC (flW W) (W.length / (4 : Nat) - (1 : Nat)) iv (padL p) x) (List.take (16 : Nat) (List.drop (Int.toNat (0 : Int)) (List.take (16 : Nat) (List.drop ((16 : Nat) * x) (padL p))))) (0 : Nat))))).length /
   (16 : Nat))))) ∧
   True) ∧
   true = true) ∧
   (seL (flW W) (W.length / (4 : Nat) - (1 : Nat)) iv (padL p) x ++
   List.take ((↑(16 : Nat) : Int).toNat - Int.toNat (0 : Int))
   (List.drop (0 : Nat) (enL (flW W) (W.length / (4 : Nat) - (1 : Nat)) (xoL (cbC (flW W) (W.length / (4 : Nat) - (1 : Nat)) iv (padL p) x) (List.take (16 : Nat) (List.drop (Int.toNat (0 : Int)) (List.take (16 : Nat) (List.drop ((16 : Nat) * x) (padL p))))) (0 : Nat))))).length /
   (16 : Nat) ≤
   padK p ∧
   padK p -
   (seL (flW W) (W.length / (4 : Nat) - (1 : Nat)) iv (padL p) x ++
   List.take ((↑(16 : Nat) : Int).toNat - Int.toNat (0 : Int))
   (List.drop (0 : Nat) (enL (flW W) (W.length / (4 : Nat) - (1 : Nat)) (xoL (cbC (flW W) (W.length / (4 : Nat) - (1 : Nat)) iv (padL p) x) (List.take (16 : Nat) (List.drop (Int.toNat (0 : Int)) (List.take (16 : Nat) (List.drop ((16 : Nat) * x) (padL p))))) (0 : Nat))))).length /
   (16 : Nat) <
   padK p - x
  | false => True ∧ True ∧ (false = false ∧ True) ∧ D.str (seL (flW W) (W.length / (4 : Nat) - (1 : Nat)) iv (padL p) x) = F) := by kernel_rfl
end Go.Proofs.Ytnadggcfdakpoaa
namespace Go.Proofs.Ytnadggcfdakpoaa
open Go Go.Vg
theorem getD_setS {a : List Int} {i j : Nat} {x : Int} (hi : i < a.length) : (a.set i x).getD j 0 = if j = i then x else a.getD j 0 := by
  simp only [List.getD_eq_getElem?_getD, List.getElem?_set]
  by_cases h : i = j
  · subst h; rw [if_pos rfl, if_pos rfl, if_pos hi]; rfl
  · rw [if_neg h, if_neg (fun e => h e.symm)]
theorem xoI_len (a b : List Int) (o i : Nat) : (xoI a b o i).length = 16 := by simp [xoI]
theorem xoI_get {a b : List Int} {o i j : Nat} (hj : j < 16) : (xoI a b o i).getD j 0 = if j < i then ixor .u8 (a.getD j 0) (b.getD (o + j) 0) else a.getD j 0 := by
  unfold xoI
  rw [List.getD_eq_getElem?_getD, List.getElem?_map, List.getElem?_range hj]
  rfl
theorem xoI_zero {a b : List Int} {o : Nat} (h : a.length = 16) : xoI a b o 0 = a := ext_getD (n := 16) (xoI_len _ _ _ _) h fun j hj => by rw [xoI_get hj, if_neg (by omega)]
theorem xoI_same {a b : List Int} {o i : Nat} (hi : i < 16) : (xoI a b o i).getD i 0 = a.getD i 0 := by rw [xoI_get hi, if_neg (by omega)]
theorem xoI_set {a b : List Int} {o i : Nat} (hi : i < 16) : (xoI a b o i).set i (ixor .u8 (a.getD i 0) (b.getD (o + i) 0)) = xoI a b o (i + 1) := by
  refine ext_getD (n := 16) (by rw [List.length_set, xoI_len]) (xoI_len _ _ _ _) fun j hj => ?_
  rw [getD_setS (by rw [xoI_len]; exact hi), xoI_get hj, xoI_get hj]
  by_cases h : j = i
  · subst h; rw [if_pos rfl, if_pos (by omega)]
  · rw [if_neg h]
    by_cases h2 : j < i
    · rw [if_pos h2, if_pos (by omega)]
    · rw [if_neg h2, if_neg (by omega)]
theorem xoI_ok {a b : List Int} (ha : okb a) (hb : okb b) (o i : Nat) : isB 16 (xoI a b o i) := isB_map fun j _ => by
  split
  · exact ixor_ok (okb_g ha _) (okb_g hb _)
  · exact okb_g ha _
theorem xoL_ok {a b : List Int} (ha : okb a) (hb : okb b) (o : Nat) : isB 16 (xoL a b o) := xoI_ok ha hb o 16
theorem xoL_get {a b : List Int} {o j : Nat} (hj : j < 16) : (xoL a b o).getD j 0 = ixor .u8 (a.getD j 0) (b.getD (o + j) 0) := by
  unfold xoL; rw [xoI_get hj, if_pos hj]
theorem xoL_congr {a b c : List Int} {o p : Nat} (h : ∀ j, j < 16 → b.getD (o + j) 0 = c.getD (p + j) 0) : xoL a b o = xoL a c p :=
  ext_getD (n := 16) (xoI_len _ _ _ _) (xoI_len _ _ _ _) fun j hj => by rw [xoL_get hj, xoL_get hj, h j hj]
theorem xoL_bk (a q : List Int) (k : Nat) : xoL a (bkL q k) 0 = xoL a q (16 * k) := xoL_congr fun j hj => by
  unfold bkL
  rw [getD_take (by omega), getD_drop, Nat.zero_add]
theorem okb_drop {l : List Int} (h : okb l) (n : Nat) : okb (l.drop n) := fun x hx => h x (List.mem_of_mem_drop hx)
theorem okb_take {l : List Int} (h : okb l) (n : Nat) : okb (l.take n) := fun x hx => h x (List.mem_of_mem_take hx)
theorem okb_app {a b : List Int} (ha : okb a) (hb : okb b) : okb (a ++ b) := fun x hx => (List.mem_append.1 hx).elim (ha x) (hb x)
theorem bkL_ok {s : List Int} (h : okb s) {k : Nat} (hk : 16 * k + 16 ≤ s.length) : isB 16 (bkL s k) := ⟨okb_take (okb_drop h _) _, by unfold bkL; rw [List.length_take, List.length_drop]; omega⟩
theorem padN_le (l : Nat) : 1 ≤ padN l ∧ padN l ≤ 16 ∧ (l + padN l) % 16 = 0 := by unfold padN; omega
theorem padI_len (p : List Int) (i : Nat) : (padI p i).length = p.length + i := by simp [padI]
theorem padL_len (p : List Int) : (padL p).length = p.length + padN p.length := padI_len _ _
theorem padK_eq (p : List Int) : 16 * padK p = (padL p).length := by
  have := padN_le p.length
  unfold padK
  rw [padL_len]
  omega
theorem padI_zero (p : List Int) : padI p 0 = p := by simp [padI]
theorem padI_succ (p : List Int) (i : Nat) : padI p i ++ [((padN p.length : Nat) : Int)] = padI p (i + 1) := by
  unfold padI
  rw [List.replicate_succ', List.append_assoc]
theorem padI_ok {p : List Int} (h : okb p) (i : Nat) : okb (padI p i) := okb_app h fun x hx => by
  rw [List.eq_of_mem_replicate hx]
  have := padN_le p.length
  omega
theorem padL_ok {p : List Int} (h : okb p) : okb (padL p) := padI_ok h _
theorem cbC_ok {w iv q : List Int} (hw : isB 240 w) (hi : isB 16 iv) (hq : okb q) (R : Nat) : ∀ k, isB 16 (cbC w R iv q k)
  | 0 => hi
  | k + 1 => enS_ok hw.1 (xoL_ok (cbC_ok hw hi hq R k).1 hq _).1 _ _
theorem seL_len {w iv q : List Int} (hw : isB 240 w) (hi : isB 16 iv) (hq : okb q) (R : Nat) : ∀ k, (seL w R iv q k).length = 16 * k
  | 0 => rfl
  | k + 1 => by rw [seL, List.length_append, seL_len hw hi hq R k, (cbC_ok hw hi hq R (k + 1)).2]; omega
theorem seL_ok {w iv q : List Int} (hw : isB 240 w) (hi : isB 16 iv) (hq : okb q) (R : Nat) : ∀ k, okb (seL w R iv q k)
  | 0 => fun x hx => by cases hx
  | k + 1 => okb_app (seL_ok hw hi hq R k) (cbC_ok hw hi hq R (k + 1)).1
theorem seM_len {w iv q : List Int} (hw : isB 240 w) (hi : isB 16 iv) (hq : okb q) (R : Nat) {k : Nat} (hk : 16 * k ≤ q.length) : (seM w R iv q k).length = q.length := by
  unfold seM
  rw [List.length_append, seL_len hw hi hq, List.length_drop]; omega
theorem seM_get {w iv q : List Int} (hw : isB 240 w) (hi : isB 16 iv) (hq : okb q) (R : Nat) {k j : Nat} : (seM w R iv q k).getD (16 * k + j) 0 = q.getD (16 * k + j) 0 := by
  unfold seM
  rw [getD_app, if_neg (by rw [seL_len hw hi hq]; omega), seL_len hw hi hq, getD_drop]
  congr 1
  omega
theorem seM_step {w iv q : List Int} (hw : isB 240 w) (hi : isB 16 iv) (hq : okb q) (R : Nat) {k N : Nat} (hN : N = 16) :
    (seM w R iv q k).take (16 * k) ++ (cbC w R iv q (k + 1)).take N ++ (seM w R iv q k).drop (16 * k + N) = seM w R iv q (k + 1) := by
  subst hN
  have hl := seL_len hw hi hq R k
  unfold seM
  rw [List.take_left' hl, List.take_of_length_le (by rw [(cbC_ok hw hi hq R (k + 1)).2]; exact Nat.le_refl _), ← List.drop_drop, List.drop_left' hl, List.drop_drop, seL]
  rfl
theorem opD_ok {w s iv : List Int} (hw : isB 240 w) (hi : isB 16 iv) (hs : okb s) (R k : Nat) (hk : 16 * k + 16 ≤ s.length) : isB 16 (opD w R iv s k) := by
  refine xoL_ok (adK_ok hw.1 (deS_ok hw.1 (bkL_ok hs hk) R R).1 0).1 ?_ _
  unfold pvB
  split
  · exact hi.1
  · exact okb_take (okb_drop hs _) _
theorem pvB_ok {s iv : List Int} (hi : isB 16 iv) (hs : okb s) {k : Nat} (hk : 16 * k ≤ s.length) : isB 16 (pvB iv s k) := by
  unfold pvB
  split
  · exact hi
  · exact bkL_ok hs (by omega)
theorem opD_len (w : List Int) (R : Nat) (iv s : List Int) (k : Nat) : (opD w R iv s k).length = 16 := xoI_len _ _ _ _
theorem opL_len (w : List Int) (R : Nat) (iv s : List Int) : ∀ k, (opL w R iv s k).length = 16 * k
  | 0 => rfl
  | k + 1 => by rw [opL, List.length_append, opL_len w R iv s k, opD_len]; omega
theorem opL_ok {w s iv : List Int} (hw : isB 240 w) (hi : isB 16 iv) (hs : okb s) (R : Nat) : ∀ k, 16 * k ≤ s.length → okb (opL w R iv s k)
  | 0, _ => fun x hx => by cases hx
  | k + 1, h => okb_app (opL_ok hw hi hs R k (by omega)) (opD_ok hw hi hs R k (by omega)).1
theorem opM_zero (w : List Int) (R : Nat) (iv s : List Int) : opM w R iv s 0 0 = List.replicate s.length 0 := by
  unfold opM
  simp [opL]
theorem opM_next (w : List Int) (R : Nat) (iv s : List Int) (k : Nat) : opM w R iv s k 16 = opM w R iv s (k + 1) 0 := by
  unfold opM
  rw [List.take_of_length_le (by rw [opD_len]; exact Nat.le_refl _), List.take_zero, List.nil_append, opL, List.append_assoc]
  congr 3
theorem opM_set {w : List Int} {R : Nat} {iv s : List Int} {k j : Nat} (hj : j < 16) (hl : 16 * k + 16 ≤ s.length) : (opM w R iv s k j).set (16 * k + j) ((opD w R iv s k).getD j 0) = opM w R iv s k (j + 1) := by
  unfold opM
  have hd := opD_len w R iv s k
  rw [List.set_append_right _ _ (by rw [opL_len]; omega), opL_len, show 16 * k + j - 16 * k = j by omega, List.set_append_right _ _ (by rw [List.length_take]; omega), List.length_take, hd, show j - min j 16 = 0 by omega,
    show s.length - (16 * k + j) = (s.length - (16 * k + (j + 1))) + 1 by omega, List.replicate_succ, List.set_cons_zero, List.take_succ_eq_append_getElem (by omega), List.append_assoc, List.getD_eq_getElem?_getD, List.getElem?_eq_getElem (by omega)]
  rfl
theorem opM_end {w : List Int} {R : Nat} {iv s : List Int} (h : s.length % 16 = 0) : opM w R iv s (s.length / 16) 0 = plO w R iv s := by
  unfold opM plO
  rw [List.take_zero, List.nil_append, show s.length - (16 * (s.length / 16) + 0) = 0 by omega]
  exact List.append_nil _
theorem plO_len {w : List Int} {R : Nat} {iv s : List Int} (h : s.length % 16 = 0) : (plO w R iv s).length = s.length := by
  unfold plO; rw [opL_len]; omega
theorem plO_ok {w s iv : List Int} (hw : isB 240 w) (hi : isB 16 iv) (hs : okb s) (R : Nat) : okb (plO w R iv s) := opL_ok hw hi hs R _ (by omega)
theorem opnE_arg {w : List Int} {R : Nat} {iv s : List Int} (h : ¬ okC s) : opnE w R iv s = 1 ∧ opnL w R iv s = [] := by
  unfold opnE opnL
  rw [if_neg h, if_neg (fun hc => h hc.1)]
  exact ⟨rfl, rfl⟩
theorem opnE_form {w : List Int} {R : Nat} {iv s : List Int} (h : okC s) (h2 : ¬ unO (plO w R iv s)) : opnE w R iv s = 4 ∧ opnL w R iv s = [] := by
  unfold opnE opnL
  rw [if_pos h, if_neg h2, if_neg (fun hc => h2 hc.2)]
  exact ⟨rfl, rfl⟩
theorem opnE_ok {w : List Int} {R : Nat} {iv s : List Int} (h : okC s) (h2 : unO (plO w R iv s)) : opnE w R iv s = 0 ∧ opnL w R iv s = (plO w R iv s).take (s.length - unN (plO w R iv s)) := by
  unfold opnE opnL
  rw [if_pos h, if_pos h2, if_pos ⟨h, h2⟩]
  exact ⟨rfl, rfl⟩
theorem unN_lt {l : List Int} (h : okb l) : unN l < 256 := by
  have := okb_g h (l.length - 1)
  unfold unN; omega
set_option maxRecDepth 100000 in
theorem m96 : Meets Try.prog 96 sp96 := by
  refine meets_of_owed (C := c96) ⟨tab_ok, fun f s h => by cases h⟩ (by kernel_rfl) (by kernel_rfl : Try.prog.funcs[96]? = some Try.f96) (by kernel_rfl) (by kernel_rfl) (by kernel_rfl) _ ?_
  rintro _ ⟨s, rfl, hs, hl⟩
  refine ⟨fun _ => rfl, inv96 s, ?_⟩
  show owed c96 (inv96 s) Try.f96 [.str s] (b16 (s.take 16))
  rw [vc96]
  simp (decide := true) only [eq_self, true_and, and_true, ne_eq, not_false_eq_true, Int.toNat_natCast]
  refine ⟨?_, ?_⟩
  · and_intros <;> first | exact True.intro | omega | rfl | decide
  intro i hi
  split
  · rename_i h
    have h := of_decide_eq_true h
    have hi : i < 16 := by omega
    have e1 : IntKind.i64.wrap ((i : Int) + 1) = ((i + 1 : Nat) : Int) := sq (by omega)
    have hset : (s.take i ++ List.replicate (16 - i) 0).set i (s.getD i 0) = s.take (i + 1) ++ List.replicate (16 - (i + 1)) 0 := by
      rw [List.set_append_right _ _ (by rw [List.length_take]; omega), List.length_take, show i - min i s.length = 0 by omega, show 16 - i = (16 - (i + 1)) + 1 by omega, List.replicate_succ, List.set_cons_zero, List.take_succ_eq_append_getElem (by omega), List.append_assoc, List.getD_eq_getElem?_getD, List.getElem?_eq_getElem (by omega)]
      rfl
    rw [e1, Int.toNat_natCast, hset]
    and_intros <;> first | exact True.intro | omega | rfl | decide
  · rename_i h
    have h := of_decide_eq_false h
    have hi : i = 16 := by omega
    subst hi
    and_intros <;> first | exact True.intro | omega | rfl | decide | simp
set_option maxRecDepth 100000 in
theorem m97 : Meets Try.prog 97 sp97 := by
  refine meets_of_owed (C := c96) ⟨tab_ok, fun f s h => by cases h⟩ (by kernel_rfl) (by kernel_rfl : Try.prog.funcs[97]? = some Try.f97) (by kernel_rfl) (by kernel_rfl) (by kernel_rfl) _ ?_
  rintro _ ⟨a, b, rfl, ha, hb⟩
  refine ⟨fun _ => rfl, inv97 a b, ?_⟩
  show owed c96 (inv97 a b) Try.f97 [b16 a, b16 b] (b16 (xoL a b 0))
  rw [vc97]
  simp (decide := true) only [eq_self, true_and, and_true, ne_eq, not_false_eq_true, Int.toNat_natCast]
  refine ⟨?_, ?_⟩
  · and_intros <;> first | exact True.intro | exact b16c (xoI_zero ha.2).symm | omega | rfl | decide
  intro i hi
  split
  · rename_i h
    have h := of_decide_eq_true h
    have hi : i < 16 := by omega
    have e1 : IntKind.i64.wrap ((i : Int) + 1) = ((i + 1 : Nat) : Int) := sq (by omega)
    have hset := xoI_set (a := a) (b := b) (o := 0) hi
    rw [Nat.zero_add] at hset
    rw [e1, Int.toNat_natCast, xoI_same hi, hset]
    and_intros <;> first | exact True.intro | omega | rfl | decide
  · rename_i h
    have h := of_decide_eq_false h
    have hi : i = 16 := by omega
    subst hi
    and_intros <;> first | exact True.intro | omega | rfl | decide
end Go.Proofs.Ytnadggcfdakpoaa
namespace Go.Proofs.Ytnadggcfdakpoaa
open Go Go.Vg
theorem d16' (k : Nat) : 16 * k / 16 = k := by omega
theorem arc' {n : Nat} {a b : List Int} (h : a = b) : some (Blk.fix (.arr .u8 n a)) = some (Blk.fix (.arr .u8 n b)) := by rw [h]
theorem pvB_next (iv s : List Int) (k : Nat) : pvB iv s (k + 1) = bkL s k := by
  unfold pvB
  rw [if_neg (by omega), Nat.add_sub_cancel]
theorem bk_copy {s : List Int} {k : Nat} (h : 16 * k + 16 ≤ s.length) (z : List Int) (hz : z.length = 16) {N : Nat} (hN : N = 16) {L : List Int} (hL : L = s.drop (16 * k)) : L.take N ++ z.drop (0 + N) = bkL s k := by
  subst hN hL
  rw [List.drop_of_length_le (l := z) (by omega), List.append_nil]
  rfl
theorem opD_get {w : List Int} {R : Nat} {iv s : List Int} {k j : Nat} (hj : j < 16) : (opD w R iv s k).getD j 0 = ixor .u8 ((deL w R (bkL s k)).getD j 0) ((pvB iv s k).getD j 0) := by
  unfold opD
  rw [xoL_get hj, Nat.zero_add]
set_option maxRecDepth 100000 in
theorem m29 : Meets Try.prog 29 sp29 := by
  refine meets_of_owed (C := c29) ⟨tab_ok, lkS_ok ⟨m27, trivial⟩⟩ (by kernel_rfl) (by kernel_rfl : Try.prog.funcs[29]? = some Try.f29) (by kernel_rfl) (by kernel_rfl) (by kernel_rfl) _ ?_
  rintro _ ⟨w, R, iv, s, rfl, hw, hR, hiv, hs, hls⟩
  refine ⟨(by intro h; cases h), inv29 w R iv s, ?_⟩
  show owed c29 (inv29 w R iv s) Try.f29 [keyD w ((R : Nat) : Int), b16 iv, .ints .u8 s] (.tup [.ints .u8 (opnL w R iv s), .val (.int .i64 (opnE w R iv s))])
  rw [vc29]
  have hls : s.length ≤ 140737488351232 := hls
  simp (decide := true) only [eq_self, true_and, and_true, ne_eq, not_false_eq_true, Int.toNat_natCast, tm16, List.take_length]
  split
  · rename_i h
    have h := eq_of_beq h
    obtain ⟨a1, a2⟩ := opnE_arg (w := w) (R := R) (iv := iv) (s := s) (fun hc => by have := hc.1; omega)
    rw [a1, a2]
  · rename_i h0
    have h0 : s.length ≠ 0 := fun e => by rw [e] at h0; exact absurd h0 (by decide)
    split
    · rename_i h
      have h := bne_iff_ne.1 h
      obtain ⟨a1, a2⟩ := opnE_arg (w := w) (R := R) (iv := iv) (s := s) (fun hc => by have := hc.2; omega)
      rw [a1, a2]
    · rename_i h1
      have h1 : s.length % 16 = 0 := by
        have := bne_eq_false_iff_eq.1 h1
        omega
      have hokC : okC s := ⟨by omega, h1⟩
      simp only [Nat.zero_div]
      and_intros
      all_goals first | exact True.intro | exact arc' (opM_zero w R iv s).symm | omega | rfl | decide | skip
      intro k hk
      have hkl : 16 * k ≤ s.length := by omega
      have hpv := pvB_ok hiv hs hkl
      split
      · rename_i h
        have h := of_decide_eq_true h
        have hk : 16 * k + 16 ≤ s.length := by omega
        have hbk := bkL_ok hs hk
        have hcp : List.take (Nat.min (List.drop (16 * k) s).length (16 - 0)) (List.drop (16 * k) s) ++ List.drop (0 + Nat.min (List.drop (16 * k) s).length (16 - 0)) [0, 0, 0, 0, 0, 0, 0, 0, 0, 0, 0, 0, 0, 0, 0, 0] = bkL s k := by
          refine bk_copy hk _ rfl ?_ rfl
          rw [List.length_drop]
          exact Nat.min_eq_right (by omega)
        simp only [d16', hcp]
        and_intros
        all_goals first | exact True.intro | exact ⟨_, _, _, rfl, hw, hbk, hR⟩ | omega | rfl | decide | skip
        rintro ⟨j, c⟩ ⟨hj, hc⟩
        have hj : j ≤ 16 := hj
        obtain rfl : c = k := by
          have hc : ((16 * c : Nat) : Int) = ((16 * k : Nat) : Int) := hc
          omega
        simp only []
        split
        · rename_i h
          have h := of_decide_eq_true h
          have hj : j < 16 := by omega
          have e1 : IntKind.i64.wrap ((j : Int) + 1) = ((j + 1 : Nat) : Int) := sq (by omega)
          have e2 : IntKind.i64.wrap (((16 * c : Nat) : Int) + (j : Int)) = ((16 * c + j : Nat) : Int) := by rw [wi (by omega) (by omega)]; omega
          simp only [e1, e2, Int.toNat_natCast, Nat.zero_add, ← opD_get hj, opM_set hj hk]
          and_intros <;> first | exact True.intro | omega | rfl | decide
        · rename_i h
          have h := of_decide_eq_false h
          obtain rfl : j = 16 := by omega
          have e2 : IntKind.i64.wrap (((16 * c : Nat) : Int) + 16) = ((16 * (c + 1) : Nat) : Int) := by rw [wi (by omega) (by omega)]; omega
          simp only [e2, Int.toNat_natCast, d16', pvB_next, opM_next]
          and_intros <;> first | exact True.intro | omega | rfl | decide
      · rename_i h
        have h := of_decide_eq_false h
        obtain rfl : k = s.length / 16 := by omega
        rw [opM_end h1]
        have hol := plO_len (w := w) (R := R) (iv := iv) h1
        have hoo := plO_ok hw hiv hs R
        have hun := unN_lt hoo
        have eu : (plO w R iv s).getD (s.length - 1) 0 = ((unN (plO w R iv s) : Nat) : Int) := by
          have := okb_g hoo (s.length - 1)
          unfold unN
          rw [hol]
          omega
        have e1 : IntKind.i64.wrap ((s.length : Int) - 1) = ((s.length - 1 : Nat) : Int) := by rw [wi (by omega) (by omega)]; omega
        have e2 : IntKind.i64.wrap ((unN (plO w R iv s) : Nat) : Int) = ((unN (plO w R iv s) : Nat) : Int) := by rw [wi (by omega) (by omega)]
        simp only [e1, e2, eu, Int.toNat_natCast, Nat.zero_add, List.drop_zero]
        generalize hO : plO w R iv s = O at *
        generalize hn : unN O = n at *
        refine ⟨⟨by omega, by omega⟩, ?_⟩
        split
        · rename_i h2
          have h2 := of_decide_eq_true h2
          obtain ⟨a1, a2⟩ := opnE_form (w := w) (R := R) (iv := iv) (s := s) hokC (by rw [hO]; intro hu; have := hu.1; omega)
          rw [a1, a2]
        · rename_i h2
          have h2 := of_decide_eq_false h2
          split
          · rename_i h3
            have h3 := of_decide_eq_true h3
            obtain ⟨a1, a2⟩ := opnE_form (w := w) (R := R) (iv := iv) (s := s) hokC (by rw [hO]; intro hu; have := hu.2.1; omega)
            rw [a1, a2]
          · rename_i h3
            have h3 := of_decide_eq_false h3
            have e3 : IntKind.i64.wrap ((s.length : Int) - (n : Int)) = ((s.length - n : Nat) : Int) := by rw [wi (by omega) (by omega)]; omega
            have t0 : tlO O 0 := fun j hj => absurd hj (Nat.not_lt_zero _)
            simp only [e3, Int.toNat_natCast]
            and_intros
            all_goals first | exact True.intro | exact t0 | omega | rfl | decide | skip
            rintro i ⟨hi, ht⟩
            split
            · rename_i h4
              have h4 := of_decide_eq_true h4
              have hi : i < n := by omega
              have hb := okb_g hoo (s.length - n + i)
              have e4 : IntKind.i64.wrap ((i : Int) + 1) = ((i + 1 : Nat) : Int) := sq (by omega)
              have e5 : IntKind.i64.wrap (O.getD (s.length - n + i) 0) = O.getD (s.length - n + i) 0 := wi (by omega) (by omega)
              rw [e5]
              refine ⟨⟨by omega, by omega⟩, ?_⟩
              split
              · rename_i h5
                have h5 := bne_iff_ne.1 h5
                obtain ⟨a1, a2⟩ := opnE_form (w := w) (R := R) (iv := iv) (s := s) hokC (by
                  rw [hO]; intro hu; have := hu.2.2 i (by omega); rw [hn, hol] at this; exact h5 this)
                rw [a1, a2]
              · rename_i h5
                have h5 := bne_eq_false_iff_eq.1 h5
                have ht2 : tlO O (i + 1) := by
                  intro j hj
                  by_cases hji : j = i
                  · subst hji; rw [hn, hol]; exact h5
                  · exact ht j (by omega)
                rw [e4, Int.toNat_natCast]
                and_intros <;> first | exact True.intro | exact ht2 | omega | rfl | decide
            · rename_i h4
              have h4 := of_decide_eq_false h4
              obtain rfl : i = n := by omega
              have hu : unO O := ⟨by omega, by omega, by rw [hn]; exact ht⟩
              obtain ⟨a1, a2⟩ := opnE_ok (w := w) (R := R) (iv := iv) (s := s) hokC (by rw [hO]; exact hu)
              rw [a1, a2, hO, hn]
              and_intros <;> first | exact True.intro | omega | rfl | decide
end Go.Proofs.Ytnadggcfdakpoaa
namespace Go.Proofs.Ytnadggcfdakpoaa
open Go Go.Vg
theorem d16 (k : Nat) : 16 * k / 16 = k := by omega
theorem rwc {a b : List Int} (h : a = b) : some (Blk.row (5 : TypeId) (.ints .u8 a)) = some (Blk.row (5 : TypeId) (.ints .u8 b)) := by rw [h]
theorem arc {n : Nat} {a b : List Int} (h : a = b) : some (Blk.fix (.arr .u8 n a)) = some (Blk.fix (.arr .u8 n b)) := by rw [h]
theorem pd16 (p : List Int) (hl : p.length ≤ 140737488351232) : IntKind.i64.wrap (16 - (p.length : Int).tmod 16) = ((padN p.length : Nat) : Int) := by
  rw [tm16, wi (by omega) (by omega)]; unfold padN; omega
theorem seM_zero (w : List Int) (R : Nat) (iv q : List Int) : seM w R iv q 0 = q := by unfold seM; simp [seL]
theorem seM_end {w : List Int} {R : Nat} {iv p : List Int} : seM w R iv (padL p) (padK p) = seL w R iv (padL p) (padK p) := by
  unfold seM
  rw [padK_eq, List.drop_of_length_le (Nat.le_refl _), List.append_nil]
set_option maxRecDepth 100000 in
theorem m31 : Meets Try.prog 31 sp31 := by
  refine meets_of_owed (C := c31) ⟨tab_ok, lkS_ok ⟨m25, trivial⟩⟩ (by kernel_rfl) (by kernel_rfl : Try.prog.funcs[31]? = some Try.f31) (by kernel_rfl) (by kernel_rfl) (by kernel_rfl) _ ?_
  rintro _ ⟨w, R, iv, p, rfl, hw, hR, hiv, hp, hlp⟩
  refine ⟨(by intro h; cases h), inv31 w R iv p, ?_⟩
  show owed c31 (inv31 w R iv p) Try.f31 [keyD w ((R : Nat) : Int), b16 iv, .ints .u8 p] (.ints .u8 (seL w R iv (padL p) (padK p)))
  rw [vc31]
  have hlp : p.length ≤ 140737488351232 := hlp
  have hpn := padN_le p.length
  have hq := padL_ok hp
  have hql := padL_len p
  have hqk := padK_eq p
  have ew2 : IntKind.i64.wrap ((p.length : Int) + ((padN p.length : Nat) : Int)) = ((p.length + padN p.length : Nat) : Int) := by rw [wi (by omega) (by omega)]; omega
  have ew3 : IntKind.u8.wrap ((padN p.length : Nat) : Int) = ((padN p.length : Nat) : Int) := by rw [wN8]; omega
  simp (decide := true) only [pd16 p hlp, ew2, ew3, eq_self, true_and, and_true, ne_eq, not_false_eq_true, Int.toNat_natCast, padI_succ, padI_len]
  and_intros
  all_goals first | exact True.intro | omega | rfl | exact rwc (padI_zero p).symm | decide | skip
  intro x hx
  split
  · rename_i h
    have h := of_decide_eq_true h
    have e1 : IntKind.i64.wrap ((x : Int) + 1) = ((x + 1 : Nat) : Int) := sq (by omega)
    rw [e1, Int.toNat_natCast]
    and_intros <;> first | exact True.intro | omega | rfl | decide
  · rename_i h
    have h := of_decide_eq_false h
    obtain rfl : x = padN p.length := by omega
    simp only [Nat.zero_div, seM_zero]
    and_intros
    all_goals first | exact True.intro | omega | rfl | decide | skip
    intro k hk
    have hkl : 16 * k ≤ (padL p).length := by omega
    have hsl := seM_len hw hiv hq R hkl
    have hcb := cbC_ok hw hiv hq R k
    simp only [hsl]
    split
    · rename_i h
      have h := of_decide_eq_true h
      have hk : k < padK p := by omega
      simp only [d16]
      and_intros
      all_goals first | exact True.intro | exact b16c (xoI_zero hcb.2).symm | omega | rfl | decide | skip
      rintro ⟨j, c⟩ ⟨hj, hc⟩
      have hj : j ≤ 16 := hj
      obtain rfl : c = k := by
        have hc : ((16 * c : Nat) : Int) = ((16 * k : Nat) : Int) := hc
        omega
      simp only []
      have hxo := xoI_ok hcb.1 hq (16 * c) j
      split
      · rename_i h
        have h := of_decide_eq_true h
        have hj : j < 16 := by omega
        have e1 : IntKind.i64.wrap ((j : Int) + 1) = ((j + 1 : Nat) : Int) := sq (by omega)
        have e2 : IntKind.i64.wrap (((16 * c : Nat) : Int) + (j : Int)) = ((16 * c + j : Nat) : Int) := by rw [wi (by omega) (by omega)]; omega
        simp only [e1, e2, Int.toNat_natCast]
        rw [xoI_same hj, seM_get hw hiv hq, xoI_set hj]
        and_intros <;> first | exact True.intro | omega | rfl | decide
      · rename_i h
        have h := of_decide_eq_false h
        obtain rfl : j = 16 := by omega
        have e2 : IntKind.i64.wrap (((16 * c : Nat) : Int) + 16) = ((16 * (c + 1) : Nat) : Int) := by rw [wi (by omega) (by omega)]; omega
        have e3 : enL w R (xoI (cbC w R iv (padL p) c) (padL p) (16 * c) 16) = cbC w R iv (padL p) (c + 1) := rfl
        have e4 := (cbC_ok hw hiv hq R (c + 1)).2
        have e5 : List.take (Int.toNat 16 - Int.toNat 0) (List.drop 0 (cbC w R iv (padL p) (c + 1))) = cbC w R iv (padL p) (c + 1) := List.take_of_length_le (Nat.le_of_eq e4)
        have e6 : Nat.min 16 ((padL p).length - 16 * c) = 16 := Nat.min_eq_left (by omega)
        have e7 := seM_step hw hiv hq R (k := c) rfl
        simp only [e2, Int.toNat_natCast, e3, d16] 
        and_intros
        all_goals first | exact True.intro | exact ⟨_, _, _, rfl, hw, hxo, hR⟩ | omega | rfl | decide | skip
        refine rwc ?_
        rw [← e7]
        have e8 : (List.take (Int.toNat 16 - Int.toNat 0) (List.drop 0 (cbC w R iv (padL p) (c + 1)))).length = 16 := by rw [e5, e4]
        have e9 : Nat.min (List.take (Int.toNat 16 - Int.toNat 0) (List.drop 0 (cbC w R iv (padL p) (c + 1)))).length ((padL p).length - 16 * c) = 16 := by rw [e8, e6]
        have e10 : ∀ N L : _, N = 16 → L = cbC w R iv (padL p) (c + 1) → List.take (16 * c) (seM w R iv (padL p) c) ++ List.take N L ++ List.drop (16 * c + N) (seM w R iv (padL p) c) = List.take (16 * c) (seM w R iv (padL p) c) ++ List.take 16 (cbC w R iv (padL p) (c + 1)) ++ List.drop (16 * c + 16) (seM w R iv (padL p) c) := by
          rintro _ _ rfl rfl; rfl
        exact e10 _ _ e9 e5
    · rename_i h
      have h := of_decide_eq_false h
      obtain rfl : k = padK p := by omega
      rw [seM_end]
end Go.Proofs.Ytnadggcfdakpoaa
namespace Go.Proofs.Ytnadggcfdakpoaa
open Go Go.Vg
theorem in0 : ints { data := { toList := [] } } = [] := rfl
theorem tn0 : Int.toNat 0 = 0 := rfl
set_option maxRecDepth 100000 in
theorem m32 : Meets Try.prog 32 sp32 := by
  refine meets_of_owed (C := c32) ⟨tab_ok, lkS_ok ⟨m96, m97, m26, trivial⟩⟩ (by kernel_rfl) (by kernel_rfl : Try.prog.funcs[32]? = some Try.f32) (by kernel_rfl) (by kernel_rfl) (by kernel_rfl) _ ?_
  rintro _ ⟨W, bx, ux, iv, p, rfl, hW, hW4, hW60, hX, hiv, hp, hlp⟩
  refine ⟨fun _ => rfl, inv32 (flW W) (W.length / 4 - 1) iv p, ?_⟩
  show owed c32 (inv32 (flW W) (W.length / 4 - 1) iv p) Try.f32 [.ref (cipD W bx ux), b16 iv, .str p] (.str (seL (flW W) (W.length / 4 - 1) iv (padL p) (padK p)))
  rw [vc32]
  have hlp : p.length ≤ 140737488351232 := hlp
  have hpn := padN_le p.length
  have hq := padL_ok hp
  have hql := padL_len p
  have hqk := padK_eq p
  have hw : okb (flW W) := flW_ok hW
  have ew3 : IntKind.u8.wrap ((padN p.length : Nat) : Int) = ((padN p.length : Nat) : Int) := by rw [wN8]; omega
  have eb : isBytes [((padN p.length : Nat) : Int)] := by
    intro y hy
    obtain rfl := List.mem_singleton.1 hy
    omega
  generalize hR : W.length / 4 - 1 = R
  generalize hv : flW W = w at *
  have cok : ∀ k, isB 16 (cbC w R iv (padL p) k) := by
    intro k
    induction k with
    | zero => exact hiv
    | succ k ih => exact enS_ok hw (xoL_ok ih.1 hq _).1 _ _
  have slen : ∀ k, (seL w R iv (padL p) k).length = 16 * k := by
    intro k
    induction k with
    | zero => rfl
    | succ k ih => rw [seL, List.length_append, ih, (cok (k + 1)).2]; omega
  simp (decide := true) only [in0, tn0, pd16 p hlp, ew3, eq_self, true_and, and_true, ne_eq, not_false_eq_true, Int.toNat_natCast, padI_succ, padI_zero, List.length_nil, Nat.zero_div, Nat.mul_zero, List.drop_zero, padI_len]
  refine ⟨?_, ?_⟩
  · and_intros <;> first | exact True.intro | omega | rfl | decide
  intro x hx
  split
  · rename_i h
    have h := of_decide_eq_true h
    have e1 : IntKind.i64.wrap ((x : Int) + 1) = ((x + 1 : Nat) : Int) := sq (by omega)
    rw [e1, Int.toNat_natCast]
    and_intros <;> first | exact True.intro | exact eb | omega | rfl | decide
  · rename_i h
    have h := of_decide_eq_false h
    obtain rfl : x = padN p.length := by omega
    refine ⟨?_, ?_⟩
    · and_intros <;> first | exact True.intro | omega | rfl | decide
    intro k hk
    split
    · rename_i h
      have h := of_decide_eq_true h
      have hk : k < padK p := by rw [List.length_drop] at h; omega
      have eB : List.take 16 (List.drop (16 * k) (padL p)) = bkL (padL p) k := rfl
      have eE : enL w R (xoL (cbC w R iv (padL p) k) (padL p) (16 * k)) = cbC w R iv (padL p) (k + 1) := rfl
      have e5 : List.take 16 (cbC w R iv (padL p) (k + 1)) = cbC w R iv (padL p) (k + 1) := List.take_of_length_le (Nat.le_of_eq (cok _).2)
      have eS : seL w R iv (padL p) k ++ cbC w R iv (padL p) (k + 1) = seL w R iv (padL p) (k + 1) := rfl
      have eM : 16 * k + 16 = 16 * (k + 1) := rfl
      have hbk := bkL_ok (k := k) hq (by omega)
      have hxo := xoL_ok (cok k).1 hq (16 * k)
      have eB2 : List.take 16 (bkL (padL p) k) = bkL (padL p) k := List.take_of_length_le (Nat.le_of_eq hbk.2)
      simp only [Nat.sub_zero, List.take_take, Nat.min_self, eB, eB2, xoL_bk, eE, e5, eS, slen, d16, List.take_length, List.drop_drop, eM, (cok _).2]
      have hby : isBytes (cbC w R iv (padL p) (k + 1)) := (cok _).1
      have hdl : 16 ≤ (List.drop (16 * k) (padL p)).length := by rw [List.length_drop]; omega
      and_intros <;> first | exact True.intro | exact ⟨_, rfl, hbk.1, Nat.le_of_eq hbk.2.symm⟩ | exact ⟨_, _, rfl, cok _, hbk⟩ | exact ⟨W, bx, ux, _, rfl, hW, hW4, hW60, hX, hxo⟩ | exact hby | omega | rfl | decide
    · rename_i h
      have h := of_decide_eq_false h
      obtain rfl : k = padK p := by rw [List.length_drop] at h; omega
      trivial
end Go.Proofs.Ytnadggcfdakpoaa
namespace Go.Proofs.Ytnadggcfdakpoaa
open Go Go.Vg
set_option maxRecDepth 100000 in
theorem m30 : Meets Try.prog 30 sp30 := by
  refine meets_of_owed (C := c30) ⟨tab_ok, lkS_ok ⟨m96, m97, m28, trivial⟩⟩ (by kernel_rfl) (by kernel_rfl : Try.prog.funcs[30]? = some Try.f30) (by kernel_rfl) (by kernel_rfl) (by kernel_rfl) _ ?_
  rintro _ ⟨W, bx, ux, iv, s, rfl, hW, hW4, hW60, hX, hiv, hs, hls⟩
  refine ⟨fun _ => rfl, inv30 (flW W) (W.length / 4 - 1) iv s, ?_⟩
  show owed c30 (inv30 (flW W) (W.length / 4 - 1) iv s) Try.f30 [.ref (cipD W bx ux), b16 iv, .str s] (.tup [.str (opnL (flW W) (W.length / 4 - 1) iv s), .val (.int .i64 (opnE (flW W) (W.length / 4 - 1) iv s))])
  rw [vc30]
  have hls : s.length ≤ 140737488351232 := hls
  have hw : okb (flW W) := flW_ok hW
  generalize hR : W.length / 4 - 1 = R
  generalize hv : flW W = w at *
  have dok : ∀ k, 16 * k + 16 ≤ s.length → isB 16 (opD w R iv s k) := fun k hk => by
    refine xoL_ok (adK_ok hw (deS_ok hw (bkL_ok hs hk) R R).1 0).1 ?_ _
    unfold pvB
    split
    · exact hiv.1
    · exact okb_take (okb_drop hs _) _
  have ook : ∀ k, 16 * k ≤ s.length → okb (opL w R iv s k) := by
    intro k
    induction k with
    | zero => exact fun _ x hx => by cases hx
    | succ k ih => exact fun hk => okb_app (ih (by omega)) (dok k (by omega)).1
  simp (decide := true) only [in0, tn0, eq_self, true_and, and_true, ne_eq, not_false_eq_true, Int.toNat_natCast, List.length_nil, Nat.zero_div, Nat.mul_zero, List.drop_zero, tm16, opL_len]
  split
  · rename_i h
    have h := eqB_iff.1 h
    obtain ⟨a1, a2⟩ := opnE_arg (w := w) (R := R) (iv := iv) (s := s) (fun hc => by have := hc.1; rw [h] at this; exact absurd this (by decide))
    rw [a1, a2]
  · rename_i h0
    have h0 : s.length ≠ 0 := fun e => by
      have : eqB s [] = true := eqB_iff.2 (List.eq_nil_of_length_eq_zero e)
      rw [this] at h0; cases h0
    split
    · rename_i h
      have h := of_decide_eq_true h
      obtain ⟨a1, a2⟩ := opnE_arg (w := w) (R := R) (iv := iv) (s := s) (fun hc => by have := hc.2; omega)
      rw [a1, a2]
    · rename_i h1
      have h1 : s.length % 16 = 0 := by
        have := of_decide_eq_false h1
        omega
      have hokC : okC s := ⟨by omega, h1⟩
      refine ⟨?_, ?_⟩
      · and_intros <;> first | exact True.intro | omega | rfl | decide
      intro k hk
      have hkl : 16 * k ≤ s.length := by omega
      have hpv := pvB_ok hiv hs hkl
      split
      · rename_i h
        have h := of_decide_eq_true h
        have hk : 16 * k + 16 ≤ s.length := by rw [List.length_drop] at h; omega
        have hbk := bkL_ok hs hk
        have eB : List.take 16 (List.drop (16 * k) s) = bkL s k := rfl
        have eB2 : List.take 16 (bkL s k) = bkL s k := List.take_of_length_le (Nat.le_of_eq hbk.2)
        have eD : xoL (deL w R (bkL s k)) (pvB iv s k) 0 = opD w R iv s k := rfl
        have e5 : List.take 16 (opD w R iv s k) = opD w R iv s k := List.take_of_length_le (Nat.le_of_eq (opD_len _ _ _ _ _))
        have eS : opL w R iv s k ++ opD w R iv s k = opL w R iv s (k + 1) := rfl
        have eM : 16 * k + 16 = 16 * (k + 1) := rfl
        have hde : isB 16 (deL w R (bkL s k)) := adK_ok hw (deS_ok hw hbk R R).1 0
        simp only [Nat.sub_zero, List.take_take, Nat.min_self, eB, eB2, eD, e5, eS, opL_len, d16, List.take_length, List.drop_drop, eM, opD_len, pvB_next]
        have hby : isBytes (opD w R iv s k) := (dok k hk).1
        have hdl : 16 ≤ (List.drop (16 * k) s).length := by rw [List.length_drop]; omega
        and_intros <;> first | exact True.intro | exact ⟨_, rfl, hbk.1, Nat.le_of_eq hbk.2.symm⟩ | exact ⟨_, _, rfl, hde, hpv⟩ | exact ⟨W, bx, ux, _, rfl, hW, hW4, hW60, hX, hbk⟩ | exact hby | omega | rfl | decide
      · rename_i h
        have h := of_decide_eq_false h
        obtain rfl : k = s.length / 16 := by rw [List.length_drop] at h; omega
        have hol := plO_len (w := w) (R := R) (iv := iv) h1
        have hoo : okb (plO w R iv s) := ook _ hkl
        have hun := unN_lt hoo
        have eL : 16 * (s.length / 16) = s.length := by omega
        have eO : opL w R iv s (s.length / 16) = plO w R iv s := rfl
        rw [eL, eO]
        have eu : (plO w R iv s).getD (s.length - 1) 0 = ((unN (plO w R iv s) : Nat) : Int) := by
          have := okb_g hoo (s.length - 1)
          unfold unN
          rw [hol]
          omega
        have e1 : IntKind.i64.wrap ((s.length : Int) - 1) = ((s.length - 1 : Nat) : Int) := by rw [wi (by omega) (by omega)]; omega
        have e2 : IntKind.i64.wrap ((unN (plO w R iv s) : Nat) : Int) = ((unN (plO w R iv s) : Nat) : Int) := by rw [wi (by omega) (by omega)]
        simp only [e1, e2, eu, Int.toNat_natCast, Nat.zero_add, List.drop_zero]
        generalize hO : plO w R iv s = O at *
        generalize hn : unN O = n at *
        refine ⟨⟨by omega, by omega⟩, ?_⟩
        split
        · rename_i h2
          have h2 := eq_of_beq h2
          obtain ⟨a1, a2⟩ := opnE_form (w := w) (R := R) (iv := iv) (s := s) hokC (by rw [hO]; intro hu; have := hu.1; omega)
          rw [a1, a2]
        · rename_i h2
          have h2 : n ≠ 0 := fun e => by rw [e] at h2; exact absurd h2 (by decide)
          split
          · rename_i h3
            have h3 := of_decide_eq_true h3
            obtain ⟨a1, a2⟩ := opnE_form (w := w) (R := R) (iv := iv) (s := s) hokC (by rw [hO]; intro hu; have := hu.2.1; omega)
            rw [a1, a2]
          · rename_i h3
            have h3 := of_decide_eq_false h3
            have e3 : IntKind.i64.wrap ((s.length : Int) - (n : Int)) = ((s.length - n : Nat) : Int) := by rw [wi (by omega) (by omega)]; omega
            have t0 : tlO O 0 := fun j hj => absurd hj (Nat.not_lt_zero _)
            simp only [e3, Int.toNat_natCast, Nat.sub_self, Nat.add_zero]
            refine ⟨?_, ?_⟩
            · and_intros <;> first | exact True.intro | exact t0 | omega | rfl | decide
            rintro i ⟨hi, ht⟩
            split
            · rename_i h4
              have h4 := of_decide_eq_true h4
              have hi : i < n := by omega
              have hb := okb_g hoo (s.length - n + i)
              have e4 : IntKind.i64.wrap (((s.length - n + i : Nat) : Int) + 1) = ((s.length - n + (i + 1) : Nat) : Int) := by rw [wi (by omega) (by omega)]; omega
              have e5 : IntKind.i64.wrap (O.getD (s.length - n + i) 0) = O.getD (s.length - n + i) 0 := wi (by omega) (by omega)
              have e6 : s.length - n + (i + 1) - (s.length - n) = i + 1 := by omega
              rw [e5]
              refine ⟨⟨by omega, by omega⟩, ?_⟩
              split
              · rename_i h5
                have h5 := bne_iff_ne.1 h5
                obtain ⟨a1, a2⟩ := opnE_form (w := w) (R := R) (iv := iv) (s := s) hokC (by
                  rw [hO]; intro hu; have := hu.2.2 i (by omega); rw [hn, hol] at this; exact h5 this)
                rw [a1, a2]
              · rename_i h5
                have h5 := bne_eq_false_iff_eq.1 h5
                have ht2 : tlO O (i + 1) := by
                  intro j hj
                  by_cases hji : j = i
                  · subst hji; rw [hn, hol]; exact h5
                  · exact ht j (by omega)
                simp only [e4, e6, Int.toNat_natCast]
                and_intros <;> first | exact True.intro | exact ht2 | omega | rfl | decide
            · rename_i h4
              have h4 := of_decide_eq_false h4
              obtain rfl : i = n := by omega
              have hu : unO O := ⟨by omega, by omega, by rw [hn]; exact ht⟩
              obtain ⟨a1, a2⟩ := opnE_ok (w := w) (R := R) (iv := iv) (s := s) hokC (by rw [hO]; exact hu)
              rw [a1, a2, hO, hn]
              and_intros <;> first | exact True.intro | omega | rfl | decide
end Go.Proofs.Ytnadggcfdakpoaa
namespace Go.Proofs.Ytnadggcfdakpoaa
open Go Go.Vg
noncomputable def c6 : Ctx := ⟨tab, lkS [(19, sp19), (20, sp20), (29, sp29), (30, sp30), (31, sp31), (32, sp32)], [], []⟩
noncomputable def c6b : Ctx := ⟨tab, lkS [(19, sp19), (20, sp20b), (29, sp29), (30, sp30), (31, sp31), (32, sp32)], [], []⟩
--KEEP List.replicate HXor.hXor Go.Vg.eqB Go.Vg.opq boxP Go.Vg.gm Go.Vg.gpw Go.Vg.giv Go.Vg.rl8 Go.Vg.gbx Go.Vg.gux Go.Vg.gcl Go.Vg.gce Go.Vg.gub Go.Vg.gia Go.Vg.boxL Go.Vg.gax Go.Vg.gan Go.Vg.gsb Go.Vg.clm Go.Vg.red pwL okb sbI suI selL s4L adK colL eaL shL usL trL rowL adR mxR flW okW isB z16 enS enL deS deL okX shR usR Go.Vg.chunks z240 prL trn tuL wdL fwS fwL okN kexW kexR kexE boxU
--KEEP xoI xoL padN padI padL cbC seL bkL pvB opD opL seM opM unN tlO unO okC plO opnL opnE lenP padK
set_option maxRecDepth 100000 in
theorem vc6  (key iv p s : List Int) (F : D)  :
    (owed c6 (fun _ => none) Try.f6 [.ints .u8 key, b16 iv, .ints .u8 p, .ints .u8 s] F) = (
 (True ∧ false = false) ∧
 True ∧
 True ∧
 (∃ (key_1 : List Int), [D.ints IntKind.u8 key] = [D.ints IntKind.u8 key_1] ∧ okb key_1 ∧ key_1.length ≤ (140737488351232 : Nat)) ∧
 True ∧
 ((0 : Nat) < (2 : Nat) ∧ false = false) ∧
 ((1 : Nat) < (2 : Nat) ∧ false = false) ∧
 (True ∧ (241 : Nat) ≠ (0 : Nat)) ∧
 (Sk.st [Sk.arr (240 : Nat), Sk.one] = Sk.st [Sk.arr (240 : Nat), Sk.one] ∧ (241 : Nat) ≠ (0 : Nat) ∧ (241 : Nat) = (241 : Nat) ∧ false = false) ∧
 True ∧
 True ∧
 isBytes key ∧
 ((∃ (key_1 : List Int), [D.str key] = [D.str key_1] ∧ okb key_1 ∧ okN key_1) ∧ True) ∧
 True ∧
 True ∧
 ((0 : Nat) < (1 : Nat) ∧ false = false) ∧
 True ∧
 True ∧
 True ∧
 True ∧
 ((241 : Nat) ≠ (0 : Nat) ∧ (241 : Nat) = (241 : Nat) ∧ true = true) ∧
 ((16 : Nat) ≠ (0 : Nat) ∧ (16 : Nat) = (16 : Nat) ∧ true = true) ∧
 True ∧
 (∃ (w : List Int),
 ∃ (R : Nat),
 ∃ (iv_1 : List Int),
 ∃ (s_1 : List Int),
 [D.st [D.arr IntKind.u8 (240 : Nat) (kexW key), D.val (Value.int IntKind.i64 (kexR key))], D.arr IntKind.u8 (16 : Nat) iv, D.ints IntKind.u8 s] = [D.st [D.arr IntKind.u8 (240 : Nat) w, D.val (Value.int IntKind.i64 (↑R : Int))], D.arr IntKind.u8 (16 : Nat) iv_1, D.ints IntKind.u8 s_1] ∧
 isB (240 : Nat) w ∧ R ≤ (14 : Nat) ∧ isB (16 : Nat) iv_1 ∧ okb s_1 ∧ lenP s_1) ∧
 True ∧
 ((0 : Nat) < (2 : Nat) ∧ false = false) ∧
 ((1 : Nat) < (2 : Nat) ∧ false = false) ∧
 True ∧
 True ∧
 True ∧
 ((16 : Nat) ≠ (0 : Nat) ∧ (16 : Nat) = (16 : Nat) ∧ true = true) ∧
 True ∧
 isBytes s ∧
 (∃ (W : List D),
 ∃ (bx : List Int),
 ∃ (ux : List Int),
 ∃ (iv_1 : List Int),
 ∃ (s_1 : List Int),
 [(D.st [D.slc (4 : Nat) (chunks IntKind.u8 (4 : Nat) ((4 : Nat) * (key.length / (4 : Nat) + (7 : Nat))) (fwL (key.length / (4 : Nat)) key)), D.arr IntKind.u8 (256 : Nat) boxP, D.arr IntKind.u8 (256 : Nat) boxU]).ref, D.arr IntKind.u8 (16 : Nat) iv, D.str s] =
 [(D.st [D.slc (4 : Nat) W, D.arr IntKind.u8 (256 : Nat) bx, D.arr IntKind.u8 (256 : Nat) ux]).ref, D.arr IntKind.u8 (16 : Nat) iv_1, D.str s_1] ∧
 okW W ∧ (4 : Nat) ≤ W.length ∧ W.length ≤ (60 : Nat) ∧ okX bx ux ∧ isB (16 : Nat) iv_1 ∧ okb s_1 ∧ lenP s_1) ∧
 True ∧
 ((0 : Nat) < (2 : Nat) ∧ false = false) ∧
 ((1 : Nat) < (2 : Nat) ∧ false = false) ∧
 True ∧
 True ∧
 ((241 : Nat) ≠ (0 : Nat) ∧ (241 : Nat) = (241 : Nat) ∧ true = true) ∧
 ((16 : Nat) ≠ (0 : Nat) ∧ (16 : Nat) = (16 : Nat) ∧ true = true) ∧
 True ∧
 (∃ (w : List Int),
 ∃ (R : Nat),
 ∃ (iv_1 : List Int),
 ∃ (p_1 : List Int),
 [D.st [D.arr IntKind.u8 (240 : Nat) (kexW key), D.val (Value.int IntKind.i64 (kexR key))], D.arr IntKind.u8 (16 : Nat) iv, D.ints IntKind.u8 p] = [D.st [D.arr IntKind.u8 (240 : Nat) w, D.val (Value.int IntKind.i64 (↑R : Int))], D.arr IntKind.u8 (16 : Nat) iv_1, D.ints IntKind.u8 p_1] ∧
 isB (240 : Nat) w ∧ R ≤ (14 : Nat) ∧ isB (16 : Nat) iv_1 ∧ okb p_1 ∧ lenP p_1) ∧
 isBytes (seL (kexW key) (kexR key).toNat iv (padL p) (padK p)) ∧
 True ∧
 ((16 : Nat) ≠ (0 : Nat) ∧ (16 : Nat) = (16 : Nat) ∧ true = true) ∧
 True ∧
 isBytes p ∧
 (∃ (W : List D),
 ∃ (bx : List Int),
 ∃ (ux : List Int),
 ∃ (iv_1 : List Int),
 ∃ (p_1 : List Int),
 [(D.st [D.slc (4 : Nat) (chunks IntKind.u8 (4 : Nat) ((4 : Nat) * (key.length / (4 : Nat) + (7 : Nat))) (fwL (key.length / (4 : Nat)) key)), D.arr IntKind.u8 (256 : Nat) boxP, D.arr IntKind.u8 (256 : Nat) boxU]).ref, D.arr IntKind.u8 (16 : Nat) iv, D.str p] =
 [(D.st [D.slc (4 : Nat) W, D.arr IntKind.u8 (256 : Nat) bx, D.arr IntKind.u8 (256 : Nat) ux]).ref, D.arr IntKind.u8 (16 : Nat) iv_1, D.str p_1] ∧
 okW W ∧ (4 : Nat) ≤ W.length ∧ W.length ≤ (60 : Nat) ∧ okX bx ux ∧ isB (16 : Nat) iv_1 ∧ okb p_1 ∧ lenP p_1) ∧
 True ∧
 True ∧
 match
 eqB (seL (kexW key) (kexR key).toNat iv (padL p) (padK p))
 (seL (flW (chunks IntKind.u8 (4 : Nat) ((4 : Nat) * (key.length / (4 : Nat) + (7 : Nat))) (fwL (key.length / (4 : Nat)) key))) ((chunks IntKind.u8 (4 : Nat) ((4 : Nat) * (key.length / (4 : Nat) + (7 : Nat))) (fwL (key.length / (4 : Nat)) key)).length / (4 : Nat) - (1 : Nat)) iv (padL p)
 (padK p)) with
 | true =>
  True ∧
  isBytes (opnL (kexW key) (kexR key).toNat iv s) ∧
  True ∧
  True ∧
  True ∧
  True ∧
  match
  eqB (opnL (kexW key) (kexR key).toNat iv s)
  (opnL (flW (chunks IntKind.u8 (4 : Nat) ((4 : Nat) * (key.length / (4 : Nat) + (7 : Nat))) (fwL (key.length / (4 : Nat)) key))) ((chunks IntKind.u8 (4 : Nat) ((4 : Nat) * (key.length / (4 : Nat) + (7 : Nat))) (fwL (key.length / (4 : Nat)) key)).length / (4 : Nat) - (1 : Nat))
  iv s) with
  | true =>
   True ∧
   True ∧
   True ∧
   True ∧
   True ∧
   (false = false ∧ True) ∧
   D.val
   (Value.bool
   (opnE (kexW key) (kexR key).toNat iv s ==
   opnE (flW (chunks IntKind.u8 (4 : Nat) ((4 : Nat) * (key.length / (4 : Nat) + (7 : Nat))) (fwL (key.length / (4 : Nat)) key)))
   ((chunks IntKind.u8 (4 : Nat) ((4 : Nat) * (key.length / (4 : Nat) + (7 : Nat))) (fwL (key.length / (4 : Nat)) key)).length / (4 : Nat) - (1 : Nat)) iv s)) =
   F
  | false => True ∧ True ∧ (false = false ∧ True) ∧ D.val (Value.bool false) = F
 | false => True ∧ True ∧ True ∧ True ∧ (false = false ∧ True) ∧ D.val (Value.bool false) = F) := by kernel_rfl
set_option maxRecDepth 100000 in
theorem vc6b  (key iv p s : List Int) (F : D)  :
    (owed c6b (fun _ => none) Try.f6 [.ints .u8 key, b16 iv, .ints .u8 p, .ints .u8 s] F) = (
 (True ∧ false = false) ∧
 True ∧
 True ∧
 (∃ (key_1 : List Int), [D.ints IntKind.u8 key] = [D.ints IntKind.u8 key_1] ∧ okb key_1 ∧ key_1.length ≤ (140737488351232 : Nat)) ∧
 True ∧
 ((0 : Nat) < (2 : Nat) ∧ false = false) ∧
 ((1 : Nat) < (2 : Nat) ∧ false = false) ∧
 (True ∧ (241 : Nat) ≠ (0 : Nat)) ∧
 (Sk.st [Sk.arr (240 : Nat), Sk.one] = Sk.st [Sk.arr (240 : Nat), Sk.one] ∧ (241 : Nat) ≠ (0 : Nat) ∧ (241 : Nat) = (241 : Nat) ∧ false = false) ∧
 True ∧ True ∧ isBytes key ∧ (∃ (key_1 : List Int), [D.str key] = [D.str key_1] ∧ okb key_1 ∧ ¬okN key_1 ∧ key_1.length ≤ (140737488351232 : Nat)) ∧ True ∧ ((0 : Nat) < (2 : Nat) ∧ false = false) ∧ ((1 : Nat) < (2 : Nat) ∧ false = false) ∧ True ∧ True ∧ True ∧ True ∧ True ∧ True ∧ True ∧ True ∧ (false = false ∧ True) ∧ D.val (Value.bool (kexE key == (1 : Int))) = F) := by kernel_rfl
theorem cbC_congr {w v : List Int} {R : Nat} (h : ∀ m, m < 16 * (R + 1) → w.getD m 0 = v.getD m 0) (iv q : List Int) : ∀ k, cbC w R iv q k = cbC v R iv q k
  | 0 => rfl
  | k + 1 => by rw [cbC, cbC, cbC_congr h iv q k, enL_congr h]
theorem seL_congr {w v : List Int} {R : Nat} (h : ∀ m, m < 16 * (R + 1) → w.getD m 0 = v.getD m 0) (iv q : List Int) : ∀ k, seL w R iv q k = seL v R iv q k
  | 0 => rfl
  | k + 1 => by rw [seL, seL, seL_congr h iv q k, cbC_congr h]
theorem opL_congr {w v : List Int} {R : Nat} (h : ∀ m, m < 16 * (R + 1) → w.getD m 0 = v.getD m 0) (iv s : List Int) : ∀ k, opL w R iv s k = opL v R iv s k
  | 0 => rfl
  | k + 1 => by
    have e : opD w R iv s k = opD v R iv s k := by unfold opD; rw [deL_congr h]
    rw [opL, opL, opL_congr h iv s k, e]
theorem opn_congr {w v : List Int} {R : Nat} (h : ∀ m, m < 16 * (R + 1) → w.getD m 0 = v.getD m 0) (iv s : List Int) : opnL w R iv s = opnL v R iv s ∧ opnE w R iv s = opnE v R iv s := by
  have e : plO w R iv s = plO v R iv s := opL_congr h iv s _
  constructor
  · unfold opnL; rw [e]
  · unfold opnE; rw [e]
theorem opnL_ok {w s iv : List Int} (hw : isB 240 w) (hi : isB 16 iv) (hs : okb s) (R : Nat) : okb (opnL w R iv s) := by
  unfold opnL
  split
  · exact okb_take (plO_ok hw hi hs R) _
  · exact fun x hx => by cases hx
theorem args6 {ds : List D} (h : (lawSpec tab Try.f6.params.toList).pre ds) : ∃ key iv p s, ds = [.ints .u8 key, b16 iv, .ints .u8 p, .ints .u8 s] ∧ (okb key ∧ key.length ≤ 140737488351232) ∧ isB 16 iv ∧ okb p ∧ lenP p ∧ okb s ∧ lenP s := by
  have h : OkAll tab 8 [25, 38, 25, 25] ds := h
  match ds, h with
  | [x, y, z, w], h =>
    have h1 := h.1
    have h2 := h.2.1
    have h3 := h.2.2.1
    have h4 := h.2.2.2.1
    rw [ok25] at h1 h3 h4
    rw [ok38] at h2
    obtain ⟨key, rfl, a1, _, a3⟩ := h1
    obtain ⟨b, rfl, b1, b2⟩ := h2
    obtain ⟨p, rfl, c1, _, c3⟩ := h3
    obtain ⟨s, rfl, d1, _, d3⟩ := h4
    have e : IntKind.u8.max = 255 := rfl
    exact ⟨key, b, p, s, rfl, ⟨fun x hx => by have := a1 x hx; omega, by omega⟩, ⟨fun x hx => by have := b2 x hx; omega, b1⟩, fun x hx => by have := c1 x hx; omega, by unfold lenP; omega, fun x hx => by have := d1 x hx; omega, by unfold lenP; omega⟩
  | _ :: _ :: _ :: _ :: _ :: _, h => cases h.2.2.2.2
  | [_, _, _], h => cases h.2.2.2
  | [_, _], h => cases h.2.2
  | [_], h => cases h.2
def pre6 : List D → Prop := fun ds => ∃ key iv p s, ds = [.ints .u8 key, b16 iv, .ints .u8 p, .ints .u8 s] ∧ (okb key ∧ key.length ≤ 140737488351232) ∧ (isB 16 iv ∧ okb p ∧ lenP p ∧ okb s ∧ lenP s) ∧ okN key
def pre6b : List D → Prop := fun ds => ∃ key iv p s, ds = [.ints .u8 key, b16 iv, .ints .u8 p, .ints .u8 s] ∧ (okb key ∧ key.length ≤ 140737488351232) ∧ (isB 16 iv ∧ okb p ∧ lenP p ∧ okb s ∧ lenP s) ∧ ¬ okN key
set_option maxRecDepth 100000 in
theorem m6b : Meets Try.prog 6 ⟨pre6b, (lawSpec tab Try.f6.params.toList).f, (lawSpec tab Try.f6.params.toList).flat, (lawSpec tab Try.f6.params.toList).ps⟩ := by
  refine meets_of_owed (C := c6b) ⟨tab_ok, lkS_ok ⟨m19, m20b, m29, m30, m31, m32, trivial⟩⟩ (by kernel_rfl) (by kernel_rfl : Try.prog.funcs[6]? = some Try.f6) (by kernel_rfl) (by kernel_rfl) (by kernel_rfl) _ ?_
  rintro _ ⟨key, iv, p, s, rfl, ⟨hk, hl⟩, hh, hN⟩
  refine ⟨fun _ => rfl, fun _ => none, ?_⟩
  show owed c6b (fun _ => none) Try.f6 [.ints .u8 key, b16 iv, .ints .u8 p, .ints .u8 s] (.val (.bool true))
  rw [vc6b]
  have e : kexE key = 1 := by unfold kexE; rw [if_neg hN]
  rw [e]
  and_intros <;> first | exact True.intro | exact ⟨_, rfl, hk, hl⟩ | exact ⟨_, rfl, hk, hN, hl⟩ | exact hk | rfl | decide
set_option maxRecDepth 100000 in
theorem m6a : Meets Try.prog 6 ⟨pre6, (lawSpec tab Try.f6.params.toList).f, (lawSpec tab Try.f6.params.toList).flat, (lawSpec tab Try.f6.params.toList).ps⟩ := by
  refine meets_of_owed (C := c6) ⟨tab_ok, lkS_ok ⟨m19, m20, m29, m30, m31, m32, trivial⟩⟩ (by kernel_rfl) (by kernel_rfl : Try.prog.funcs[6]? = some Try.f6) (by kernel_rfl) (by kernel_rfl) (by kernel_rfl) _ ?_
  rintro _ ⟨key, iv, p, s, rfl, ⟨hk, hl⟩, ⟨hiv, hp, hlp, hs, hls⟩, hN⟩
  refine ⟨fun _ => rfl, fun _ => none, ?_⟩
  show owed c6 (fun _ => none) Try.f6 [.ints .u8 key, b16 iv, .ints .u8 p, .ints .u8 s] (.val (.bool true))
  rw [vc6]
  have hn48 : key.length / 4 = 4 ∨ key.length / 4 = 6 ∨ key.length / 4 = 8 := by unfold okN at hN; omega
  have eR : kexR key = ((key.length / 4 + 6 : Nat) : Int) := by unfold kexR; rw [if_pos hN]
  have eW : kexW key = fwL (key.length / 4) key := by unfold kexW; rw [if_pos hN]
  rw [eR, eW]
  generalize key.length / 4 = n at hn48 ⊢
  have hfw := fw_ok hk n
  generalize fwL n key = fw at hfw ⊢
  have hW := okW_ch hfw (c := 4 * (n + 7)) (by omega)
  have hx := okX_box
  have hc : ∀ m, m < 16 * (n + 6 + 1) → (flW (chunks .u8 4 (4 * (n + 7)) fw)).getD m 0 = fw.getD m 0 := fun m hm => flW_ch hfw (by omega) (by omega)
  have e1 := seL_congr hc iv (padL p) (padK p)
  obtain ⟨e2, e3⟩ := opn_congr hc iv s
  have er : 4 * (n + 7) / 4 - 1 = n + 6 := by omega
  have hs1 : isBytes (seL fw (n + 6) iv (padL p) (padK p)) := seL_ok hfw hiv (padL_ok hp) _ _
  have hs2 : isBytes (opnL fw (n + 6) iv s) := opnL_ok hfw hiv hs _
  simp only [Int.toNat_natCast, ch_len, er, e1, e2, e3, eqB_refl, beq_self_eq_true]
  have hWl : (chunks .u8 4 (4 * (n + 7)) fw).length = 4 * (n + 7) := ch_len _ _ _ _
  and_intros <;> first | exact True.intro | exact ⟨_, rfl, hk, hl⟩ | exact ⟨_, rfl, hk, hN⟩ | exact hk | exact hp | exact hs | exact hs1 | exact hs2 | exact ⟨fw, n + 6, iv, p, rfl, hfw, by omega, hiv, hp, hlp⟩ | exact ⟨fw, n + 6, iv, s, rfl, hfw, by omega, hiv, hs, hls⟩ | exact ⟨_, _, _, iv, p, rfl, hW, by omega, by omega, hx, hiv, hp, hlp⟩ | exact ⟨_, _, _, iv, s, rfl, hW, by omega, by omega, hx, hiv, hs, hls⟩ | rfl | decide
theorem m6 : Meets Try.prog 6 (lawSpec tab Try.f6.params.toList) := by
  refine meets_or pre6 pre6b m6a m6b ?_
  intro ds hds
  obtain ⟨key, iv, p, s, rfl, h1, h2⟩ := args6 hds
  by_cases hN : okN key
  · exact .inl ⟨key, iv, p, s, rfl, h1, h2, hN⟩
  · exact .inr ⟨key, iv, p, s, rfl, h1, h2, hN⟩
end Go.Proofs.Ytnadggcfdakpoaa
