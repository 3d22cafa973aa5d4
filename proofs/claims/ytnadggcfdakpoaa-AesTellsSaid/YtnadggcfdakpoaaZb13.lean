/- GfTells, part 3: the box, and the law. -/
import Derived.Test.YtnadggcfdakpoaaZb10
import Derived.Test.YtnadggcfdakpoaaZb12
namespace Go.Proofs.Ytnadggcfdakpoaa
open Go Go.Vg

theorem tab_set (f : Nat → Int) (n i : Nat) (h : i < n) :
    ((List.range i).map f ++ List.replicate (n - i) 0).set i (f i) = (List.range (i + 1)).map f ++ List.replicate (n - (i + 1)) 0 := by
  rw [show n - i = (n - (i + 1)) + 1 by omega, List.replicate_succ, List.set_append_right _ _ (by simp), List.length_map, List.length_range, Nat.sub_self, List.set_cons_zero, List.range_succ, List.map_append, List.append_assoc]
  rfl
theorem pwL_get {i : Nat} (h : i < 255) : (pwL 255 ++ List.replicate (255 - 255) 0).getD i 0 = ((gpw 3 i : Nat) : Int) := by
  rw [Nat.sub_self, List.replicate_zero, List.append_nil]
  simp [pwL, List.getD_eq_getElem?_getD, h]
theorem box_set {a : Nat} (h : a < 256) : (boxL.take a ++ List.replicate (256 - a) 0).set a ((gbx a : Nat) : Int) = boxL.take (a + 1) ++ List.replicate (256 - (a + 1)) 0 := by
  have := tab_set (fun j => ((gbx j : Nat) : Int)) 256 a h
  have e : ∀ i, i ≤ 256 → boxL.take i = (List.range i).map fun j => ((gbx j : Nat) : Int) := by
    intro i hi
    rw [boxL, ← List.map_take, List.take_range, Nat.min_eq_left hi]
  rw [e a (by omega), e (a + 1) (by omega)]
  exact this
theorem gk_get {k : Nat} (h : k < 5) : [(0 : Int), 4, 5, 6, 7].getD k 0 = ((gk.getD k 0 : Nat) : Int) ∧ gk.getD k 0 < 8 := by
  obtain rfl | rfl | rfl | rfl | rfl : k = 0 ∨ k = 1 ∨ k = 2 ∨ k = 3 ∨ k = 4 := by omega
  all_goals exact ⟨rfl, by decide⟩

set_option maxRecDepth 100000 in
theorem m79 : Meets Try.prog 79 sp79 := by
  refine meets_of_owed (C := c134) ⟨tab_ok, lkS_ok ⟨m81, trivial⟩⟩ (by kernel_rfl) (by kernel_rfl : Try.prog.funcs[79]? = some Try.f79) (by kernel_rfl) (by kernel_rfl) (by kernel_rfl) _ ?_
  intro ds hds
  obtain rfl : ds = [] := List.length_eq_zero_iff.mp hds
  refine ⟨fun _ => rfl, inv79, ?_⟩
  show owed c134 inv79 Try.f79 [] (b256 boxP)
  rw [vc79]
  simp (decide := true) only [eq_self, true_and, and_true, ne_eq, not_false_eq_true, Int.toNat_natCast]
  refine ⟨⟨⟨rfl, rfl⟩, rfl⟩, ?_⟩
  intro x hx
  split
  · rename_i h
    have h := of_decide_eq_true h
    rw [show ((x : Int) + 1) = ((x + 1 : Nat) : Int) by omega, wNi (n := x + 1) (by omega)]
    simp only [Int.toNat_natCast]
    have e : (pwL x ++ List.replicate (255 - x) 0).set x ((gpw 3 x : Nat) : Int) = pwL (x + 1) ++ List.replicate (255 - (x + 1)) 0 := tab_set _ 255 x (by omega)
    rw [e]
    have hp : ∃ a b : Nat, [u8 (gpw 3 x), D.val (Value.int IntKind.u8 3)] = [u8 a, u8 b] ∧ a < 256 ∧ b < 256 := ⟨_, 3, rfl, gpw_lt (by decide) x, by decide⟩
    and_intros <;> first | exact hp | omega | rfl | trivial
  rename_i h
  have h := of_decide_eq_false h
  obtain rfl : x = 255 := by omega
  clear h hx
  refine ⟨by and_intros <;> first | rfl | trivial, ?_⟩
  intro x hx
  split
  · rename_i h
    have h := of_decide_eq_true h
    have hlt : (255 - x) % 255 < 255 := Nat.mod_lt _ (by decide)
    have e1 : (255 : Int) - (x : Int) = ((255 - x : Nat) : Int) := by omega
    have e2 : ((255 - x : Nat) : Int).tmod 255 = (((255 - x) % 255 : Nat) : Int) := tmodN (255 - x) 255
    have hg : gpw 3 x < 256 := gpw_lt (by decide) x
    have e : (gia x).set (gpw 3 x) ((gpw 3 ((255 - x) % 255) : Nat) : Int) = gia (x + 1) := rfl
    rw [e1, wNi (n := 255 - x) (by omega), e2, show ((x : Int) + 1) = ((x + 1 : Nat) : Int) by omega, wNi (n := x + 1) (by omega)]
    simp only [Int.toNat_natCast]
    rw [pwL_get (i := x) (by omega), pwL_get hlt]
    simp only [Int.toNat_natCast]
    rw [e]
    and_intros <;> first | omega | rfl | trivial
  rename_i h
  have h := of_decide_eq_false h
  obtain rfl : x = 255 := by omega
  clear h hx
  refine ⟨by and_intros <;> first | rfl | trivial, ?_⟩
  intro a ha
  split
  · rename_i h
    have h := of_decide_eq_true h
    have hg := giv_lt (a := a) (by omega)
    rw [gia_giv (a := a) (by omega), wNi (n := giv a) (by omega), show ((a : Int) + 1) = ((a + 1 : Nat) : Int) by omega, wNi (n := a + 1) (by omega)]
    simp only [Int.toNat_natCast]
    refine ⟨by omega, ⟨⟨rfl, rfl⟩, trivial⟩, ?_⟩
    rintro ⟨b, i⟩ ⟨hb, hi⟩
    simp only at hb hi ⊢
    obtain rfl : b = giv a := by omega
    split
    · rename_i h2
      have h2 := of_decide_eq_true h2
      rw [show (99 : Int) = ((99 : Nat) : Int) from rfl, ishrN .i64 (by simp only [IntKind.bits]; omega), iand1 .i64 (by rw [kbi]; exact Nat.lt_of_le_of_lt (Nat.div_le_self _ _) (by decide)),
        show ((i : Int) + 1) = ((i + 1 : Nat) : Int) by omega, wNi (n := i + 1) (by omega)]
      simp only [Int.toNat_natCast]
      refine ⟨by omega, ⟨⟨rfl, rfl⟩, trivial⟩, ?_⟩
      rintro ⟨b, j, k⟩ ⟨hb2, hj, hk⟩
      simp only at hb2 hj hk ⊢
      obtain rfl : b = giv a := by omega
      obtain rfl : j = i := by omega
      split
      · rename_i h3
        have h3 := of_decide_eq_true h3
        obtain ⟨e1, e2⟩ := gk_get (k := k) (by omega)
        have e3 : (((j + gk.getD k 0 : Nat) : Int)).tmod 8 = (((j + gk.getD k 0) % 8 : Nat) : Int) := tmodN _ 8
        have hs : (j + gk.getD k 0) % 8 < 8 := Nat.mod_lt _ (by decide)
        have hq : giv a / 2 ^ ((j + gk.getD k 0) % 8) < kb .i64 := Nat.lt_of_le_of_lt (Nat.div_le_self _ _) (by rw [kbi]; omega)
        have hn := gan_le (giv a) j k
        have e4 : gan (giv a) j (k + 1) = gan (giv a) j k + giv a / 2 ^ ((j + gk.getD k 0) % 8) % 2 := rfl
        rw [e1, show ((j : Int) + ((gk.getD k 0 : Nat) : Int)) = ((j + gk.getD k 0 : Nat) : Int) by omega, wNi (n := j + gk.getD k 0) (by omega), e3, ishrN .i64 (by simp only [IntKind.bits]; omega), iand1 .i64 hq,
          show (((gan (giv a) j k : Nat) : Int) + ((giv a / 2 ^ ((j + gk.getD k 0) % 8) % 2 : Nat) : Int)) = ((gan (giv a) j k + giv a / 2 ^ ((j + gk.getD k 0) % 8) % 2 : Nat) : Int) by omega, ← e4,
          wNi (n := gan (giv a) j (k + 1)) (by have := gan_le (giv a) j (k + 1); omega), show ((k : Int) + 1) = ((k + 1 : Nat) : Int) by omega, wNi (n := k + 1) (by omega)]
        simp only [Int.toNat_natCast]
        and_intros <;> first | omega | rfl | trivial
      · rename_i h3
        have h3 := of_decide_eq_false h3
        obtain rfl : k = 5 := by omega
        have e5 : ((gan (giv a) j 5 : Nat) : Int).tmod 2 = ((gan (giv a) j 5 % 2 : Nat) : Int) := tmodN _ 2
        have h2j : 2 ^ j ≤ 2 ^ 7 := Nat.pow_le_pow_right (by decide) (by omega)
        have hx := gax_lt (giv a) j
        have hx1 := gax_lt (giv a) (j + 1)
        have h2k : 2 ^ (j + 1) ≤ 2 ^ 8 := Nat.pow_le_pow_right (by decide) (by omega)
        have e6 : gax (giv a) (j + 1) = gax (giv a) j + gan (giv a) j 5 % 2 * 2 ^ j := rfl
        rw [e5, ishlN .i64 (by simp only [IntKind.bits]; omega), wNi (n := gan (giv a) j 5 % 2 * 2 ^ j) (by omega), ← Int.natCast_add, ← e6, wNi (n := gax (giv a) (j + 1)) (by omega)]
        and_intros <;> first | omega | rfl | trivial
    · rename_i h2
      have h2 := of_decide_eq_false h2
      obtain rfl : i = 8 := by omega
      have hlt := gbx_lt a
      have e : gax (giv a) 8 = gbx a := rfl
      rw [e, wN8, Nat.mod_eq_of_lt hlt, box_set (by omega)]
      and_intros <;> first | omega | rfl | trivial
  · rename_i h
    have h := of_decide_eq_false h
    obtain rfl : a = 256 := by omega
    have e : boxP = boxL := opq_eq _
    rw [e, Nat.sub_self, List.replicate_zero, List.append_nil, List.take_of_length_le (by rw [boxL_len]; exact Nat.le_refl _)]

end Go.Proofs.Ytnadggcfdakpoaa
/- the reference's cipher: NewCipher. -/
namespace Go.Proofs.Ytnadggcfdakpoaa
open Go Go.Vg

theorem ch_len (k : IntKind) (n : Nat) : ∀ (c : Nat) (l : List Int), (chunks k n c l).length = c
  | 0, _ => rfl
  | c + 1, l => by simp [chunks, ch_len k n c]
theorem ch_get {k : IntKind} {n : Nat} {d : D} : ∀ {c j : Nat} {l : List Int}, j < c → (chunks k n c l).getD j d = .arr k n ((l.drop (n * j)).take n)
  | 0, _, _, h => by omega
  | c + 1, 0, l, _ => rfl
  | c + 1, j + 1, l, h => by
    show (chunks k n c (l.drop n)).getD j d = _
    rw [ch_get (by omega), List.drop_drop, show n + n * j = n * (j + 1) by rw [Nat.mul_add]; omega]
theorem ch_succ {k : IntKind} {n : Nat} : ∀ (c : Nat) (l : List Int), chunks k n (c + 1) l = chunks k n c l ++ [.arr k n ((l.drop (n * c)).take n)]
  | 0, l => rfl
  | c + 1, l => by
    show D.arr k n (l.take n) :: chunks k n (c + 1) (l.drop n) = D.arr k n (l.take n) :: chunks k n c (l.drop n) ++ [.arr k n ((l.drop (n * (c + 1))).take n)]
    rw [ch_succ c (l.drop n), List.drop_drop, show n + n * c = n * (c + 1) by rw [Nat.mul_add]; omega]
    rfl
theorem take_col {fw : List Int} {j : Nat} (h : 4 * j + 4 ≤ fw.length) : (fw.drop (4 * j)).take 4 = colL fw j := by
  refine ext_getD (n := 4) (by rw [List.length_take, List.length_drop]; omega) rfl fun i hi => ?_
  rw [getD_take hi, getD_drop]
  unfold colL
  match i, hi with
  | 0, _ => rfl
  | 1, _ => rfl
  | 2, _ => rfl
  | 3, _ => rfl
  | k + 4, h => omega
theorem boxP_get {a : Nat} (h : a < 256) : boxP.getD a 0 = ((gbx a : Nat) : Int) := by
  unfold boxP
  rw [opq_eq, boxL_get h]
theorem boxU_get {a : Nat} (h : a < 256) : boxU.getD a 0 = ((gux a : Nat) : Int) := by
  unfold boxU boxP
  rw [opq_eq, gub_box h]
theorem col_get4 {f : Nat → Int} : [f 0, f 1, f 2, f 3] = (List.range 4).map f := rfl
theorem rowc {a b : List D} (h : a = b) : some (Blk.row 39 (.slc 4 a)) = some (Blk.row 39 (.slc 4 b)) := by rw [h]
theorem avc {a b : AV} (h : a = b) : a = b := h
theorem u8c {a b : Nat} (h : a = b) : AV.d (u8 a) = AV.d (u8 b) := by rw [h]
theorem s4L_eq (p : List Int) : s4L p = [((gbx (p.getD 0 0).toNat : Nat) : Int), ((gbx (p.getD 1 0).toNat : Nat) : Int), ((gbx (p.getD 2 0).toNat : Nat) : Int), ((gbx (p.getD 3 0).toNat : Nat) : Int)] := rfl
theorem s4L_trn (p : List Int) : s4L (trn p) = [((gbx (p.getD 1 0).toNat : Nat) : Int), ((gbx (p.getD 2 0).toNat : Nat) : Int), ((gbx (p.getD 3 0).toNat : Nat) : Int), ((gbx (p.getD 0 0).toNat : Nat) : Int)] := rfl
attribute [local irreducible] selL s4L adK eaL shL usL trL adR mxR fwS fwL

set_option maxHeartbeats 4000000 in
set_option maxRecDepth 100000 in
theorem m20 : MeetsQ Try.prog 20 sp20 := by
  refine meetsNew_of_owed (C := c20) ⟨tab_ok, lkS_ok ⟨m79, m80, m81, trivial⟩⟩ (by kernel_rfl) (by kernel_rfl : Try.prog.funcs[20]? = some Try.f20) (by kernel_rfl) (by kernel_rfl) (by kernel_rfl) _ ⟨by kernel_rfl, by kernel_rfl, by kernel_rfl, by kernel_rfl⟩ ?_
  rintro _ ⟨key, rfl, hk, hN⟩
  refine ⟨inv20 (key.length / 4) (fwL (key.length / 4) key), ?_⟩
  show owedNew c20 (inv20 (key.length / 4) (fwL (key.length / 4) key)) Try.f20 [.str key] (.tup [.st [.slc 4 (chunks .u8 4 (4 * (key.length / 4 + 7)) (fwL (key.length / 4) key)), b256 boxP, b256 boxU], i64 0])
  rw [vc20]
  have hz0 : Int.toNat 0 = 0 := rfl
  simp (decide := true) only [eq_self, true_and, and_true, ne_eq, not_false_eq_true, Int.toNat_natCast, ch_len, hz0, List.length_append, List.length_cons, List.length_nil]
  refine m3 ?_ ?_
  · intro h1 h2 h3
    have h1 := bne_iff_ne.1 h1
    have h2 := bne_iff_ne.1 h2
    have h3 := bne_iff_ne.1 h3
    unfold okN at hN
    omega
  · intro hb
    have hn48 : key.length / 4 = 4 ∨ key.length / 4 = 6 ∨ key.length / 4 = 8 := by unfold okN at hN; omega
    have hlen : key.length = 4 * (key.length / 4) := by unfold okN at hN; omega
    rw [td4, wNi (n := key.length / 4) (by omega)]
    generalize hne : key.length / 4 = n at hn48 hlen ⊢
    have hfw := fw_ok hk n
    have hwd : ∀ i j, i < 4 * (n + 7) → j < 4 → (fwL n key).getD (4 * i + j) 0 = (wdL n key i (fwL n key)).getD j 0 := fun i j hi hj => fw_word (by omega) (by omega) hi hj
    generalize fwL n key = fw at hfw hwd ⊢
    have w7 : IntKind.i64.wrap ((n : Int) + 7) = ((n + 7 : Nat) : Int) := wi_n (by omega) 7 (by omega)
    have w28 : IntKind.i64.wrap (4 * ((n + 7 : Nat) : Int)) = ((4 * (n + 7) : Nat) : Int) := by rw [show 4 * ((n + 7 : Nat) : Int) = ((4 * (n + 7) : Nat) : Int) by omega, wNi (by omega)]
    simp only [w7, w28]
    have hbx : ∃ l, [D.arr IntKind.u8 256 boxP] = [D.arr IntKind.u8 256 l] ∧ okb l ∧ l.length = 256 := ⟨_, rfl, by
      unfold boxP
      rw [opq_eq]
      refine ⟨?_, boxL_len⟩
      intro x hx
      obtain ⟨a, ha, rfl⟩ := List.mem_map.1 hx
      have := gbx_lt a
      omega⟩
    refine ⟨hbx, by and_intros <;> first | exact True.intro | omega | rfl, ?_⟩
    intro i hi
    split
    · rename_i h2
      have h2 : i < n := by have := of_decide_eq_true h2; omega
      have q : ∀ k : Nat, k < 4 → IntKind.i64.wrap (((4 * i : Nat) : Int) + (k : Int)) = ((4 * i + k : Nat) : Int) := fun k hk => wi_n (by omega) k (by omega)
      have q0 : IntKind.i64.wrap (4 * (i : Int)) = ((4 * i : Nat) : Int) := by rw [show 4 * (i : Int) = ((4 * i : Nat) : Int) by omega, wNi (by omega)]
      have q1 : IntKind.i64.wrap (((4 * i : Nat) : Int) + 1) = _ := q 1 (by omega)
      have q2 : IntKind.i64.wrap (((4 * i : Nat) : Int) + 2) = _ := q 2 (by omega)
      have q3 : IntKind.i64.wrap (((4 * i : Nat) : Int) + 3) = _ := q 3 (by omega)
      have ec : [key.getD (4 * i) 0, key.getD (4 * i + 1) 0, key.getD (4 * i + 2) 0, key.getD (4 * i + 3) 0] = colL fw i := by
        have wk : ∀ j, j < 4 → fw.getD (4 * i + j) 0 = key.getD (4 * i + j) 0 := by
          intro j hj
          rw [hwd i j (by omega) hj]
          unfold wdL
          rw [if_pos h2]
          unfold colL
          match j, hj with
          | 0, _ => rfl
          | 1, _ => rfl
          | 2, _ => rfl
          | 3, _ => rfl
          | k + 4, h => omega
        have w0 := wk 0 (by omega)
        rw [Nat.add_zero] at w0
        unfold colL
        rw [w0, wk 1 (by omega), wk 2 (by omega), wk 3 (by omega)]
      have es := ch_succ (k := .u8) (n := 4) i fw
      rw [take_col (by rw [hfw.2]; omega)] at es
      simp only [q0, q1, q2, q3, sq (x := i) (by omega), Int.toNat_natCast, ec, ← es]
      and_intros <;> first | exact True.intro | omega | rfl
    · rename_i h2
      have h2 : i = n := by have := of_decide_eq_false h2; omega
      subst h2
      have e0 : (i - 1) / i = 0 := Nat.div_eq_of_lt (by omega)
      refine ⟨by and_intros <;> first | exact True.intro | omega | (rw [e0]; rfl) | rfl, ?_⟩
      clear hi e0
      generalize i = n at *
      intro i ⟨hi1, hi2⟩
      split
      · rename_i h
        have h : i < 4 * (n + 7) := by have := of_decide_eq_true h; omega
        have w1 : IntKind.i64.wrap ((i : Int) - 1) = ((i - 1 : Nat) : Int) := by rw [show (i : Int) - 1 = ((i - 1 : Nat) : Int) by omega, wNi (by omega)]
        have wn : IntKind.i64.wrap ((i : Int) - (n : Int)) = ((i - n : Nat) : Int) := by rw [show (i : Int) - (n : Int) = ((i - n : Nat) : Int) by omega, wNi (by omega)]
        have tmn : (i : Int).tmod (n : Int) = ((i % n : Nat) : Int) := rfl
        have tm8 : (i : Int).tmod 8 = ((i % 8 : Nat) : Int) := rfl
        have g1 : (chunks .u8 4 i fw).getD (i - 1) (D.val (Value.bool false)) = b4 (prL fw i) := by rw [ch_get (by omega), take_col (by rw [hfw.2]; omega)]; rfl
        have gn : (chunks .u8 4 i fw).getD (i - n) (D.val (Value.bool false)) = b4 (colL fw (i - n)) := by rw [ch_get (by omega), take_col (by rw [hfw.2]; omega)]
        have ea : ∀ l, arrOf (D.arr .u8 4 l) = l := fun l => rfl
        have hpp : okb (prL fw i) := colL_ok hfw.1 (i - 1)
        have hb : ∀ j, 0 ≤ (prL fw i).getD j 0 ∧ (prL fw i).getD j 0 < 256 := fun j => okb_g hpp j
        have hbox : ∀ j, boxP.getD ((prL fw i).getD j 0).toNat 0 = ((gbx ((prL fw i).getD j 0).toNat : Nat) : Int) := fun j => boxP_get (by have := hb j; omega)
        simp only [w1, wn, tmn, tm8, Int.toNat_natCast, g1, gn, ea, hbox]
        have hdv : (i % n = 0 → i / n - 1 = (i - 1) / n ∧ (i - 1) / n + 1 = i / n) ∧ (i % n ≠ 0 → (i - 1) / n = i / n) := by
          rcases hn48 with rfl | rfl | rfl <;> omega
        refine ⟨by and_intros <;> omega, by and_intros <;> first | exact True.intro | omega | rfl, by and_intros <;> omega, by and_intros <;> first | exact True.intro | omega | rfl, by omega, ?_, ?_⟩
        · split
          · rename_i h5
            have h5 : i % n = 0 := by have := eq_of_beq h5; omega
            obtain ⟨d1, d2⟩ := hdv.1 h5
            have et : tuL n fw i = (s4L (trn (prL fw i))).set 0 (ixor .u8 ((s4L (trn (prL fw i))).getD 0 0) ((gpw 2 (i / n - 1) : Nat) : Int)) := by unfold tuL; rw [if_pos h5]
            rw [et, s4L_trn, d1]
            have em : gm (gpw 2 ((i - 1) / n)) 2 = gpw 2 (i / n) := by rw [← d2]; rfl
            and_intros <;> first | exact True.intro | exact (hb _).1 | exact (hb _).2 | omega | exact ⟨_, 2, rfl, gpw_lt (by decide) _, by decide⟩ | exact u8c em | rfl
          · rename_i h5
            have h5 : ¬ i % n = 0 := fun e => by rw [e] at h5; cases h5
            have ed := hdv.2 h5
            split
            · rename_i h6
              have h6 : n = 8 := by have := eq_of_beq h6; omega
              split
              · rename_i h7
                have h7 : i % 8 = 4 := by have := eq_of_beq h7; omega
                have et : tuL n fw i = s4L (prL fw i) := by unfold tuL; rw [if_neg h5, if_pos ⟨h6, h7⟩]
                rw [et, s4L_eq, ed]
                and_intros <;> first | exact True.intro | exact (hb _).1 | exact (hb _).2 | omega | rfl
              · rename_i h7
                have h7 : ¬ i % 8 = 4 := fun e => by rw [e] at h7; cases h7
                have et : tuL n fw i = prL fw i := by unfold tuL; rw [if_neg h5, if_neg (fun hh => h7 hh.2)]
                rw [et, ed]
                first | trivial | (and_intros <;> first | exact True.intro | omega | rfl)
            · rename_i h6
              have h6 : ¬ n = 8 := fun e => by rw [e] at h6; cases h6
              have et : tuL n fw i = prL fw i := by unfold tuL; rw [if_neg h5, if_neg (fun hh => h6 hh.1)]
              rw [et, ed]
              first | trivial | (and_intros <;> first | exact True.intro | omega | rfl)
        · intro z hz'
          obtain rfl : z = i := by omega
          have ew : [ixor .u8 ((colL fw (z - n)).getD 0 0) ((tuL n fw z).getD 0 0), ixor .u8 ((colL fw (z - n)).getD 1 0) ((tuL n fw z).getD 1 0), ixor .u8 ((colL fw (z - n)).getD 2 0) ((tuL n fw z).getD 2 0), ixor .u8 ((colL fw (z - n)).getD 3 0) ((tuL n fw z).getD 3 0)] = colL fw z := by
            have wk : ∀ j, j < 4 → fw.getD (4 * z + j) 0 = ixor .u8 (fw.getD (4 * (z - n) + j) 0) ((tuL n fw z).getD j 0) := by
              intro j hj
              rw [hwd z j h hj]
              unfold wdL
              rw [if_neg (by omega), map_getD _ hj]
            have w0 := wk 0 (by omega)
            rw [Nat.add_zero, Nat.add_zero] at w0
            unfold colL
            rw [w0, wk 1 (by omega), wk 2 (by omega), wk 3 (by omega)]
            rfl
          have es := ch_succ (k := .u8) (n := 4) z fw
          rw [take_col (by rw [hfw.2]; omega)] at es
          simp only [ew, ← es]
          and_intros <;> first | exact True.intro | omega | exact u8c (by rw [Nat.add_sub_cancel]) | rfl
      · rename_i h
        have h : i = 4 * (n + 7) := by have := of_decide_eq_false h; omega
        subst h
        rfl

end Go.Proofs.Ytnadggcfdakpoaa
/- AesTells: Words, Equal, NewCipher of a wrong key. -/
namespace Go.Proofs.Ytnadggcfdakpoaa
open Go Go.Vg

set_option maxRecDepth 100000 in
theorem m20b : Meets Try.prog 20 sp20b := by
  refine meets_of_owed (C := c20) ⟨tab_ok, lkS_ok ⟨m79, m80, m81, trivial⟩⟩ (by kernel_rfl) (by kernel_rfl : Try.prog.funcs[20]? = some Try.f20) (by kernel_rfl) (by kernel_rfl) (by kernel_rfl) _ ?_
  rintro _ ⟨key, rfl, hk, hN, hl⟩
  refine ⟨fun _ => rfl, fun _ => none, ?_⟩
  show owed c20 (fun _ => none) Try.f20 [.str key] (.tup [.val (.pointer none), i64 1])
  rw [vc20b]
  simp (decide := true) only [eq_self, true_and, and_true, ne_eq, not_false_eq_true]
  refine m3 ?_ ?_
  · intro _ _ _
    first | exact True.intro | rfl
  · intro hb
    exact absurd (by
      unfold okN
      refine Classical.byContradiction fun hc => hb ⟨bne_iff_ne.2 (by omega), bne_iff_ne.2 (by omega), bne_iff_ne.2 (by omega)⟩) hN

set_option maxRecDepth 100000 in
theorem m24 : Meets Try.prog 24 sp24 := by
  refine meets_of_owed (C := c24) ⟨tab_ok, fun f s h => by cases h⟩ (by kernel_rfl) (by kernel_rfl : Try.prog.funcs[24]? = some Try.f24) (by kernel_rfl) (by kernel_rfl) (by kernel_rfl) _ ?_
  rintro _ ⟨w, R, rfl, hw, hR⟩
  refine ⟨(fun h => by cases h), fun _ => none, ?_⟩
  show owed c24 (fun _ => none) Try.f24 [keyD w ((R : Nat) : Int)] (.slc 4 (chunks .u8 4 (4 * (((R : Nat) : Int).toNat + 1)) w))
  have w1 : IntKind.i64.wrap ((R : Int) + 1) = ((R + 1 : Nat) : Int) := sq (by omega)
  have w4 : IntKind.i64.wrap (4 * ((R + 1 : Nat) : Int)) = ((4 * (R + 1) : Nat) : Int) := by rw [show 4 * ((R + 1 : Nat) : Int) = ((4 * (R + 1) : Nat) : Int) by omega, wNi (by omega)]
  rw [vc24]
  simp only [w1, w4, Int.toNat_natCast, ch_len, List.drop_zero, Nat.sub_zero]
  and_intros <;> first | exact True.intro | omega | rfl | decide

theorem eqB_refl (l : List Int) : eqB l l = true := eqB_iff.2 rfl
theorem flW_take {V W : List D} (hV : okW V) (hW : okW W) {k : Nat} (h1 : k < V.length) (h2 : k < W.length) (d : D) (e : flW (V.take k) = flW (W.take k)) :
    (flW (V.take (k + 1)) = flW (W.take (k + 1)) ↔ arrOf (V.getD k d) = arrOf (W.getD k d)) := by
  have app : ∀ a b : List D, flW (a ++ b) = flW a ++ flW b := by
    intro a b
    induction a with
    | nil => rfl
    | cons x a ih => show arrOf x ++ flW (a ++ b) = arrOf x ++ flW a ++ flW b; rw [ih, List.append_assoc]
  have s1 : V.take (k + 1) = V.take k ++ [V.getD k d] := by
    rw [List.take_add_one, List.getD_eq_getElem?_getD, List.getElem?_eq_getElem h1]
    rfl
  have s2 : W.take (k + 1) = W.take k ++ [W.getD k d] := by
    rw [List.take_add_one, List.getD_eq_getElem?_getD, List.getElem?_eq_getElem h2]
    rfl
  rw [s1, s2, app, app, e]
  constructor
  · intro h
    have h' : arrOf (V.getD k d) ++ [] = arrOf (W.getD k d) ++ [] := List.append_cancel_left h
    rwa [List.append_nil, List.append_nil] at h'
  · intro h
    show flW (W.take k) ++ (arrOf (V.getD k d) ++ []) = flW (W.take k) ++ (arrOf (W.getD k d) ++ [])
    rw [h]
theorem okW_take {V : List D} (h : okW V) (k : Nat) : okW (V.take k) := fun d hd => h d (List.mem_of_mem_take hd)
theorem flW_pre {V W : List D} (hV : okW V) (hW : okW W) (hl : V.length = W.length) {k : Nat} (hk : k < V.length) (d : D) (h : arrOf (V.getD k d) ≠ arrOf (W.getD k d)) : flW V ≠ flW W := by
  intro e
  obtain ⟨l, e1, hl1⟩ := okW_get hV hk d
  obtain ⟨m, e2, hl2⟩ := okW_get hW (j := k) (by omega) d
  apply h
  rw [e1, e2]
  show l = m
  refine ext_getD hl1.2 hl2.2 fun j hj => ?_
  have a := flW_get hV hk hj d
  have b := flW_get hW (show k < W.length by omega) hj d
  rw [e1] at a
  rw [e2] at b
  rw [e] at a
  exact a.symm.trans b

set_option maxRecDepth 100000 in
theorem m23 : Meets Try.prog 23 sp23 := by
  refine meets_of_owed (C := c0) ⟨tab_ok, fun f s h => by cases h⟩ (by kernel_rfl) (by kernel_rfl : Try.prog.funcs[23]? = some Try.f23) (by kernel_rfl) (by kernel_rfl) (by kernel_rfl) _ ?_
  rintro _ ⟨V, W, rfl, hV, hW, hl⟩
  refine ⟨fun _ => rfl, inv23 V W, ?_⟩
  show owed c0 (inv23 V W) Try.f23 [.slc 4 V, .slc 4 W] (.val (.bool (eqB (flW V) (flW W))))
  rw [vc23]
  simp (decide := true) only [eq_self, true_and, and_true, ne_eq, not_false_eq_true]
  have l1 := flW_len hV
  have l2 := flW_len hW
  split
  · rename_i h
    have h := bne_iff_ne.1 h
    have : eqB (flW V) (flW W) = false := eqB_not.2 fun e => h (by have := congrArg List.length e; omega)
    rw [this]
  · rename_i h
    have h : V.length = W.length := by
      have : ((V.length : Int) != (W.length : Int)) = false := h
      have : (V.length : Int) = (W.length : Int) := by simpa using this
      omega
    refine ⟨by and_intros <;> first | exact True.intro | rfl | omega, ?_⟩
    intro k ⟨hk, he⟩
    split
    · rename_i h2
      have h2 : k < V.length := by have := of_decide_eq_true h2; omega
      simp only [Int.toNat_natCast]
      obtain ⟨l, e1, hl1⟩ := okW_get hV h2 (D.val (Value.bool false))
      obtain ⟨m, e2, hl2⟩ := okW_get hW (show k < W.length by omega) (D.val (Value.bool false))
      have ft := flW_take hV hW h2 (by omega) (D.val (Value.bool false)) he
      have fp := flW_pre hV hW h h2 (D.val (Value.bool false))
      rw [e1, e2] at ft fp
      rw [e1, e2]
      refine ⟨by and_intros <;> first | exact True.intro | rfl | omega | decide, by and_intros <;> first | exact True.intro | rfl | omega | decide, ?_⟩
      split
      · rename_i h3
        have h3 : ¬ l = m := fun e => by
          have h3' : (!eqB l m) = true := h3
          rw [e, eqB_refl] at h3'
          cases h3'
        have : eqB (flW V) (flW W) = false := eqB_not.2 (fp h3)
        rw [this]
      · rename_i h3
        have h3 : l = m := eqB_iff.1 (by
          have h3' : (!eqB l m) = false := h3
          cases hq : eqB l m
          · rw [hq] at h3'; cases h3'
          · rfl)
        rw [sq (x := k) (by omega)]
        simp only [Int.toNat_natCast]
        and_intros <;> first | exact True.intro | omega | exact ft.2 h3 | rfl
    · rename_i h2
      have h2 : k = V.length := by have := of_decide_eq_false h2; omega
      rw [List.take_of_length_le (by omega), List.take_of_length_le (by omega)] at he
      rw [he, eqB_refl]

end Go.Proofs.Ytnadggcfdakpoaa
/- AesTells: the law. -/
namespace Go.Proofs.Ytnadggcfdakpoaa
open Go Go.Vg

noncomputable def c5 : Ctx := ⟨tab, lkS [(19, sp19), (20, sp20), (24, sp24), (23, sp23), (25, sp25), (26, sp26), (27, sp27), (28, sp28)], [], []⟩
noncomputable def c5b : Ctx := ⟨tab, lkS [(19, sp19), (20, sp20b), (24, sp24), (23, sp23), (25, sp25), (26, sp26), (27, sp27), (28, sp28)], [], []⟩
--KEEP List.replicate HXor.hXor Go.Vg.eqB Go.Vg.opq boxP Go.Vg.gm Go.Vg.gpw Go.Vg.giv Go.Vg.rl8 Go.Vg.gbx Go.Vg.gux Go.Vg.gcl Go.Vg.gce Go.Vg.gub Go.Vg.gia Go.Vg.boxL Go.Vg.gax Go.Vg.gan Go.Vg.gsb Go.Vg.clm Go.Vg.red pwL okb sbI suI selL s4L adK colL eaL shL usL trL rowL adR mxR flW okW isB z16 enS enL deS deL okX shR usR Go.Vg.chunks z240 prL trn tuL wdL fwS fwL okN kexW kexR kexE boxU
set_option maxRecDepth 100000 in
theorem ok25  (d : D)  :
    (OkT tab 8 25 d) = (
 ∃ (l : List Int), d = D.ints IntKind.u8 l ∧ (∀ (z : Int), z ∈ l → (0 : Int) ≤ z ∧ z ≤ IntKind.u8.max) ∧ l.length ≤ (9223372036854775807 : Nat) ∧ l.length * (1 : Nat) ≤ (140737488351232 : Nat)) := by kernel_rfl
set_option maxRecDepth 100000 in
theorem ok38  (d : D)  :
    (OkT tab 8 38 d) = (
 ∃ (l : List Int), d = D.arr IntKind.u8 (16 : Nat) l ∧ l.length = (16 : Nat) ∧ ∀ (z : Int), z ∈ l → (0 : Int) ≤ z ∧ z ≤ IntKind.u8.max) := by kernel_rfl
set_option maxRecDepth 100000 in
theorem vc5  (key b : List Int) (F : D)  :
    (owed c5 (fun _ => none) Try.f5 [.ints .u8 key, b16 b] F) = (
 (True ∧ false = false) ∧
 True ∧
 True ∧
 (∃ (key_1 : List Int), [D.ints IntKind.u8 key] = [D.ints IntKind.u8 key_1] ∧ okb key_1 ∧ key_1.length ≤ (140737488351232 : Nat)) ∧
 True ∧
 ((0 : Nat) < (2 : Nat) ∧ false = false) ∧
 ((1 : Nat) < (2 : Nat) ∧ false = false) ∧
 (True ∧ (241 : Nat) ≠ (0 : Nat)) ∧
 (Sk.st [Sk.arr (240 : Nat), Sk.one] = Sk.st [Sk.arr (240 : Nat), Sk.one] ∧ (241 : Nat) ≠ (0 : Nat) ∧ (241 : Nat) = (241 : Nat) ∧ false = false) ∧
 True ∧
 True ∧
 isBytes key ∧
 ((∃ (key_1 : List Int), [D.str key] = [D.str key_1] ∧ okb key_1 ∧ okN key_1) ∧ True) ∧
 True ∧
 True ∧
 ((0 : Nat) < (1 : Nat) ∧ false = false) ∧
 True ∧
 True ∧
 True ∧
 True ∧
 True ∧
 True ∧
 True ∧
 match kexE key == (0 : Int) with
 | true =>
  ((241 : Nat) ≠ (0 : Nat) ∧ (241 : Nat) = (241 : Nat) ∧ true = true) ∧
  (∃ (w : List Int), ∃ (R : Nat), [D.st [D.arr IntKind.u8 (240 : Nat) (kexW key), D.val (Value.int IntKind.i64 (kexR key))]] = [D.st [D.arr IntKind.u8 (240 : Nat) w, D.val (Value.int IntKind.i64 (↑R : Int))]] ∧ isB (240 : Nat) w ∧ R ≤ (14 : Nat)) ∧
  True ∧
  True ∧
  (Sk.st [Sk.one, Sk.arr (256 : Nat), Sk.arr (256 : Nat)] = Sk.st [Sk.one, Sk.arr (256 : Nat), Sk.arr (256 : Nat)] ∧ (0 : Nat) < (3 : Nat)) ∧
  ((1 : Nat) ≠ (0 : Nat) ∧ (1 : Nat) = (1 : Nat) ∧ false = false) ∧
  (∃ (V : List D),
  ∃ (W : List D),
  [D.slc (4 : Nat) (chunks IntKind.u8 (4 : Nat) ((4 : Nat) * ((kexR key).toNat + (1 : Nat))) (kexW key)), D.slc (4 : Nat) (chunks IntKind.u8 (4 : Nat) ((4 : Nat) * (key.length / (4 : Nat) + (7 : Nat))) (fwL (key.length / (4 : Nat)) key))] = [D.slc (4 : Nat) V, D.slc (4 : Nat) W] ∧ okW V ∧ okW W ∧ V.length ≤ (60 : Nat)) ∧
  True ∧
  True ∧
  match eqB (flW (chunks IntKind.u8 (4 : Nat) ((4 : Nat) * ((kexR key).toNat + (1 : Nat))) (kexW key))) (flW (chunks IntKind.u8 (4 : Nat) ((4 : Nat) * (key.length / (4 : Nat) + (7 : Nat))) (fwL (key.length / (4 : Nat)) key))) with
  | true =>
   ((241 : Nat) ≠ (0 : Nat) ∧ (241 : Nat) = (241 : Nat) ∧ true = true) ∧
   ((16 : Nat) ≠ (0 : Nat) ∧ (16 : Nat) = (16 : Nat) ∧ true = true) ∧
   (∃ (w : List Int),
   ∃ (R : Nat),
   ∃ (b_1 : List Int), [D.st [D.arr IntKind.u8 (240 : Nat) (kexW key), D.val (Value.int IntKind.i64 (kexR key))], D.arr IntKind.u8 (16 : Nat) b] = [D.st [D.arr IntKind.u8 (240 : Nat) w, D.val (Value.int IntKind.i64 (↑R : Int))], D.arr IntKind.u8 (16 : Nat) b_1] ∧ isB (240 : Nat) w ∧ isB (16 : Nat) b_1 ∧ R ≤ (14 : Nat)) ∧
   True ∧
   ((16 : Nat) ≠ (0 : Nat) ∧ (16 : Nat) = (16 : Nat) ∧ true = true) ∧
   (∃ (W : List D),
   ∃ (bx : List Int),
   ∃ (ux : List Int),
   ∃ (b_1 : List Int),
   [(D.st [D.slc (4 : Nat) (chunks IntKind.u8 (4 : Nat) ((4 : Nat) * (key.length / (4 : Nat) + (7 : Nat))) (fwL (key.length / (4 : Nat)) key)), D.arr IntKind.u8 (256 : Nat) boxP, D.arr IntKind.u8 (256 : Nat) boxU]).ref, D.arr IntKind.u8 (16 : Nat) b] =
   [(D.st [D.slc (4 : Nat) W, D.arr IntKind.u8 (256 : Nat) bx, D.arr IntKind.u8 (256 : Nat) ux]).ref, D.arr IntKind.u8 (16 : Nat) b_1] ∧
   okW W ∧ (4 : Nat) ≤ W.length ∧ W.length ≤ (60 : Nat) ∧ okX bx ux ∧ isB (16 : Nat) b_1) ∧
   (IntKind.u8 = IntKind.u8 ∧ IntKind.u8 = IntKind.u8 ∧ (16 : Nat) = (16 : Nat) ∧ (16 : Nat) = (16 : Nat) ∧ (1 : Nat) = (1 : Nat)) ∧
   True ∧
   True ∧
   match
   eqB (enL (kexW key) (kexR key).toNat b)
   (enL (flW (chunks IntKind.u8 (4 : Nat) ((4 : Nat) * (key.length / (4 : Nat) + (7 : Nat))) (fwL (key.length / (4 : Nat)) key))) ((chunks IntKind.u8 (4 : Nat) ((4 : Nat) * (key.length / (4 : Nat) + (7 : Nat))) (fwL (key.length / (4 : Nat)) key)).length / (4 : Nat) - (1 : Nat)) b) with
   | true =>
    ((241 : Nat) ≠ (0 : Nat) ∧ (241 : Nat) = (241 : Nat) ∧ true = true) ∧
    ((16 : Nat) ≠ (0 : Nat) ∧ (16 : Nat) = (16 : Nat) ∧ true = true) ∧
    (∃ (w : List Int),
    ∃ (R : Nat),
    ∃ (b_1 : List Int),
    [D.st [D.arr IntKind.u8 (240 : Nat) (kexW key), D.val (Value.int IntKind.i64 (kexR key))], D.arr IntKind.u8 (16 : Nat) b] = [D.st [D.arr IntKind.u8 (240 : Nat) w, D.val (Value.int IntKind.i64 (↑R : Int))], D.arr IntKind.u8 (16 : Nat) b_1] ∧
    isB (240 : Nat) w ∧ isB (16 : Nat) b_1 ∧ R ≤ (14 : Nat)) ∧
    True ∧
    ((16 : Nat) ≠ (0 : Nat) ∧ (16 : Nat) = (16 : Nat) ∧ true = true) ∧
    (∃ (W : List D),
    ∃ (bx : List Int),
    ∃ (ux : List Int),
    ∃ (b_1 : List Int),
    [(D.st [D.slc (4 : Nat) (chunks IntKind.u8 (4 : Nat) ((4 : Nat) * (key.length / (4 : Nat) + (7 : Nat))) (fwL (key.length / (4 : Nat)) key)), D.arr IntKind.u8 (256 : Nat) boxP, D.arr IntKind.u8 (256 : Nat) boxU]).ref, D.arr IntKind.u8 (16 : Nat) b] =
    [(D.st [D.slc (4 : Nat) W, D.arr IntKind.u8 (256 : Nat) bx, D.arr IntKind.u8 (256 : Nat) ux]).ref, D.arr IntKind.u8 (16 : Nat) b_1] ∧
    okW W ∧ (4 : Nat) ≤ W.length ∧ W.length ≤ (60 : Nat) ∧ okX bx ux ∧ isB (16 : Nat) b_1) ∧
    (IntKind.u8 = IntKind.u8 ∧ IntKind.u8 = IntKind.u8 ∧ (16 : Nat) = (16 : Nat) ∧ (16 : Nat) = (16 : Nat) ∧ (1 : Nat) = (1 : Nat)) ∧
    True ∧
    True ∧
    (false = false ∧ True) ∧
    D.val
    (Value.bool
    (eqB (deL (kexW key) (kexR key).toNat b)
    (deL (flW (chunks IntKind.u8 (4 : Nat) ((4 : Nat) * (key.length / (4 : Nat) + (7 : Nat))) (fwL (key.length / (4 : Nat)) key))) ((chunks IntKind.u8 (4 : Nat) ((4 : Nat) * (key.length / (4 : Nat) + (7 : Nat))) (fwL (key.length / (4 : Nat)) key)).length / (4 : Nat) - (1 : Nat)) b))) =
    F
   | false => True ∧ True ∧ (false = false ∧ True) ∧ D.val (Value.bool false) = F
  | false => True ∧ True ∧ True ∧ True ∧ (false = false ∧ True) ∧ D.val (Value.bool false) = F
 | false => True ∧ True ∧ True ∧ True ∧ True ∧ True ∧ (false = false ∧ True) ∧ D.val (Value.bool false) = F) := by kernel_rfl
set_option maxRecDepth 100000 in
theorem vc5b  (key b : List Int) (F : D)  :
    (owed c5b (fun _ => none) Try.f5 [.ints .u8 key, b16 b] F) = (
 (True ∧ false = false) ∧
 True ∧
 True ∧
 (∃ (key_1 : List Int), [D.ints IntKind.u8 key] = [D.ints IntKind.u8 key_1] ∧ okb key_1 ∧ key_1.length ≤ (140737488351232 : Nat)) ∧
 True ∧
 ((0 : Nat) < (2 : Nat) ∧ false = false) ∧
 ((1 : Nat) < (2 : Nat) ∧ false = false) ∧
 (True ∧ (241 : Nat) ≠ (0 : Nat)) ∧
 (Sk.st [Sk.arr (240 : Nat), Sk.one] = Sk.st [Sk.arr (240 : Nat), Sk.one] ∧ (241 : Nat) ≠ (0 : Nat) ∧ (241 : Nat) = (241 : Nat) ∧ false = false) ∧
 True ∧ True ∧ isBytes key ∧ (∃ (key_1 : List Int), [D.str key] = [D.str key_1] ∧ okb key_1 ∧ ¬okN key_1 ∧ key_1.length ≤ (140737488351232 : Nat)) ∧ True ∧ ((0 : Nat) < (2 : Nat) ∧ false = false) ∧ ((1 : Nat) < (2 : Nat) ∧ false = false) ∧ True ∧ True ∧ True ∧ True ∧ True ∧ True ∧ True ∧ True ∧ (false = false ∧ True) ∧ D.val (Value.bool (kexE key == (1 : Int))) = F) := by kernel_rfl

theorem okW_ch {fw : List Int} (h : isB 240 fw) {c : Nat} (hc : c ≤ 60) : okW (chunks .u8 4 c fw) := by
  intro d hd
  obtain ⟨j, hj, rfl⟩ := List.getElem_of_mem hd
  rw [ch_len] at hj
  have := ch_get (k := .u8) (n := 4) (d := D.val (.bool false)) (l := fw) hj
  rw [List.getD_eq_getElem?_getD, List.getElem?_eq_getElem (by rw [ch_len]; exact hj)] at this
  have e : (chunks .u8 4 c fw)[j]'(by rw [ch_len]; exact hj) = b4 ((fw.drop (4 * j)).take 4) := this
  rw [e, take_col (by rw [h.2]; omega)]
  exact ⟨_, rfl, colL_ok h.1 _, rfl⟩
theorem flW_ch {fw : List Int} (h : isB 240 fw) {c : Nat} (hc : c ≤ 60) {m : Nat} (hm : m < 4 * c) : (flW (chunks .u8 4 c fw)).getD m 0 = fw.getD m 0 := by
  have := flW_get (okW_ch h hc) (j := m / 4) (k := m % 4) (by rw [ch_len]; omega) (by omega) (D.val (.bool false))
  rw [show 4 * (m / 4) + m % 4 = m by omega, ch_get (by omega)] at this
  rw [this]
  show ((fw.drop (4 * (m / 4))).take 4).getD (m % 4) 0 = _
  rw [getD_take (by omega), getD_drop, show 4 * (m / 4) + m % 4 = m by omega]
theorem adK_congr {w v b : List Int} {r : Nat} (h : ∀ m, m < 16 * (r + 1) → w.getD m 0 = v.getD m 0) : adK w r b = adK v r b := by
  refine ext_getD (n := 16) (adK_len _ _ _) (adK_len _ _ _) fun i hi => ?_
  rw [adK_get hi, adK_get hi, h _ (by omega)]
theorem enS_congr {w v b : List Int} {R : Nat} (h : ∀ m, m < 16 * (R + 1) → w.getD m 0 = v.getD m 0) : ∀ k, k ≤ R → enS w b R k = enS v b R k
  | 0, _ => adK_congr fun m hm => h m (by omega)
  | k + 1, hk => by rw [enS, enS, enS_congr h k (by omega), adK_congr fun m hm => h m (by omega)]
theorem deS_congr {w v b : List Int} {R : Nat} (h : ∀ m, m < 16 * (R + 1) → w.getD m 0 = v.getD m 0) : ∀ k, k ≤ R → deS w b R k = deS v b R k
  | 0, _ => rfl
  | k + 1, hk => by rw [deS, deS, deS_congr h k (by omega), adK_congr (r := R - k) fun m hm => h m (by omega)]
theorem enL_congr {w v b : List Int} {R : Nat} (h : ∀ m, m < 16 * (R + 1) → w.getD m 0 = v.getD m 0) : enL w R b = enL v R b := enS_congr h R (Nat.le_refl _)
theorem deL_congr {w v b : List Int} {R : Nat} (h : ∀ m, m < 16 * (R + 1) → w.getD m 0 = v.getD m 0) : deL w R b = deL v R b := by
  unfold deL
  rw [deS_congr h R (Nat.le_refl _), adK_congr (r := 0) fun m hm => h m (by omega)]
theorem okX_box : okX boxP boxU := by
  have e : boxP = boxL := opq_eq _
  refine ⟨⟨?_, by rw [e, boxL_len]⟩, ⟨?_, by unfold boxU; exact gub_len _ _⟩, fun a ha => ⟨boxP_get ha, boxU_get ha⟩⟩
  · rw [e]
    intro x hx
    obtain ⟨a, ha, rfl⟩ := List.mem_map.1 hx
    have := gbx_lt a
    omega
  · intro x hx
    obtain ⟨j, hj, rfl⟩ := List.getElem_of_mem hx
    have hl : boxU.length = 256 := by unfold boxU; exact gub_len _ _
    have := boxU_get (a := j) (by omega)
    rw [List.getD_eq_getElem?_getD, List.getElem?_eq_getElem hj] at this
    have h2 : boxU[j] = ((gux j : Nat) : Int) := this
    rw [h2]
    have := gux_lt (a := j) (by omega)
    omega

theorem args5 {ds : List D} (h : (lawSpec tab Try.f5.params.toList).pre ds) : ∃ key b, ds = [.ints .u8 key, b16 b] ∧ (okb key ∧ key.length ≤ 140737488351232) ∧ isB 16 b := by
  have h : OkAll tab 8 [25, 38] ds := h
  match ds, h with
  | [x, y], h =>
    have h1 := h.1
    have h2 := h.2.1
    rw [ok25] at h1
    rw [ok38] at h2
    obtain ⟨key, rfl, a1, _, a3⟩ := h1
    obtain ⟨b, rfl, b1, b2⟩ := h2
    have e : IntKind.u8.max = 255 := rfl
    exact ⟨key, b, rfl, ⟨fun x hx => by have := a1 x hx; omega, by omega⟩, fun x hx => by have := b2 x hx; omega, b1⟩
  | _ :: _ :: _ :: _, h => cases h.2.2
  | [_], h => cases h.2

set_option linter.unusedVariables false in
theorem meets_or {P : Program} {f : FuncId} {s : Go.Vg.Spec} (p q : List D → Prop) (h1 : Meets P f ⟨p, s.f, s.flat, s.ps⟩) (h2 : Meets P f ⟨q, s.f, s.flat, s.ps⟩) (h : ∀ ds, s.pre ds → p ds ∨ q ds) : Meets P f s :=
  fun ds hp => (h ds hp).elim (h1 ds) (h2 ds)

def pre5 : List D → Prop := fun ds => ∃ key b, ds = [.ints .u8 key, b16 b] ∧ (okb key ∧ key.length ≤ 140737488351232) ∧ isB 16 b ∧ okN key
def pre5b : List D → Prop := fun ds => ∃ key b, ds = [.ints .u8 key, b16 b] ∧ (okb key ∧ key.length ≤ 140737488351232) ∧ isB 16 b ∧ ¬ okN key
set_option maxRecDepth 100000 in
theorem m5b : Meets Try.prog 5 ⟨pre5b, (lawSpec tab Try.f5.params.toList).f, (lawSpec tab Try.f5.params.toList).flat, (lawSpec tab Try.f5.params.toList).ps⟩ := by
  refine meets_of_owed (C := c5b) ⟨tab_ok, lkS_ok ⟨m19, m20b, m24, m23, m25, m26, m27, m28, trivial⟩⟩ (by kernel_rfl) (by kernel_rfl : Try.prog.funcs[5]? = some Try.f5) (by kernel_rfl) (by kernel_rfl) (by kernel_rfl) _ ?_
  rintro _ ⟨key, b, rfl, ⟨hk, hl⟩, hb, hN⟩
  refine ⟨fun _ => rfl, fun _ => none, ?_⟩
  show owed c5b (fun _ => none) Try.f5 [.ints .u8 key, b16 b] (.val (.bool true))
  rw [vc5b]
  have e : kexE key = 1 := by unfold kexE; rw [if_neg hN]
  rw [e]
  and_intros <;> first | exact True.intro | exact ⟨_, rfl, hk, hl⟩ | exact ⟨_, rfl, hk, hN, hl⟩ | exact hk | rfl | decide
set_option maxRecDepth 100000 in
theorem m5a : Meets Try.prog 5 ⟨pre5, (lawSpec tab Try.f5.params.toList).f, (lawSpec tab Try.f5.params.toList).flat, (lawSpec tab Try.f5.params.toList).ps⟩ := by
  refine meets_of_owed (C := c5) ⟨tab_ok, lkS_ok ⟨m19, m20, m24, m23, m25, m26, m27, m28, trivial⟩⟩ (by kernel_rfl) (by kernel_rfl : Try.prog.funcs[5]? = some Try.f5) (by kernel_rfl) (by kernel_rfl) (by kernel_rfl) _ ?_
  rintro _ ⟨key, b, rfl, ⟨hk, hl⟩, hb, hN⟩
  refine ⟨fun _ => rfl, fun _ => none, ?_⟩
  show owed c5 (fun _ => none) Try.f5 [.ints .u8 key, b16 b] (.val (.bool true))
  rw [vc5]
  have hn48 : key.length / 4 = 4 ∨ key.length / 4 = 6 ∨ key.length / 4 = 8 := by unfold okN at hN; omega
  have eE : kexE key = 0 := by unfold kexE; rw [if_pos hN]
  have eR : kexR key = ((key.length / 4 + 6 : Nat) : Int) := by unfold kexR; rw [if_pos hN]
  have eW : kexW key = fwL (key.length / 4) key := by unfold kexW; rw [if_pos hN]
  rw [eE, eR, eW]
  generalize key.length / 4 = n at hn48 ⊢
  have hfw := fw_ok hk n
  generalize fwL n key = fw at hfw ⊢
  have hW := okW_ch hfw (c := 4 * (n + 7)) (by omega)
  have hx := okX_box
  have hc : ∀ m, m < 16 * (n + 6 + 1) → (flW (chunks .u8 4 (4 * (n + 7)) fw)).getD m 0 = fw.getD m 0 := fun m hm => flW_ch hfw (by omega) (by omega)
  have ee : enL (flW (chunks .u8 4 (4 * (n + 7)) fw)) (n + 6) b = enL fw (n + 6) b := enL_congr hc
  have ed : deL (flW (chunks .u8 4 (4 * (n + 7)) fw)) (n + 6) b = deL fw (n + 6) b := deL_congr hc
  have er : 4 * (n + 7) / 4 - 1 = n + 6 := by omega
  have e7 : n + 6 + 1 = n + 7 := rfl
  simp only [Int.toNat_natCast, ch_len, er, e7, ee, ed, eqB_refl]
  have hWl : (chunks .u8 4 (4 * (n + 7)) fw).length = 4 * (n + 7) := ch_len _ _ _ _
  and_intros <;> first | exact True.intro | exact ⟨_, rfl, hk, hl⟩ | exact ⟨_, rfl, hk, hN⟩ | exact hk | exact ⟨fw, n + 6, rfl, hfw, by omega⟩ | exact ⟨fw, n + 6, b, rfl, hfw, hb, by omega⟩ | exact ⟨_, _, rfl, hW, hW, by omega⟩ | exact ⟨_, _, _, _, rfl, hW, by omega, by omega, hx, hb⟩ | rfl | decide

theorem m5 : Meets Try.prog 5 (lawSpec tab Try.f5.params.toList) := by
  refine meets_or pre5 pre5b m5a m5b ?_
  intro ds hds
  obtain ⟨key, b, rfl, h1, h2⟩ := args5 hds
  by_cases hN : okN key
  · exact .inl ⟨key, b, rfl, h1, h2, hN⟩
  · exact .inr ⟨key, b, rfl, h1, h2, hN⟩

end Go.Proofs.Ytnadggcfdakpoaa
