/- GfTells, part 3: the box, and the law. -/
import Derived.Test.YtnadggcfdakpoaaZb10
import Derived.Test.YtnadggcfdakpoaaZb12
import Derived.Test.YtnadggcfdakpoaaZb9
namespace Go.Proofs.Ytnadggcfdakpoaa
open Go Go.Vg

theorem tab_set (f : Nat → Int) (n i : Nat) (h : i < n) :
    ((List.range i).map f ++ List.replicate (n - i) 0).set i (f i) = (List.range (i + 1)).map f ++ List.replicate (n - (i + 1)) 0 := by
  rw [show n - i = (n - (i + 1)) + 1 by omega, List.replicate_succ, List.set_append_right _ _ (by simp), List.length_map, List.length_range, Nat.sub_self, List.set_cons_zero, List.range_succ, List.map_append, List.append_assoc]
  rfl
theorem pwL_get {i : Nat} (h : i < 255) : (pwL 255 ++ List.replicate (255 - 255) 0).getD i 0 = ((gpw 3 i : Nat) : Int) := by
  rw [Nat.sub_self, List.replicate_zero, List.append_nil]
  simp [pwL, List.getD_eq_getElem?_getD, h]
theorem box_set {a : Nat} (h : a < 256) : (boxL.take a ++ List.replicate (256 - a) 0).set a ((gbx a : Nat) : Int) = boxL.take (a + 1) ++ List.replicate (256 - (a + 1)) 0 := by
  have := tab_set (fun j => ((gbx j : Nat) : Int)) 256 a h
  have e : ∀ i, i ≤ 256 → boxL.take i = (List.range i).map fun j => ((gbx j : Nat) : Int) := by
    intro i hi
    rw [boxL, ← List.map_take, List.take_range, Nat.min_eq_left hi]
  rw [e a (by omega), e (a + 1) (by omega)]
  exact this
theorem gk_get {k : Nat} (h : k < 5) : [(0 : Int), 4, 5, 6, 7].getD k 0 = ((gk.getD k 0 : Nat) : Int) ∧ gk.getD k 0 < 8 := by
  obtain rfl | rfl | rfl | rfl | rfl : k = 0 ∨ k = 1 ∨ k = 2 ∨ k = 3 ∨ k = 4 := by omega
  all_goals exact ⟨rfl, by decide⟩

set_option maxRecDepth 100000 in
theorem m79 : Meets Try.prog 79 sp79 := by
  refine meets_of_owed (C := c134) ⟨tab_ok, lkS_ok ⟨m81, trivial⟩⟩ (by kernel_rfl) (by kernel_rfl : Try.prog.funcs[79]? = some Try.f79) (by kernel_rfl) (by kernel_rfl) (by kernel_rfl) _ ?_
  intro ds hds
  obtain rfl : ds = [] := List.length_eq_zero_iff.mp hds
  refine ⟨fun _ => rfl, inv79, ?_⟩
  show owed c134 inv79 Try.f79 [] (b256 boxP)
  rw [vc79]
  simp (decide := true) only [eq_self, true_and, and_true, ne_eq, not_false_eq_true, Int.toNat_natCast]
  refine ⟨⟨⟨rfl, rfl⟩, rfl⟩, ?_⟩
  intro x hx
  split
  · rename_i h
    have h := of_decide_eq_true h
    rw [show ((x : Int) + 1) = ((x + 1 : Nat) : Int) by omega, wNi (n := x + 1) (by omega)]
    simp only [Int.toNat_natCast]
    have e : (pwL x ++ List.replicate (255 - x) 0).set x ((gpw 3 x : Nat) : Int) = pwL (x + 1) ++ List.replicate (255 - (x + 1)) 0 := tab_set _ 255 x (by omega)
    rw [e]
    have hp : ∃ a b : Nat, [u8 (gpw 3 x), D.val (Value.int IntKind.u8 3)] = [u8 a, u8 b] ∧ a < 256 ∧ b < 256 := ⟨_, 3, rfl, gpw_lt (by decide) x, by decide⟩
    and_intros <;> first | exact hp | omega | rfl | trivial
  rename_i h
  have h := of_decide_eq_false h
  obtain rfl : x = 255 := by omega
  clear h hx
  refine ⟨by and_intros <;> first | rfl | trivial, ?_⟩
  intro x hx
  split
  · rename_i h
    have h := of_decide_eq_true h
    have hlt : (255 - x) % 255 < 255 := Nat.mod_lt _ (by decide)
    have e1 : (255 : Int) - (x : Int) = ((255 - x : Nat) : Int) := by omega
    have e2 : ((255 - x : Nat) : Int).tmod 255 = (((255 - x) % 255 : Nat) : Int) := tmodN (255 - x) 255
    have hg : gpw 3 x < 256 := gpw_lt (by decide) x
    have e : (gia x).set (gpw 3 x) ((gpw 3 ((255 - x) % 255) : Nat) : Int) = gia (x + 1) := rfl
    rw [e1, wNi (n := 255 - x) (by omega), e2, show ((x : Int) + 1) = ((x + 1 : Nat) : Int) by omega, wNi (n := x + 1) (by omega)]
    simp only [Int.toNat_natCast]
    rw [pwL_get (i := x) (by omega), pwL_get hlt]
    simp only [Int.toNat_natCast]
    rw [e]
    and_intros <;> first | omega | rfl | trivial
  rename_i h
  have h := of_decide_eq_false h
  obtain rfl : x = 255 := by omega
  clear h hx
  refine ⟨by and_intros <;> first | rfl | trivial, ?_⟩
  intro a ha
  split
  · rename_i h
    have h := of_decide_eq_true h
    have hg := giv_lt (a := a) (by omega)
    rw [gia_giv (a := a) (by omega), wNi (n := giv a) (by omega), show ((a : Int) + 1) = ((a + 1 : Nat) : Int) by omega, wNi (n := a + 1) (by omega)]
    simp only [Int.toNat_natCast]
    refine ⟨by omega, ⟨⟨rfl, rfl⟩, trivial⟩, ?_⟩
    rintro ⟨b, i⟩ ⟨hb, hi⟩
    simp only at hb hi ⊢
    obtain rfl : b = giv a := by omega
    split
    · rename_i h2
      have h2 := of_decide_eq_true h2
      rw [show (99 : Int) = ((99 : Nat) : Int) from rfl, ishrN .i64 (by simp only [IntKind.bits]; omega), iand1 .i64 (by rw [kbi]; exact Nat.lt_of_le_of_lt (Nat.div_le_self _ _) (by decide)),
        show ((i : Int) + 1) = ((i + 1 : Nat) : Int) by omega, wNi (n := i + 1) (by omega)]
      simp only [Int.toNat_natCast]
      refine ⟨by omega, ⟨⟨rfl, rfl⟩, trivial⟩, ?_⟩
      rintro ⟨b, j, k⟩ ⟨hb2, hj, hk⟩
      simp only at hb2 hj hk ⊢
      obtain rfl : b = giv a := by omega
      obtain rfl : j = i := by omega
      split
      · rename_i h3
        have h3 := of_decide_eq_true h3
        obtain ⟨e1, e2⟩ := gk_get (k := k) (by omega)
        have e3 : (((j + gk.getD k 0 : Nat) : Int)).tmod 8 = (((j + gk.getD k 0) % 8 : Nat) : Int) := tmodN _ 8
        have hs : (j + gk.getD k 0) % 8 < 8 := Nat.mod_lt _ (by decide)
        have hq : giv a / 2 ^ ((j + gk.getD k 0) % 8) < kb .i64 := Nat.lt_of_le_of_lt (Nat.div_le_self _ _) (by rw [kbi]; omega)
        have hn := gan_le (giv a) j k
        have e4 : gan (giv a) j (k + 1) = gan (giv a) j k + giv a / 2 ^ ((j + gk.getD k 0) % 8) % 2 := rfl
        rw [e1, show ((j : Int) + ((gk.getD k 0 : Nat) : Int)) = ((j + gk.getD k 0 : Nat) : Int) by omega, wNi (n := j + gk.getD k 0) (by omega), e3, ishrN .i64 (by simp only [IntKind.bits]; omega), iand1 .i64 hq,
          show (((gan (giv a) j k : Nat) : Int) + ((giv a / 2 ^ ((j + gk.getD k 0) % 8) % 2 : Nat) : Int)) = ((gan (giv a) j k + giv a / 2 ^ ((j + gk.getD k 0) % 8) % 2 : Nat) : Int) by omega, ← e4,
          wNi (n := gan (giv a) j (k + 1)) (by have := gan_le (giv a) j (k + 1); omega), show ((k : Int) + 1) = ((k + 1 : Nat) : Int) by omega, wNi (n := k + 1) (by omega)]
        simp only [Int.toNat_natCast]
        and_intros <;> first | omega | rfl | trivial
      · rename_i h3
        have h3 := of_decide_eq_false h3
        obtain rfl : k = 5 := by omega
        have e5 : ((gan (giv a) j 5 : Nat) : Int).tmod 2 = ((gan (giv a) j 5 % 2 : Nat) : Int) := tmodN _ 2
        have h2j : 2 ^ j ≤ 2 ^ 7 := Nat.pow_le_pow_right (by decide) (by omega)
        have hx := gax_lt (giv a) j
        have hx1 := gax_lt (giv a) (j + 1)
        have h2k : 2 ^ (j + 1) ≤ 2 ^ 8 := Nat.pow_le_pow_right (by decide) (by omega)
        have e6 : gax (giv a) (j + 1) = gax (giv a) j + gan (giv a) j 5 % 2 * 2 ^ j := rfl
        rw [e5, ishlN .i64 (by simp only [IntKind.bits]; omega), wNi (n := gan (giv a) j 5 % 2 * 2 ^ j) (by omega), ← Int.natCast_add, ← e6, wNi (n := gax (giv a) (j + 1)) (by omega)]
        and_intros <;> first | omega | rfl | trivial
    · rename_i h2
      have h2 := of_decide_eq_false h2
      obtain rfl : i = 8 := by omega
      have hlt := gbx_lt a
      have e : gax (giv a) 8 = gbx a := rfl
      rw [e, wN8, Nat.mod_eq_of_lt hlt, box_set (by omega)]
      and_intros <;> first | omega | rfl | trivial
  · rename_i h
    have h := of_decide_eq_false h
    obtain rfl : a = 256 := by omega
    have e : boxP = boxL := opq_eq _
    rw [e, Nat.sub_self, List.replicate_zero, List.append_nil, List.take_of_length_le (by rw [boxL_len]; exact Nat.le_refl _)]

end Go.Proofs.Ytnadggcfdakpoaa
/- the reference's cipher: NewCipher. -/
namespace Go.Proofs.Ytnadggcfdakpoaa
open Go Go.Vg

theorem ch_len (k : IntKind) (n : Nat) : ∀ (c : Nat) (l : List Int), (chunks k n c l).length = c
  | 0, _ => rfl
  | c + 1, l => by simp [chunks, ch_len k n c]
theorem ch_get {k : IntKind} {n : Nat} {d : D} : ∀ {c j : Nat} {l : List Int}, j < c → (chunks k n c l).getD j d = .arr k n ((l.drop (n * j)).take n)
  | 0, _, _, h => by omega
  | c + 1, 0, l, _ => rfl
  | c + 1, j + 1, l, h => by
    show (chunks k n c (l.drop n)).getD j d = _
    rw [ch_get (by omega), List.drop_drop, show n + n * j = n * (j + 1) by rw [Nat.mul_add]; omega]
theorem ch_succ {k : IntKind} {n : Nat} : ∀ (c : Nat) (l : List Int), chunks k n (c + 1) l = chunks k n c l ++ [.arr k n ((l.drop (n * c)).take n)]
  | 0, l => rfl
  | c + 1, l => by
    show D.arr k n (l.take n) :: chunks k n (c + 1) (l.drop n) = D.arr k n (l.take n) :: chunks k n c (l.drop n) ++ [.arr k n ((l.drop (n * (c + 1))).take n)]
    rw [ch_succ c (l.drop n), List.drop_drop, show n + n * c = n * (c + 1) by rw [Nat.mul_add]; omega]
    rfl
theorem take_col {fw : List Int} {j : Nat} (h : 4 * j + 4 ≤ fw.length) : (fw.drop (4 * j)).take 4 = colL fw j := by
  refine ext_getD (n := 4) (by rw [List.length_take, List.length_drop]; omega) rfl fun i hi => ?_
  rw [getD_take hi, getD_drop]
  unfold colL
  match i, hi with
  | 0, _ => rfl
  | 1, _ => rfl
  | 2, _ => rfl
  | 3, _ => rfl
  | k + 4, h => omega
theorem boxP_get {a : Nat} (h : a < 256) : boxP.getD a 0 = ((gbx a : Nat) : Int) := by
  unfold boxP
  rw [opq_eq, boxL_get h]
theorem boxU_get {a : Nat} (h : a < 256) : boxU.getD a 0 = ((gux a : Nat) : Int) := by
  unfold boxU boxP
  rw [opq_eq, gub_box h]
theorem col_get4 {f : Nat → Int} : [f 0, f 1, f 2, f 3] = (List.range 4).map f := rfl
theorem rowc {a b : List D} (h : a = b) : some (Blk.row 39 (.slc 4 a)) = some (Blk.row 39 (.slc 4 b)) := by rw [h]
theorem avc {a b : AV} (h : a = b) : a = b := h
theorem u8c {a b : Nat} (h : a = b) : AV.d (u8 a) = AV.d (u8 b) := by rw [h]
theorem s4L_eq (p : List Int) : s4L p = [((gbx (p.getD 0 0).toNat : Nat) : Int), ((gbx (p.getD 1 0).toNat : Nat) : Int), ((gbx (p.getD 2 0).toNat : Nat) : Int), ((gbx (p.getD 3 0).toNat : Nat) : Int)] := rfl
theorem s4L_trn (p : List Int) : s4L (trn p) = [((gbx (p.getD 1 0).toNat : Nat) : Int), ((gbx (p.getD 2 0).toNat : Nat) : Int), ((gbx (p.getD 3 0).toNat : Nat) : Int), ((gbx (p.getD 0 0).toNat : Nat) : Int)] := rfl
attribute [local irreducible] selL s4L adK eaL shL usL trL adR mxR fwS fwL

set_option maxHeartbeats 4000000 in
set_option maxRecDepth 100000 in
theorem m20 : MeetsQ Try.prog 20 sp20 := by
  refine meetsNew_of_owed (C := c20) ⟨tab_ok, lkS_ok ⟨m79, m80, m81, trivial⟩⟩ (by kernel_rfl) (by kernel_rfl : Try.prog.funcs[20]? = some Try.f20) (by kernel_rfl) (by kernel_rfl) (by kernel_rfl) _ ⟨by kernel_rfl, by kernel_rfl, by kernel_rfl, by kernel_rfl⟩ ?_
  rintro _ ⟨key, rfl, hk, hN⟩
  refine ⟨inv20 (key.length / 4) (fwL (key.length / 4) key), ?_⟩
  show owedNew c20 (inv20 (key.length / 4) (fwL (key.length / 4) key)) Try.f20 [.str key] (.tup [.st [.slc 4 (chunks .u8 4 (4 * (key.length / 4 + 7)) (fwL (key.length / 4) key)), b256 boxP, b256 boxU], i64 0])
  rw [vc20]
  have hz0 : Int.toNat 0 = 0 := rfl
  simp (decide := true) only [eq_self, true_and, and_true, ne_eq, not_false_eq_true, Int.toNat_natCast, ch_len, hz0, List.length_append, List.length_cons, List.length_nil]
  refine m3 ?_ ?_
  · intro h1 h2 h3
    have h1 := bne_iff_ne.1 h1
    have h2 := bne_iff_ne.1 h2
    have h3 := bne_iff_ne.1 h3
    unfold okN at hN
    omega
  · intro hb
    have hn48 : key.length / 4 = 4 ∨ key.length / 4 = 6 ∨ key.length / 4 = 8 := by unfold okN at hN; omega
    have hlen : key.length = 4 * (key.length / 4) := by unfold okN at hN; omega
    rw [td4, wNi (n := key.length / 4) (by omega)]
    generalize hne : key.length / 4 = n at hn48 hlen ⊢
    have hfw := fw_ok hk n
    have hwd : ∀ i j, i < 4 * (n + 7) → j < 4 → (fwL n key).getD (4 * i + j) 0 = (wdL n key i (fwL n key)).getD j 0 := fun i j hi hj => fw_word (by omega) (by omega) hi hj
    generalize fwL n key = fw at hfw hwd ⊢
    have w7 : IntKind.i64.wrap ((n : Int) + 7) = ((n + 7 : Nat) : Int) := wi_n (by omega) 7 (by omega)
    have w28 : IntKind.i64.wrap (4 * ((n + 7 : Nat) : Int)) = ((4 * (n + 7) : Nat) : Int) := by rw [show 4 * ((n + 7 : Nat) : Int) = ((4 * (n + 7) : Nat) : Int) by omega, wNi (by omega)]
    simp only [w7, w28]
    have hbx : ∃ l, [D.arr IntKind.u8 256 boxP] = [D.arr IntKind.u8 256 l] ∧ okb l ∧ l.length = 256 := ⟨_, rfl, by
      unfold boxP
      rw [opq_eq]
      refine ⟨?_, boxL_len⟩
      intro x hx
      obtain ⟨a, ha, rfl⟩ := List.mem_map.1 hx
      have := gbx_lt a
      omega⟩
    refine ⟨hbx, by and_intros <;> first | exact True.intro | omega | rfl, ?_⟩
    intro i hi
    split
    · rename_i h2
      have h2 : i < n := by have := of_decide_eq_true h2; omega
      have q : ∀ k : Nat, k < 4 → IntKind.i64.wrap (((4 * i : Nat) : Int) + (k : Int)) = ((4 * i + k : Nat) : Int) := fun k hk => wi_n (by omega) k (by omega)
      have q0 : IntKind.i64.wrap (4 * (i : Int)) = ((4 * i : Nat) : Int) := by rw [show 4 * (i : Int) = ((4 * i : Nat) : Int) by omega, wNi (by omega)]
      have q1 : IntKind.i64.wrap (((4 * i : Nat) : Int) + 1) = _ := q 1 (by omega)
      have q2 : IntKind.i64.wrap (((4 * i : Nat) : Int) + 2) = _ := q 2 (by omega)
      have q3 : IntKind.i64.wrap (((4 * i : Nat) : Int) + 3) = _ := q 3 (by omega)
      have ec : [key.getD (4 * i) 0, key.getD (4 * i + 1) 0, key.getD (4 * i + 2) 0, key.getD (4 * i + 3) 0] = colL fw i := by
        have wk : ∀ j, j < 4 → fw.getD (4 * i + j) 0 = key.getD (4 * i + j) 0 := by
          intro j hj
          rw [hwd i j (by omega) hj]
          unfold wdL
          rw [if_pos h2]
          unfold colL
          match j, hj with
          | 0, _ => rfl
          | 1, _ => rfl
          | 2, _ => rfl
          | 3, _ => rfl
          | k + 4, h => omega
        have w0 := wk 0 (by omega)
        rw [Nat.add_zero] at w0
        unfold colL
        rw [w0, wk 1 (by omega), wk 2 (by omega), wk 3 (by omega)]
      have es := ch_succ (k := .u8) (n := 4) i fw
      rw [take_col (by rw [hfw.2]; omega)] at es
      simp only [q0, q1, q2, q3, sq (x := i) (by omega), Int.toNat_natCast, ec, ← es]
      and_intros <;> first | exact True.intro | omega | rfl
    · rename_i h2
      have h2 : i = n := by have := of_decide_eq_false h2; omega
      subst h2
      have e0 : (i - 1) / i = 0 := Nat.div_eq_of_lt (by omega)
      refine ⟨by and_intros <;> first | exact True.intro | omega | (rw [e0]; rfl) | rfl, ?_⟩
      clear hi e0
      generalize i = n at *
      intro i ⟨hi1, hi2⟩
      split
      · rename_i h
        have h : i < 4 * (n + 7) := by have := of_decide_eq_true h; omega
        have w1 : IntKind.i64.wrap ((i : Int) - 1) = ((i - 1 : Nat) : Int) := by rw [show (i : Int) - 1 = ((i - 1 : Nat) : Int) by omega, wNi (by omega)]
        have wn : IntKind.i64.wrap ((i : Int) - (n : Int)) = ((i - n : Nat) : Int) := by rw [show (i : Int) - (n : Int) = ((i - n : Nat) : Int) by omega, wNi (by omega)]
        have tmn : (i : Int).tmod (n : Int) = ((i % n : Nat) : Int) := rfl
        have tm8 : (i : Int).tmod 8 = ((i % 8 : Nat) : Int) := rfl
        have g1 : (chunks .u8 4 i fw).getD (i - 1) (D.val (Value.bool false)) = b4 (prL fw i) := by rw [ch_get (by omega), take_col (by rw [hfw.2]; omega)]; rfl
        have gn : (chunks .u8 4 i fw).getD (i - n) (D.val (Value.bool false)) = b4 (colL fw (i - n)) := by rw [ch_get (by omega), take_col (by rw [hfw.2]; omega)]
        have ea : ∀ l, arrOf (D.arr .u8 4 l) = l := fun l => rfl
        have hpp : okb (prL fw i) := colL_ok hfw.1 (i - 1)
        have hb : ∀ j, 0 ≤ (prL fw i).getD j 0 ∧ (prL fw i).getD j 0 < 256 := fun j => okb_g hpp j
        have hbox : ∀ j, boxP.getD ((prL fw i).getD j 0).toNat 0 = ((gbx ((prL fw i).getD j 0).toNat : Nat) : Int) := fun j => boxP_get (by have := hb j; omega)
        simp only [w1, wn, tmn, tm8, Int.toNat_natCast, g1, gn, ea, hbox]
        have hdv : (i % n = 0 → i / n - 1 = (i - 1) / n ∧ (i - 1) / n + 1 = i / n) ∧ (i % n ≠ 0 → (i - 1) / n = i / n) := by
          rcases hn48 with rfl | rfl | rfl <;> omega
        refine ⟨by and_intros <;> omega, by and_intros <;> first | exact True.intro | omega | rfl, by and_intros <;> omega, by and_intros <;> first | exact True.intro | omega | rfl, by omega, ?_, ?_⟩
        · split
          · rename_i h5
            have h5 : i % n = 0 := by have := eq_of_beq h5; omega
            obtain ⟨d1, d2⟩ := hdv.1 h5
            have et : tuL n fw i = (s4L (trn (prL fw i))).set 0 (ixor .u8 ((s4L (trn (prL fw i))).getD 0 0) ((gpw 2 (i / n - 1) : Nat) : Int)) := by unfold tuL; rw [if_pos h5]
            rw [et, s4L_trn, d1]
            have em : gm (gpw 2 ((i - 1) / n)) 2 = gpw 2 (i / n) := by rw [← d2]; rfl
            and_intros <;> first | exact True.intro | exact (hb _).1 | exact (hb _).2 | omega | exact ⟨_, 2, rfl, gpw_lt (by decide) _, by decide⟩ | exact u8c em | rfl
          · rename_i h5
            have h5 : ¬ i % n = 0 := fun e => by rw [e] at h5; cases h5
            have ed := hdv.2 h5
            split
            · rename_i h6
              have h6 : n = 8 := by have := eq_of_beq h6; omega
              split
              · rename_i h7
                have h7 : i % 8 = 4 := by have := eq_of_beq h7; omega
                have et : tuL n fw i = s4L (prL fw i) := by unfold tuL; rw [if_neg h5, if_pos ⟨h6, h7⟩]
                rw [et, s4L_eq, ed]
                and_intros <;> first | exact True.intro | exact (hb _).1 | exact (hb _).2 | omega | rfl
              · rename_i h7
                have h7 : ¬ i % 8 = 4 := fun e => by rw [e] at h7; cases h7
                have et : tuL n fw i = prL fw i := by unfold tuL; rw [if_neg h5, if_neg (fun hh => h7 hh.2)]
                rw [et, ed]
                first | trivial | (and_intros <;> first | exact True.intro | omega | rfl)
            · rename_i h6
              have h6 : ¬ n = 8 := fun e => by rw [e] at h6; cases h6
              have et : tuL n fw i = prL fw i := by unfold tuL; rw [if_neg h5, if_neg (fun hh => h6 hh.1)]
              rw [et, ed]
              first | trivial | (and_intros <;> first | exact True.intro | omega | rfl)
        · intro z hz'
          obtain rfl : z = i := by omega
          have ew : [ixor .u8 ((colL fw (z - n)).getD 0 0) ((tuL n fw z).getD 0 0), ixor .u8 ((colL fw (z - n)).getD 1 0) ((tuL n fw z).getD 1 0), ixor .u8 ((colL fw (z - n)).getD 2 0) ((tuL n fw z).getD 2 0), ixor .u8 ((colL fw (z - n)).getD 3 0) ((tuL n fw z).getD 3 0)] = colL fw z := by
            have wk : ∀ j, j < 4 → fw.getD (4 * z + j) 0 = ixor .u8 (fw.getD (4 * (z - n) + j) 0) ((tuL n fw z).getD j 0) := by
              intro j hj
              rw [hwd z j h hj]
              unfold wdL
              rw [if_neg (by omega), map_getD _ hj]
            have w0 := wk 0 (by omega)
            rw [Nat.add_zero, Nat.add_zero] at w0
            unfold colL
            rw [w0, wk 1 (by omega), wk 2 (by omega), wk 3 (by omega)]
            rfl
          have es := ch_succ (k := .u8) (n := 4) z fw
          rw [take_col (by rw [hfw.2]; omega)] at es
          simp only [ew, ← es]
          and_intros <;> first | exact True.intro | omega | exact u8c (by rw [Nat.add_sub_cancel]) | rfl
      · rename_i h
        have h : i = 4 * (n + 7) := by have := of_decide_eq_false h; omega
        subst h
        rfl

end Go.Proofs.Ytnadggcfdakpoaa
/- AesTells: Words, Equal, NewCipher of a wrong key. -/
namespace Go.Proofs.Ytnadggcfdakpoaa
open Go Go.Vg

set_option maxRecDepth 100000 in
theorem m20b : Meets Try.prog 20 sp20b := by
  refine meets_of_owed (C := c20) ⟨tab_ok, lkS_ok ⟨m79, m80, m81, trivial⟩⟩ (by kernel_rfl) (by kernel_rfl : Try.prog.funcs[20]? = some Try.f20) (by kernel_rfl) (by kernel_rfl) (by kernel_rfl) _ ?_
  rintro _ ⟨key, rfl, hk, hN, hl⟩
  refine ⟨fun _ => rfl, fun _ => none, ?_⟩
  show owed c20 (fun _ => none) Try.f20 [.str key] (.tup [.val (.pointer none), i64 1])
  rw [vc20b]
  simp (decide := true) only [eq_self, true_and, and_true, ne_eq, not_false_eq_true]
  refine m3 ?_ ?_
  · intro _ _ _
    first | exact True.intro | rfl
  · intro hb
    exact absurd (by
      unfold okN
      refine Classical.byContradiction fun hc => hb ⟨bne_iff_ne.2 (by omega), bne_iff_ne.2 (by omega), bne_iff_ne.2 (by omega)⟩) hN

set_option maxRecDepth 100000 in
theorem m24 : Meets Try.prog 24 sp24 := by
  refine meets_of_owed (C := c24) ⟨tab_ok, fun f s h => by cases h⟩ (by kernel_rfl) (by kernel_rfl : Try.prog.funcs[24]? = some Try.f24) (by kernel_rfl) (by kernel_rfl) (by kernel_rfl) _ ?_
  rintro _ ⟨w, R, rfl, hw, hR⟩
  refine ⟨(fun h => by cases h), fun _ => none, ?_⟩
  show owed c24 (fun _ => none) Try.f24 [keyD w ((R : Nat) : Int)] (.slc 4 (chunks .u8 4 (4 * (((R : Nat) : Int).toNat + 1)) w))
  have w1 : IntKind.i64.wrap ((R : Int) + 1) = ((R + 1 : Nat) : Int) := sq (by omega)
  have w4 : IntKind.i64.wrap (4 * ((R + 1 : Nat) : Int)) = ((4 * (R + 1) : Nat) : Int) := by rw [show 4 * ((R + 1 : Nat) : Int) = ((4 * (R + 1) : Nat) : Int) by omega, wNi (by omega)]
  rw [vc24]
  simp only [w1, w4, Int.toNat_natCast, ch_len, List.drop_zero, Nat.sub_zero]
  and_intros <;> first | exact True.intro | omega | rfl | decide

theorem eqB_refl (l : List Int) : eqB l l = true := eqB_iff.2 rfl
theorem flW_take {V W : List D} (hV : okW V) (hW : okW W) {k : Nat} (h1 : k < V.length) (h2 : k < W.length) (d : D) (e : flW (V.take k) = flW (W.take k)) :
    (flW (V.take (k + 1)) = flW (W.take (k + 1)) ↔ arrOf (V.getD k d) = arrOf (W.getD k d)) := by
  have app : ∀ a b : List D, flW (a ++ b) = flW a ++ flW b := by
    intro a b
    induction a with
    | nil => rfl
    | cons x a ih => show arrOf x ++ flW (a ++ b) = arrOf x ++ flW a ++ flW b; rw [ih, List.append_assoc]
  have s1 : V.take (k + 1) = V.take k ++ [V.getD k d] := by
    rw [List.take_add_one, List.getD_eq_getElem?_getD, List.getElem?_eq_getElem h1]
    rfl
  have s2 : W.take (k + 1) = W.take k ++ [W.getD k d] := by
    rw [List.take_add_one, List.getD_eq_getElem?_getD, List.getElem?_eq_getElem h2]
    rfl
  rw [s1, s2, app, app, e]
  constructor
  · intro h
    have h' : arrOf (V.getD k d) ++ [] = arrOf (W.getD k d) ++ [] := List.append_cancel_left h
    rwa [List.append_nil, List.append_nil] at h'
  · intro h
    show flW (W.take k) ++ (arrOf (V.getD k d) ++ []) = flW (W.take k) ++ (arrOf (W.getD k d) ++ [])
    rw [h]
theorem okW_take {V : List D} (h : okW V) (k : Nat) : okW (V.take k) := fun d hd => h d (List.mem_of_mem_take hd)
theorem flW_pre {V W : List D} (hV : okW V) (hW : okW W) (hl : V.length = W.length) {k : Nat} (hk : k < V.length) (d : D) (h : arrOf (V.getD k d) ≠ arrOf (W.getD k d)) : flW V ≠ flW W := by
  intro e
  obtain ⟨l, e1, hl1⟩ := okW_get hV hk d
  obtain ⟨m, e2, hl2⟩ := okW_get hW (j := k) (by omega) d
  apply h
  rw [e1, e2]
  show l = m
  refine ext_getD hl1.2 hl2.2 fun j hj => ?_
  have a := flW_get hV hk hj d
  have b := flW_get hW (show k < W.length by omega) hj d
  rw [e1] at a
  rw [e2] at b
  rw [e] at a
  exact a.symm.trans b

set_option maxRecDepth 100000 in
theorem m23 : Meets Try.prog 23 sp23 := by
  refine meets_of_owed (C := c0) ⟨tab_ok, fun f s h => by cases h⟩ (by kernel_rfl) (by kernel_rfl : Try.prog.funcs[23]? = some Try.f23) (by kernel_rfl) (by kernel_rfl) (by kernel_rfl) _ ?_
  rintro _ ⟨V, W, rfl, hV, hW, hl⟩
  refine ⟨fun _ => rfl, inv23 V W, ?_⟩
  show owed c0 (inv23 V W) Try.f23 [.slc 4 V, .slc 4 W] (.val (.bool (eqB (flW V) (flW W))))
  rw [vc23]
  simp (decide := true) only [eq_self, true_and, and_true, ne_eq, not_false_eq_true]
  have l1 := flW_len hV
  have l2 := flW_len hW
  split
  · rename_i h
    have h := bne_iff_ne.1 h
    have : eqB (flW V) (flW W) = false := eqB_not.2 fun e => h (by have := congrArg List.length e; omega)
    rw [this]
  · rename_i h
    have h : V.length = W.length := by
      have : ((V.length : Int) != (W.length : Int)) = false := h
      have : (V.length : Int) = (W.length : Int) := by simpa using this
      omega
    refine ⟨by and_intros <;> first | exact True.intro | rfl | omega, ?_⟩
    intro k ⟨hk, he⟩
    split
    · rename_i h2
      have h2 : k < V.length := by have := of_decide_eq_true h2; omega
      simp only [Int.toNat_natCast]
      obtain ⟨l, e1, hl1⟩ := okW_get hV h2 (D.val (Value.bool false))
      obtain ⟨m, e2, hl2⟩ := okW_get hW (show k < W.length by omega) (D.val (Value.bool false))
      have ft := flW_take hV hW h2 (by omega) (D.val (Value.bool false)) he
      have fp := flW_pre hV hW h h2 (D.val (Value.bool false))
      rw [e1, e2] at ft fp
      rw [e1, e2]
      refine ⟨by and_intros <;> first | exact True.intro | rfl | omega | decide, by and_intros <;> first | exact True.intro | rfl | omega | decide, ?_⟩
      split
      · rename_i h3
        have h3 : ¬ l = m := fun e => by
          have h3' : (!eqB l m) = true := h3
          rw [e, eqB_refl] at h3'
          cases h3'
        have : eqB (flW V) (flW W) = false := eqB_not.2 (fp h3)
        rw [this]
      · rename_i h3
        have h3 : l = m := eqB_iff.1 (by
          have h3' : (!eqB l m) = false := h3
          cases hq : eqB l m
          · rw [hq] at h3'; cases h3'
          · rfl)
        rw [sq (x := k) (by omega)]
        simp only [Int.toNat_natCast]
        and_intros <;> first | exact True.intro | omega | exact ft.2 h3 | rfl
    · rename_i h2
      have h2 : k = V.length := by have := of_decide_eq_false h2; omega
      rw [List.take_of_length_le (by omega), List.take_of_length_le (by omega)] at he
      rw [he, eqB_refl]

end Go.Proofs.Ytnadggcfdakpoaa
/- The laws on ciphers: what they share. -/
namespace Go.Proofs.Ytnadggcfdakpoaa
open Go Go.Vg

set_option maxRecDepth 100000 in
theorem ok25  (d : D)  :
    (OkT tab 8 25 d) = (
 ∃ (l : List Int), d = D.ints IntKind.u8 l ∧ (∀ (z : Int), z ∈ l → (0 : Int) ≤ z ∧ z ≤ IntKind.u8.max) ∧ l.length ≤ (9223372036854775807 : Nat) ∧ l.length * (1 : Nat) ≤ (140737488351232 : Nat)) := by kernel_rfl
set_option maxRecDepth 100000 in
theorem ok38  (d : D)  :
    (OkT tab 8 38 d) = (
 ∃ (l : List Int), d = D.arr IntKind.u8 (16 : Nat) l ∧ l.length = (16 : Nat) ∧ ∀ (z : Int), z ∈ l → (0 : Int) ≤ z ∧ z ≤ IntKind.u8.max) := by kernel_rfl

theorem okW_ch {fw : List Int} (h : isB 240 fw) {c : Nat} (hc : c ≤ 60) : okW (chunks .u8 4 c fw) := by
  intro d hd
  obtain ⟨j, hj, rfl⟩ := List.getElem_of_mem hd
  rw [ch_len] at hj
  have := ch_get (k := .u8) (n := 4) (d := D.val (.bool false)) (l := fw) hj
  rw [List.getD_eq_getElem?_getD, List.getElem?_eq_getElem (by rw [ch_len]; exact hj)] at this
  have e : (chunks .u8 4 c fw)[j]'(by rw [ch_len]; exact hj) = b4 ((fw.drop (4 * j)).take 4) := this
  rw [e, take_col (by rw [h.2]; omega)]
  exact ⟨_, rfl, colL_ok h.1 _, rfl⟩
theorem flW_ch {fw : List Int} (h : isB 240 fw) {c : Nat} (hc : c ≤ 60) {m : Nat} (hm : m < 4 * c) : (flW (chunks .u8 4 c fw)).getD m 0 = fw.getD m 0 := by
  have := flW_get (okW_ch h hc) (j := m / 4) (k := m % 4) (by rw [ch_len]; omega) (by omega) (D.val (.bool false))
  rw [show 4 * (m / 4) + m % 4 = m by omega, ch_get (by omega)] at this
  rw [this]
  show ((fw.drop (4 * (m / 4))).take 4).getD (m % 4) 0 = _
  rw [getD_take (by omega), getD_drop, show 4 * (m / 4) + m % 4 = m by omega]
theorem adK_congr {w v b : List Int} {r : Nat} (h : ∀ m, m < 16 * (r + 1) → w.getD m 0 = v.getD m 0) : adK w r b = adK v r b := by
  refine ext_getD (n := 16) (adK_len _ _ _) (adK_len _ _ _) fun i hi => ?_
  rw [adK_get hi, adK_get hi, h _ (by omega)]
theorem enS_congr {w v b : List Int} {R : Nat} (h : ∀ m, m < 16 * (R + 1) → w.getD m 0 = v.getD m 0) : ∀ k, k ≤ R → enS w b R k = enS v b R k
  | 0, _ => adK_congr fun m hm => h m (by omega)
  | k + 1, hk => by rw [enS, enS, enS_congr h k (by omega), adK_congr fun m hm => h m (by omega)]
theorem deS_congr {w v b : List Int} {R : Nat} (h : ∀ m, m < 16 * (R + 1) → w.getD m 0 = v.getD m 0) : ∀ k, k ≤ R → deS w b R k = deS v b R k
  | 0, _ => rfl
  | k + 1, hk => by rw [deS, deS, deS_congr h k (by omega), adK_congr (r := R - k) fun m hm => h m (by omega)]
theorem enL_congr {w v b : List Int} {R : Nat} (h : ∀ m, m < 16 * (R + 1) → w.getD m 0 = v.getD m 0) : enL w R b = enL v R b := enS_congr h R (Nat.le_refl _)
theorem deL_congr {w v b : List Int} {R : Nat} (h : ∀ m, m < 16 * (R + 1) → w.getD m 0 = v.getD m 0) : deL w R b = deL v R b := by
  unfold deL
  rw [deS_congr h R (Nat.le_refl _), adK_congr (r := 0) fun m hm => h m (by omega)]
theorem okX_box : okX boxP boxU := by
  have e : boxP = boxL := opq_eq _
  refine ⟨⟨?_, by rw [e, boxL_len]⟩, ⟨?_, by unfold boxU; exact gub_len _ _⟩, fun a ha => ⟨boxP_get ha, boxU_get ha⟩⟩
  · rw [e]
    intro x hx
    obtain ⟨a, ha, rfl⟩ := List.mem_map.1 hx
    have := gbx_lt a
    omega
  · intro x hx
    obtain ⟨j, hj, rfl⟩ := List.getElem_of_mem hx
    have hl : boxU.length = 256 := by unfold boxU; exact gub_len _ _
    have := boxU_get (a := j) (by omega)
    rw [List.getD_eq_getElem?_getD, List.getElem?_eq_getElem hj] at this
    have h2 : boxU[j] = ((gux j : Nat) : Int) := this
    rw [h2]
    have := gux_lt (a := j) (by omega)
    omega

set_option linter.unusedVariables false in
theorem meets_or {P : Program} {f : FuncId} {s : Go.Vg.Spec} (p q : List D → Prop) (h1 : Meets P f ⟨p, s.f, s.flat, s.ps⟩) (h2 : Meets P f ⟨q, s.f, s.flat, s.ps⟩) (h : ∀ ds, s.pre ds → p ds ∨ q ds) : Meets P f s :=
  fun ds hp => (h ds hp).elim (h1 ds) (h2 ds)

end Go.Proofs.Ytnadggcfdakpoaa
/- Numbers as digits: what the functions of LimbHalves compute (the document's side). -/
namespace Go.Proofs.Ytnadggcfdakpoaa
open Go Go.Vg

abbrev dgs (l : List Int) : D := .ints .i64 l
abbrev num4 (l : List Int) : D := .arr .u64 4 l
abbrev num8 (l : List Int) : D := .arr .u64 8 l
def lenOk (l : List Int) : Prop := l.length ≤ 1048576

def sp74 : Go.Vg.Spec := ⟨fun ds => ∃ l i, ds = [dgs l, i64 i] ∧ lenOk l, fun ds => i64 (dig (intsOf (ds.headD default)) (numOf (ds.getD 1 default))), true, [94, 3]⟩
def sp125 : Go.Vg.Spec := ⟨fun ds => ∃ l, ds = [dgs l] ∧ lenOk l, fun ds => dgs (trimL (intsOf (ds.headD default))), false, [94]⟩
def sp83 : Go.Vg.Spec := ⟨fun ds => ∃ l, ds = [.ints .u64 l] ∧ okw l ∧ l.length ≤ 100, fun ds => dgs (dg (vB 18446744073709551616 (intsOf (ds.headD default)))), false, [161]⟩
def sp126 : Go.Vg.Spec := ⟨fun ds => ∃ l n, ds = [dgs l, i64 n] ∧ okd l ∧ lenOk l ∧ 0 ≤ n ∧ n ≤ 100, fun ds => .ints .u64 (nB 18446744073709551616 (numOf (ds.getD 1 default)).toNat (vB 65536 (intsOf (ds.headD default)))), false, [94, 3]⟩

def c74 : Ctx := ⟨tab, fun _ => none, [], []⟩
--KEEP dig lenOk Go.Vg.dig Go.Vg.trimL Go.Vg.dg Go.Vg.vB Go.Vg.nB Go.Vg.okd Go.Vg.okw
set_option maxRecDepth 100000 in
theorem vc74  (l : List Int) (i : Int) (F : D)  :
    (owed c74 (fun _ => none) Try.f74 [dgs l, i64 i] F) = (
 True ∧
 True ∧
 True ∧
 True ∧
 match decide (i < (0 : Int)) with
 | true => True ∧ True ∧ (false = false ∧ True) ∧ D.val (Value.int IntKind.i64 (0 : Int)) = F
 | false =>
  True ∧
  True ∧
  True ∧
  True ∧
  True ∧
  match decide (i ≥ (↑l.length : Int)) with
  | true => True ∧ (false = false ∧ True) ∧ D.val (Value.int IntKind.i64 (0 : Int)) = F
  | false => True ∧ True ∧ ((0 : Int) ≤ i ∧ i < (↑l.length : Int) ∧ (1 : Nat) = (1 : Nat)) ∧ ((1 : Nat) ≠ (0 : Nat) ∧ (1 : Nat) = (1 : Nat) ∧ false = false) ∧ True ∧ (false = false ∧ True) ∧ D.val (Value.int IntKind.i64 (l.getD i.toNat (0 : Int))) = F) := by kernel_rfl

def inv125 : Nat → Option Inv
  | 1 => some ⟨List Int, fun l => [(0, .d (dgs l))], fun _ => [], fun s => intsOf (slotD s 0), fun s l => trimL l = trimL (intsOf (slotD s 0)) ∧ lenOk l, fun l => l.length⟩
  | _ => none
set_option maxRecDepth 100000 in
theorem vc125  (l : List Int) (F : D)  :
    (owed c74 inv125 Try.f125 [dgs l] F) = (
 True ∧
 (((AV.d (D.ints IntKind.i64 l) = AV.d (D.ints IntKind.i64 l) ∧ True) ∧ True ∧ true = true) ∧ trimL l = trimL l ∧ lenOk l) ∧
 ∀ (x : List Int),
 trimL x = trimL l ∧ lenOk x →
 true = true ∧
 True ∧
 True ∧
 True ∧
 True ∧
 match decide ((↑x.length : Int) > (0 : Int)) with
 | true =>
  True ∧
  True ∧
  True ∧
  True ∧
  ((0 : Int) ≤ IntKind.i64.wrap ((↑x.length : Int) - (1 : Int)) ∧ IntKind.i64.wrap ((↑x.length : Int) - (1 : Int)) < (↑x.length : Int) ∧ (1 : Nat) = (1 : Nat)) ∧
  ((1 : Nat) ≠ (0 : Nat) ∧ (1 : Nat) = (1 : Nat) ∧ false = false) ∧
  True ∧
  True ∧
  match x.getD (IntKind.i64.wrap ((↑x.length : Int) - (1 : Int))).toNat (0 : Int) == (0 : Int) with
  | true =>
   True ∧
   True ∧
   True ∧
   True ∧
   ((0 : Int) ≤ (0 : Int) ∧ (0 : Int) ≤ IntKind.i64.wrap ((↑x.length : Int) - (1 : Int)) ∧ IntKind.i64.wrap ((↑x.length : Int) - (1 : Int)) ≤ (↑x.length : Int) ∧ (1 : Nat) = (1 : Nat)) ∧
   True ∧
   ((AV.d (D.ints IntKind.i64 (List.drop (0 : Nat) (List.take (IntKind.i64.wrap ((↑x.length : Int) - (1 : Int))).toNat x))) = AV.d (D.ints IntKind.i64 (List.drop (0 : Nat) (List.take (IntKind.i64.wrap ((↑x.length : Int) - (1 : Int))).toNat x))) ∧ True) ∧ True ∧ true = true) ∧
   (trimL (List.drop (0 : Nat) (List.take (IntKind.i64.wrap ((↑x.length : Int) - (1 : Int))).toNat x)) = trimL l ∧ lenOk (List.drop (0 : Nat) (List.take (IntKind.i64.wrap ((↑x.length : Int) - (1 : Int))).toNat x))) ∧ (List.drop (0 : Nat) (List.take (IntKind.i64.wrap ((↑x.length : Int) - (1 : Int))).toNat x)).length < x.length
  | false => True ∧ True ∧ (false = false ∧ True) ∧ D.ints IntKind.i64 x = F
 | false => True ∧ True ∧ True ∧ (false = false ∧ True) ∧ D.ints IntKind.i64 x = F) := by kernel_rfl

def c83 : Ctx := ⟨tab, lkS [(125, sp125)], [3], [25]⟩
def inv83 (l : List Int) : Nat → Option Inv
  | 3 => some ⟨Int, fun i => [(8, .d (i64 i)), (3, .row 3)], fun i => [(3, .row 3 (dgs (outW (l.take i.toNat))))], fun s => slotN s 8, fun _ i => 0 ≤ i ∧ i ≤ l.length, fun i => (l.length - i).toNat⟩
  | 6 => some ⟨Int × Int × List Int, fun x => [(12, .d (i64 x.1)), (5, .d (u64 x.2.1)), (3, .row 3)], fun x => [(3, .row 3 (dgs x.2.2))], fun s => (slotN s 12, slotN s 5, rowD s 3),
      fun s x => (0 ≤ x.1 ∧ x.1 ≤ 4) ∧ x.2.1 = (((slotN s 5).toNat / 65536 ^ x.1.toNat : Nat) : Int) ∧ x.2.2 = rowD s 3 ++ nB 65536 x.1.toNat (slotN s 5).toNat, fun x => (4 - x.1).toNat⟩
  | _ => none
--KEEP Go.Vg.outW
set_option maxRecDepth 100000 in
theorem vc83  (l : List Int) (F : D)  :
    (owed c83 (inv83 l) Try.f83 [.ints .u64 l] F) = (
 True ∧
 (1 : Nat) ≠ (0 : Nat) ∧
 True ∧
 True ∧
 True ∧
 (((AV.d (D.val (Value.int IntKind.i64 (0 : Int))) = AV.d (D.val (Value.int IntKind.i64 (0 : Int))) ∧ AV.row (3 : Nat) = AV.row (3 : Nat) ∧ True) ∧ (some (Blk.row (3 : TypeId) (D.ints IntKind.i64 [])) = some (Blk.row (3 : TypeId) (D.ints IntKind.i64 (outW (List.take (0 : Nat) l)))) ∧ True) ∧ true = true) ∧ (0 : Int) ≤ (0 : Int) ∧ (0 : Int) ≤ (↑l.length : Int)) ∧
 ∀ (x : Int),
 (0 : Int) ≤ x ∧ x ≤ (↑l.length : Int) →
 true = true ∧
 True ∧
 match decide (x < (↑l.length : Int)) with
 | true =>
  ((0 : Int) ≤ x ∧ x < (↑l.length : Int) ∧ (1 : Nat) = (1 : Nat)) ∧
  ((1 : Nat) ≠ (0 : Nat) ∧ (1 : Nat) = (1 : Nat) ∧ false = false) ∧
  True ∧
  True ∧
  (((AV.d (D.val (Value.int IntKind.i64 (0 : Int))) = AV.d (D.val (Value.int IntKind.i64 (0 : Int))) ∧ AV.d (D.val (Value.int IntKind.u64 (l.getD x.toNat (0 : Int)))) = AV.d (D.val (Value.int IntKind.u64 (l.getD x.toNat (0 : Int)))) ∧ AV.row (3 : Nat) = AV.row (3 : Nat) ∧ True) ∧
  (some (Blk.row (3 : TypeId) (D.ints IntKind.i64 (outW (List.take x.toNat l)))) = some (Blk.row (3 : TypeId) (D.ints IntKind.i64 (outW (List.take x.toNat l)))) ∧ True) ∧ true = true) ∧
  ((0 : Int) ≤ (0 : Int) ∧ (0 : Int) ≤ (4 : Int)) ∧ l.getD x.toNat (0 : Int) = (↑((l.getD x.toNat (0 : Int)).toNat / (1 : Nat)) : Int) ∧ outW (List.take x.toNat l) = outW (List.take x.toNat l) ++ nB (65536 : Nat) (0 : Nat) (l.getD x.toNat (0 : Int)).toNat) ∧
  ∀ (x_1 : Int × Int × List Int),
  ((0 : Int) ≤ x_1.fst ∧ x_1.fst ≤ (4 : Int)) ∧ x_1.snd.fst = (↑((l.getD x.toNat (0 : Int)).toNat / (65536 : Nat) ^ x_1.fst.toNat) : Int) ∧ x_1.snd.snd = outW (List.take x.toNat l) ++ nB (65536 : Nat) x_1.fst.toNat (l.getD x.toNat (0 : Int)).toNat →
  true = true ∧
  True ∧
  match decide (x_1.fst < (4 : Int)) with
  | true =>
   True ∧
   True ∧
   (65536 : Int) ≠ (0 : Int) ∧
   True ∧
   ((1 : Nat) = (1 : Nat) ∧ (1 : Nat) ≤ (4096 : Nat)) ∧
   ((3 : TypeId) = (3 : TypeId) ∧ (94 : Nat) = (94 : Nat) ∧ true = true ∧ (x_1.snd.snd ++ [IntKind.i64.wrap (x_1.snd.fst.tmod (65536 : Int))]).length ≤ (140737488355328 : Nat) ∧ (x_1.snd.snd ++ [IntKind.i64.wrap (x_1.snd.fst.tmod (65536 : Int))]).length * (8 : Nat) ≤ (140737488355328 : Nat) ∧ (1 : Nat) ≠ (0 : Nat) ∧ (1 : Nat) = (1 : Nat)) ∧
   True ∧
   True ∧
   (65536 : Int) ≠ (0 : Int) ∧
   True ∧
   True ∧
   True ∧
   ((AV.d (D.val (Value.int IntKind.i64 (IntKind.i64.wrap (x_1.fst + (1 : Int))))) = AV.d (D.val (Value.int IntKind.i64 (IntKind.i64.wrap (x_1.fst + (1 : Int))))) ∧
   AV.d (D.val (Value.int IntKind.u64 (IntKind.u64.wrap (x_1.snd.fst.tdiv (65536 : Int))))) = AV.d (D.val (Value.int IntKind.u64 (IntKind.u64.wrap (x_1.snd.fst.tdiv (65536 : Int))))) ∧ AV.row (3 : Nat) = AV.row (3 : Nat) ∧ True) ∧
   (some (Blk.row (3 : TypeId) (D.ints IntKind.i64 (x_1.snd.snd ++ [IntKind.i64.wrap (x_1.snd.fst.tmod (65536 : Int))]))) = some (Blk.row (3 : TypeId) (D.ints IntKind.i64 (x_1.snd.snd ++ [IntKind.i64.wrap (x_1.snd.fst.tmod (65536 : Int))]))) ∧ True) ∧ true = true) ∧
   (((0 : Int) ≤ IntKind.i64.wrap (x_1.fst + (1 : Int)) ∧ IntKind.i64.wrap (x_1.fst + (1 : Int)) ≤ (4 : Int)) ∧
   IntKind.u64.wrap (x_1.snd.fst.tdiv (65536 : Int)) = (↑((l.getD x.toNat (0 : Int)).toNat / (65536 : Nat) ^ (IntKind.i64.wrap (x_1.fst + (1 : Int))).toNat) : Int) ∧
   x_1.snd.snd ++ [IntKind.i64.wrap (x_1.snd.fst.tmod (65536 : Int))] = outW (List.take x.toNat l) ++ nB (65536 : Nat) (IntKind.i64.wrap (x_1.fst + (1 : Int))).toNat (l.getD x.toNat (0 : Int)).toNat) ∧
   ((4 : Int) - IntKind.i64.wrap (x_1.fst + (1 : Int))).toNat < ((4 : Int) - x_1.fst).toNat
  | false =>
   True ∧
   True ∧
   ((AV.d (D.val (Value.int IntKind.i64 (IntKind.i64.wrap (x + (1 : Int))))) = AV.d (D.val (Value.int IntKind.i64 (IntKind.i64.wrap (x + (1 : Int))))) ∧ AV.row (3 : Nat) = AV.row (3 : Nat) ∧ True) ∧
   (some (Blk.row (3 : TypeId) (D.ints IntKind.i64 x_1.snd.snd)) = some (Blk.row (3 : TypeId) (D.ints IntKind.i64 (outW (List.take (IntKind.i64.wrap (x + (1 : Int))).toNat l)))) ∧ True) ∧ true = true) ∧
   ((0 : Int) ≤ IntKind.i64.wrap (x + (1 : Int)) ∧ IntKind.i64.wrap (x + (1 : Int)) ≤ (↑l.length : Int)) ∧ ((↑l.length : Int) - IntKind.i64.wrap (x + (1 : Int))).toNat < ((↑l.length : Int) - x).toNat
 | false => True ∧ (∃ (l_1 : List Int), [D.ints IntKind.i64 (outW (List.take x.toNat l))] = [D.ints IntKind.i64 l_1] ∧ lenOk l_1) ∧ True ∧ (false = false ∧ True) ∧ D.ints IntKind.i64 (trimL (outW (List.take x.toNat l))) = F) := by kernel_rfl

def inv126 (l : List Int) (n : Int) : Nat → Option Inv
  | 3 => some ⟨Int, fun i => [(6, .d (i64 i))], fun i => [(8, .fix (.arr .u64 n.toNat (wl n.toNat l (i + 1).toNat)))], fun s => slotN s 6, fun _ i => -1 ≤ i ∧ i < l.length, fun i => (i + 1).toNat⟩
  | _ => none
--KEEP Go.Vg.wl
set_option maxRecDepth 100000 in
theorem vc126  (l : List Int) (n : Int) (F : D)  :
    (owed c74 (inv126 l n) Try.f126 [dgs l, i64 n] F) = (
 True ∧
 True ∧
 ((0 : Int) ≤ n ∧ n = n ∧ n ≤ (281474976710656 : Int) ∧ (↑(8 : Nat) : Int) * n ≤ (281474976710656 : Int) ∧ (1 : Nat) = (1 : Nat)) ∧
 True ∧
 True ∧
 True ∧
 True ∧
 True ∧
 (((AV.d (D.val (Value.int IntKind.i64 (IntKind.i64.wrap ((↑l.length : Int) - (1 : Int))))) = AV.d (D.val (Value.int IntKind.i64 (IntKind.i64.wrap ((↑l.length : Int) - (1 : Int))))) ∧ True) ∧
 (some (Blk.fix (D.arr IntKind.u64 n.toNat (List.replicate n.toNat (0 : Int)))) = some (Blk.fix (D.arr IntKind.u64 n.toNat (wl n.toNat l (IntKind.i64.wrap ((↑l.length : Int) - (1 : Int)) + (1 : Int)).toNat))) ∧ True) ∧ true = true) ∧
 (-1 : Int) ≤ IntKind.i64.wrap ((↑l.length : Int) - (1 : Int)) ∧ IntKind.i64.wrap ((↑l.length : Int) - (1 : Int)) < (↑l.length : Int)) ∧
 ∀ (x : Int),
 (-1 : Int) ≤ x ∧ x < (↑l.length : Int) →
 true = true ∧
 True ∧
 True ∧
 match decide (x ≥ (0 : Int)) with
 | true =>
  True ∧
  True ∧
  True ∧
  True ∧
  match decide (x < IntKind.i64.wrap ((4 : Int) * n)) with
  | true =>
   True ∧
   True ∧
   (4 : Int) ≠ (0 : Int) ∧
   True ∧
   True ∧
   (4 : Int) ≠ (0 : Int) ∧
   ((0 : Int) ≤ IntKind.i64.wrap (x.tdiv (4 : Int)) ∧ IntKind.i64.wrap (x.tdiv (4 : Int)) < (↑n.toNat : Int) ∧ (1 : Nat) = (1 : Nat)) ∧
   ((1 : Nat) ≠ (0 : Nat) ∧ (1 : Nat) = (1 : Nat) ∧ false = false) ∧
   True ∧
   True ∧
   True ∧
   ((0 : Int) ≤ x ∧ x < (↑l.length : Int) ∧ (1 : Nat) = (1 : Nat)) ∧
   ((1 : Nat) ≠ (0 : Nat) ∧ (1 : Nat) = (1 : Nat) ∧ false = false) ∧
   True ∧
   True ∧
   ((0 : Int) ≤ IntKind.i64.wrap (x.tdiv (4 : Int)) ∧ IntKind.i64.wrap (x.tdiv (4 : Int)) < (↑n.toNat : Int) ∧ (1 : Nat) = (1 : Nat)) ∧
   (((0 : Nat) + (IntKind.i64.wrap (x.tdiv (4 : Int))).toNat < n.toNat ∧ ([] : List Nat) = [] ∧ true = true) ∧ (1 : Nat) ≠ (0 : Nat) ∧ (1 : Nat) = (1 : Nat) ∧ false = false) ∧
   True ∧
   True ∧
   True ∧
   ((AV.d (D.val (Value.int IntKind.i64 (IntKind.i64.wrap (x - (1 : Int))))) = AV.d (D.val (Value.int IntKind.i64 (IntKind.i64.wrap (x - (1 : Int))))) ∧ True) ∧
   (some
   (Blk.fix
   (D.arr IntKind.u64 n.toNat
   ((wl n.toNat l (x + (1 : Int)).toNat).set ((0 : Nat) + (IntKind.i64.wrap (x.tdiv (4 : Int))).toNat)
   (IntKind.u64.wrap (IntKind.u64.wrap ((wl n.toNat l (x + (1 : Int)).toNat).getD ((0 : Nat) + (IntKind.i64.wrap (x.tdiv (4 : Int))).toNat) (0 : Int) * (65536 : Int)) + IntKind.u64.wrap (l.getD x.toNat (0 : Int))))))) =
   some (Blk.fix (D.arr IntKind.u64 n.toNat (wl n.toNat l (IntKind.i64.wrap (x - (1 : Int)) + (1 : Int)).toNat))) ∧
   True) ∧
   true = true) ∧
   ((-1 : Int) ≤ IntKind.i64.wrap (x - (1 : Int)) ∧ IntKind.i64.wrap (x - (1 : Int)) < (↑l.length : Int)) ∧ (IntKind.i64.wrap (x - (1 : Int)) + (1 : Int)).toNat < (x + (1 : Int)).toNat
  | false =>
   True ∧
   True ∧
   True ∧
   ((AV.d (D.val (Value.int IntKind.i64 (IntKind.i64.wrap (x - (1 : Int))))) = AV.d (D.val (Value.int IntKind.i64 (IntKind.i64.wrap (x - (1 : Int))))) ∧ True) ∧
   (some (Blk.fix (D.arr IntKind.u64 n.toNat (wl n.toNat l (x + (1 : Int)).toNat))) = some (Blk.fix (D.arr IntKind.u64 n.toNat (wl n.toNat l (IntKind.i64.wrap (x - (1 : Int)) + (1 : Int)).toNat))) ∧ True) ∧ true = true) ∧
   ((-1 : Int) ≤ IntKind.i64.wrap (x - (1 : Int)) ∧ IntKind.i64.wrap (x - (1 : Int)) < (↑l.length : Int)) ∧ (IntKind.i64.wrap (x - (1 : Int)) + (1 : Int)).toNat < (x + (1 : Int)).toNat
 | false => True ∧ True ∧ (false = false ∧ True) ∧ D.ints IntKind.u64 (List.take n.toNat (List.drop (0 : Nat) (wl n.toNat l (x + (1 : Int)).toNat))) = F) := by kernel_rfl

def sp72 : Go.Vg.Spec := ⟨fun ds => ∃ l, ds = [num4 l] ∧ okw l ∧ l.length = 4, fun ds => dgs (dg (vB 18446744073709551616 (arrOf (ds.headD default)))), false, [24]⟩
def sp67 : Go.Vg.Spec := ⟨fun ds => ∃ l, ds = [dgs l] ∧ okd l ∧ lenOk l, fun ds => num4 (nB 18446744073709551616 4 (vB 65536 (intsOf (ds.headD default)))), true, [94]⟩
def c72 : Ctx := ⟨tab, lkS [(83, sp83)], [], [12]⟩
def c67 : Ctx := ⟨tab, lkS [(126, sp126)], [], []⟩
set_option maxRecDepth 100000 in
theorem vc72  (l : List Int) (F : D)  :
    (owed c72 (fun _ => none) Try.f72 [num4 l] F) = (
 (True ∧ false = false) ∧
 True ∧
 ((0 : Int) ≤ (0 : Int) ∧ (0 : Int) < (↑(4 : Nat) : Int) ∧ (4 : Nat) = (4 : Nat) ∧ (1 : Nat) = (1 : Nat)) ∧
 ((1 : Nat) ≠ (0 : Nat) ∧ (1 : Nat) = (1 : Nat) ∧ false = false) ∧
 ((0 : Int) ≤ (1 : Int) ∧ (1 : Int) < (↑(4 : Nat) : Int) ∧ (4 : Nat) = (4 : Nat) ∧ (1 : Nat) = (1 : Nat)) ∧
 ((1 : Nat) ≠ (0 : Nat) ∧ (1 : Nat) = (1 : Nat) ∧ false = false) ∧
 ((0 : Int) ≤ (2 : Int) ∧ (2 : Int) < (↑(4 : Nat) : Int) ∧ (4 : Nat) = (4 : Nat) ∧ (1 : Nat) = (1 : Nat)) ∧
 ((1 : Nat) ≠ (0 : Nat) ∧ (1 : Nat) = (1 : Nat) ∧ false = false) ∧
 ((0 : Int) ≤ (3 : Int) ∧ (3 : Int) < (↑(4 : Nat) : Int) ∧ (4 : Nat) = (4 : Nat) ∧ (1 : Nat) = (1 : Nat)) ∧
 ((1 : Nat) ≠ (0 : Nat) ∧ (1 : Nat) = (1 : Nat) ∧ false = false) ∧
 ((1 : Nat) = (1 : Nat) ∧ (4 : Nat) ≤ (4096 : Nat)) ∧
 (∃ (l_1 : List Int), [D.ints IntKind.u64 [l.getD (0 : Nat) (0 : Int), l.getD (1 : Nat) (0 : Int), l.getD (2 : Nat) (0 : Int), l.getD (3 : Nat) (0 : Int)]] = [D.ints IntKind.u64 l_1] ∧ okw l_1 ∧ l_1.length ≤ (100 : Nat)) ∧
 True ∧ (false = false ∧ True) ∧ D.ints IntKind.i64 (dg (vB (18446744073709551616 : Nat) [l.getD (0 : Nat) (0 : Int), l.getD (1 : Nat) (0 : Int), l.getD (2 : Nat) (0 : Int), l.getD (3 : Nat) (0 : Int)])) = F) := by kernel_rfl
set_option maxRecDepth 100000 in
theorem vc67  (l : List Int) (F : D)  :
    (owed c67 (fun _ => none) Try.f67 [dgs l] F) = (
 (True ∧ (4 : Nat) ≠ (0 : Nat)) ∧
 True ∧
 (∃ (l_1 : List Int), ∃ (n : Int), [D.ints IntKind.i64 l, D.val (Value.int IntKind.i64 (4 : Int))] = [D.ints IntKind.i64 l_1, D.val (Value.int IntKind.i64 n)] ∧ okd l_1 ∧ lenOk l_1 ∧ (0 : Int) ≤ n ∧ n ≤ (100 : Int)) ∧
 True ∧
 True ∧
 ((0 : Int) ≤ (0 : Int) ∧ (0 : Int) < (↑(nB (18446744073709551616 : Nat) (4 : Nat) (vB (65536 : Nat) l)).length : Int) ∧ (1 : Nat) = (1 : Nat)) ∧
 ((1 : Nat) ≠ (0 : Nat) ∧ (1 : Nat) = (1 : Nat) ∧ false = false) ∧
 True ∧
 ((0 : Int) ≤ (1 : Int) ∧ (1 : Int) < (↑(nB (18446744073709551616 : Nat) (4 : Nat) (vB (65536 : Nat) l)).length : Int) ∧ (1 : Nat) = (1 : Nat)) ∧
 ((1 : Nat) ≠ (0 : Nat) ∧ (1 : Nat) = (1 : Nat) ∧ false = false) ∧
 True ∧
 ((0 : Int) ≤ (2 : Int) ∧ (2 : Int) < (↑(nB (18446744073709551616 : Nat) (4 : Nat) (vB (65536 : Nat) l)).length : Int) ∧ (1 : Nat) = (1 : Nat)) ∧
 ((1 : Nat) ≠ (0 : Nat) ∧ (1 : Nat) = (1 : Nat) ∧ false = false) ∧
 True ∧
 ((0 : Int) ≤ (3 : Int) ∧ (3 : Int) < (↑(nB (18446744073709551616 : Nat) (4 : Nat) (vB (65536 : Nat) l)).length : Int) ∧ (1 : Nat) = (1 : Nat)) ∧
 ((1 : Nat) ≠ (0 : Nat) ∧ (1 : Nat) = (1 : Nat) ∧ false = false) ∧
 ((1 : Nat) = (1 : Nat) ∧ false = false ∧ ((0 : Nat) < (4 : Nat) ∧ ([] : List Nat) = [] ∧ true = true) ∧ false = false ∧ ((1 : Nat) < (4 : Nat) ∧ ([] : List Nat) = [] ∧ true = true) ∧ false = false ∧ ((2 : Nat) < (4 : Nat) ∧ ([] : List Nat) = [] ∧ true = true) ∧ false = false ∧ ((3 : Nat) < (4 : Nat) ∧ ([] : List Nat) = [] ∧ true = true) ∧ True) ∧
 (Sk.arr (4 : Nat) = Sk.arr (4 : Nat) ∧ (4 : Nat) ≠ (0 : Nat) ∧ (4 : Nat) = (4 : Nat) ∧ false = false) ∧
 (((4 : Nat) ≠ (0 : Nat) ∧ (4 : Nat) = (4 : Nat) ∧ true = true) ∧ True) ∧
 D.arr IntKind.u64 (4 : Nat)
 [(nB (18446744073709551616 : Nat) (4 : Nat) (vB (65536 : Nat) l)).getD (0 : Nat) (0 : Int), (nB (18446744073709551616 : Nat) (4 : Nat) (vB (65536 : Nat) l)).getD (1 : Nat) (0 : Int), (nB (18446744073709551616 : Nat) (4 : Nat) (vB (65536 : Nat) l)).getD (2 : Nat) (0 : Int),
 (nB (18446744073709551616 : Nat) (4 : Nat) (vB (65536 : Nat) l)).getD (3 : Nat) (0 : Int)] =
 F) := by kernel_rfl
/-- n bits of v. -/
def sp123 : Go.Vg.Spec := ⟨fun ds => ∃ l n, ds = [dgs l, i64 n] ∧ okd l ∧ lenOk l ∧ 0 ≤ n ∧ n ≤ 16777216, fun ds => dgs (nB 2 (numOf (ds.getD 1 default)).toNat (vB 65536 (intsOf (ds.headD default)))), false, [94, 3]⟩
def c123 : Ctx := ⟨tab, lkS [(74, sp74)], [], []⟩
def inv123 (l : List Int) (n : Int) : Nat → Option Inv
  | 3 => some ⟨Int, fun i => [(11, .d (i64 i))], fun i => [(8, .fix (.arr .i64 n.toNat (nB 2 i.toNat (vB 65536 l) ++ List.replicate (n - i).toNat 0)))], fun s => slotN s 11, fun _ i => 0 ≤ i ∧ i ≤ n, fun i => (n - i).toNat⟩
  | _ => none
set_option maxRecDepth 100000 in
theorem vc123  (l : List Int) (n : Int) (F : D)  :
    (owed c123 (inv123 l n) Try.f123 [dgs l, i64 n] F) = (
 True ∧
 True ∧
 ((0 : Int) ≤ n ∧ n = n ∧ n ≤ (281474976710656 : Int) ∧ (↑(8 : Nat) : Int) * n ≤ (281474976710656 : Int) ∧ (1 : Nat) = (1 : Nat)) ∧
 True ∧
 True ∧
 True ∧
 True ∧
 (((AV.d (D.val (Value.int IntKind.i64 (0 : Int))) = AV.d (D.val (Value.int IntKind.i64 (0 : Int))) ∧ True) ∧ (some (Blk.fix (D.arr IntKind.i64 n.toNat (List.replicate n.toNat (0 : Int)))) = some (Blk.fix (D.arr IntKind.i64 n.toNat (nB (2 : Nat) (0 : Nat) (vB (65536 : Nat) l) ++ List.replicate (n - (0 : Int)).toNat (0 : Int)))) ∧ True) ∧ true = true) ∧
 (0 : Int) ≤ (0 : Int) ∧ (0 : Int) ≤ n) ∧
 ∀ (x : Int),
 (0 : Int) ≤ x ∧ x ≤ n →
 true = true ∧
 True ∧
 match decide (x < (↑n.toNat : Int)) with
 | true =>
  True ∧
  True ∧
  True ∧
  True ∧
  True ∧
  True ∧
  (16 : Int) ≠ (0 : Int) ∧
  (∃ (l_1 : List Int), ∃ (i : Int), [D.ints IntKind.i64 l, D.val (Value.int IntKind.i64 (IntKind.i64.wrap (x.tdiv (16 : Int))))] = [D.ints IntKind.i64 l_1, D.val (Value.int IntKind.i64 i)] ∧ lenOk l_1) ∧
  True ∧
  (16 : Int) ≠ (0 : Int) ∧
  (0 : Int) ≤ x.tmod (16 : Int) ∧
  True ∧
  ((0 : Int) ≤ x ∧ x < (↑n.toNat : Int) ∧ (1 : Nat) = (1 : Nat)) ∧
  (((0 : Nat) + x.toNat < n.toNat ∧ ([] : List Nat) = [] ∧ true = true) ∧ (1 : Nat) ≠ (0 : Nat) ∧ (1 : Nat) = (1 : Nat) ∧ false = false) ∧
  True ∧
  True ∧
  ((AV.d (D.val (Value.int IntKind.i64 (IntKind.i64.wrap (x + (1 : Int))))) = AV.d (D.val (Value.int IntKind.i64 (IntKind.i64.wrap (x + (1 : Int))))) ∧ True) ∧
  (some (Blk.fix (D.arr IntKind.i64 n.toNat ((nB (2 : Nat) x.toNat (vB (65536 : Nat) l) ++ List.replicate (n - x).toNat (0 : Int)).set ((0 : Nat) + x.toNat) (iand IntKind.i64 (ishr IntKind.i64 (dig l (IntKind.i64.wrap (x.tdiv (16 : Int)))) (x.tmod (16 : Int))) (1 : Int))))) =
  some (Blk.fix (D.arr IntKind.i64 n.toNat (nB (2 : Nat) (IntKind.i64.wrap (x + (1 : Int))).toNat (vB (65536 : Nat) l) ++ List.replicate (n - IntKind.i64.wrap (x + (1 : Int))).toNat (0 : Int)))) ∧
  True) ∧
  true = true) ∧
  ((0 : Int) ≤ IntKind.i64.wrap (x + (1 : Int)) ∧ IntKind.i64.wrap (x + (1 : Int)) ≤ n) ∧ (n - IntKind.i64.wrap (x + (1 : Int))).toNat < (n - x).toNat
 | false => True ∧ True ∧ (false = false ∧ True) ∧ D.ints IntKind.i64 (List.take n.toNat (List.drop (0 : Nat) (nB (2 : Nat) x.toNat (vB (65536 : Nat) l) ++ List.replicate (n - x).toNat (0 : Int)))) = F) := by kernel_rfl

def lenS (l : List Int) : Prop := l.length ≤ 65536
--KEEP lenS
def sp63 : Go.Vg.Spec := ⟨fun ds => ∃ l m, ds = [dgs l, dgs m] ∧ (okd l ∧ lenS l) ∧ okd m ∧ lenS m, fun ds => dgs (dg (vB 65536 (intsOf (ds.headD default)) + vB 65536 (intsOf (ds.getD 1 default)))), false, [94, 94]⟩
def c63 : Ctx := ⟨tab, lkS [(74, sp74), (125, sp125)], [5], [41]⟩
def inv63 (l m : List Int) : Nat → Option Inv
  | 4 => some ⟨Nat, fun i => [(7, .d (i64 i)), (6, .d (i64 (((vB 65536 (l.take i) + vB 65536 (m.take i)) / 65536 ^ i : Nat) : Int))), (5, .row 5)], fun i => [(5, .row 3 (dgs (nB 65536 i (vB 65536 (l.take i) + vB 65536 (m.take i)))))], fun s => (slotN s 7).toNat,
      fun _ i => i ≤ l.length + m.length + 1, fun i => l.length + m.length + 1 - i⟩
  | _ => none
set_option maxRecDepth 100000 in
theorem vc63  (l m : List Int) (F : D)  :
    (owed c63 (inv63 l m) Try.f63 [dgs l, dgs m] F) = (
 True ∧
 (1 : Nat) ≠ (0 : Nat) ∧
 True ∧
 True ∧
 (((AV.d (D.val (Value.int IntKind.i64 (0 : Int))) = AV.d (D.val (Value.int IntKind.i64 (↑(Int.toNat (0 : Int)) : Int))) ∧ AV.d (D.val (Value.int IntKind.i64 (0 : Int))) = AV.d (D.val (Value.int IntKind.i64 (↑((vB (65536 : Nat) (List.take (Int.toNat (0 : Int)) l) + vB (65536 : Nat) (List.take (Int.toNat (0 : Int)) m)) / (1 : Nat)) : Int))) ∧ AV.row (5 : Nat) = AV.row (5 : Nat) ∧ True) ∧
 (some (Blk.row (3 : TypeId) (D.ints IntKind.i64 [])) = some (Blk.row (3 : TypeId) (D.ints IntKind.i64 (nB (65536 : Nat) (Int.toNat (0 : Int)) (vB (65536 : Nat) (List.take (Int.toNat (0 : Int)) l) + vB (65536 : Nat) (List.take (Int.toNat (0 : Int)) m))))) ∧ True) ∧ true = true) ∧
 Int.toNat (0 : Int) ≤ l.length + m.length + (1 : Nat)) ∧
 ∀ (x : Nat),
 x ≤ l.length + m.length + (1 : Nat) →
 true = true ∧
 True ∧
 True ∧
 True ∧
 True ∧
 True ∧
 match decide ((↑x : Int) < (↑l.length : Int)) with
 | true =>
  True ∧
  True ∧
  True ∧
  True ∧
  True ∧
  True ∧
  (∃ (l_1 : List Int), ∃ (i : Int), [D.ints IntKind.i64 l, D.val (Value.int IntKind.i64 (↑x : Int))] = [D.ints IntKind.i64 l_1, D.val (Value.int IntKind.i64 i)] ∧ lenOk l_1) ∧
  True ∧
  True ∧
  (∃ (l : List Int), ∃ (i : Int), [D.ints IntKind.i64 m, D.val (Value.int IntKind.i64 (↑x : Int))] = [D.ints IntKind.i64 l, D.val (Value.int IntKind.i64 i)] ∧ lenOk l) ∧
  True ∧
  True ∧
  True ∧
  True ∧
  True ∧
  (65536 : Int) ≠ (0 : Int) ∧
  ((1 : Nat) = (1 : Nat) ∧ (1 : Nat) ≤ (4096 : Nat)) ∧
  ((3 : TypeId) = (3 : TypeId) ∧
  (94 : Nat) = (94 : Nat) ∧
  true = true ∧
  (nB (65536 : Nat) x (vB (65536 : Nat) (List.take x l) + vB (65536 : Nat) (List.take x m)) ++ [(IntKind.i64.wrap ((↑((vB (65536 : Nat) (List.take x l) + vB (65536 : Nat) (List.take x m)) / (65536 : Nat) ^ x) : Int) + IntKind.i64.wrap (dig l (↑x : Int) + dig m (↑x : Int)))).tmod (65536 : Int)]).length ≤ (140737488355328 : Nat) ∧
  (nB (65536 : Nat) x (vB (65536 : Nat) (List.take x l) + vB (65536 : Nat) (List.take x m)) ++ [(IntKind.i64.wrap ((↑((vB (65536 : Nat) (List.take x l) + vB (65536 : Nat) (List.take x m)) / (65536 : Nat) ^ x) : Int) + IntKind.i64.wrap (dig l (↑x : Int) + dig m (↑x : Int)))).tmod (65536 : Int)]).length * (8 : Nat) ≤
  (140737488355328 : Nat) ∧
  (1 : Nat) ≠ (0 : Nat) ∧ (1 : Nat) = (1 : Nat)) ∧
  True ∧
  True ∧
  (65536 : Int) ≠ (0 : Int) ∧
  True ∧
  True ∧
  True ∧
  True ∧
  ((AV.d (D.val (Value.int IntKind.i64 (IntKind.i64.wrap ((↑x : Int) + (1 : Int))))) = AV.d (D.val (Value.int IntKind.i64 (↑(IntKind.i64.wrap ((↑x : Int) + (1 : Int))).toNat : Int))) ∧
  AV.d (D.val (Value.int IntKind.i64 (IntKind.i64.wrap ((IntKind.i64.wrap ((↑((vB (65536 : Nat) (List.take x l) + vB (65536 : Nat) (List.take x m)) / (65536 : Nat) ^ x) : Int) + IntKind.i64.wrap (dig l (↑x : Int) + dig m (↑x : Int)))).tdiv (65536 : Int))))) =
  AV.d (D.val (Value.int IntKind.i64 (↑((vB (65536 : Nat) (List.take (IntKind.i64.wrap ((↑x : Int) + (1 : Int))).toNat l) + vB (65536 : Nat) (List.take (IntKind.i64.wrap ((↑x : Int) + (1 : Int))).toNat m)) / (65536 : Nat) ^ (IntKind.i64.wrap ((↑x : Int) + (1 : Int))).toNat) : Int))) ∧
  AV.row (5 : Nat) = AV.row (5 : Nat) ∧ True) ∧
  (some
  (Blk.row (3 : TypeId)
  (D.ints IntKind.i64
  (nB (65536 : Nat) x (vB (65536 : Nat) (List.take x l) + vB (65536 : Nat) (List.take x m)) ++ [(IntKind.i64.wrap ((↑((vB (65536 : Nat) (List.take x l) + vB (65536 : Nat) (List.take x m)) / (65536 : Nat) ^ x) : Int) + IntKind.i64.wrap (dig l (↑x : Int) + dig m (↑x : Int)))).tmod (65536 : Int)]))) =
  some (Blk.row (3 : TypeId) (D.ints IntKind.i64 (nB (65536 : Nat) (IntKind.i64.wrap ((↑x : Int) + (1 : Int))).toNat (vB (65536 : Nat) (List.take (IntKind.i64.wrap ((↑x : Int) + (1 : Int))).toNat l) + vB (65536 : Nat) (List.take (IntKind.i64.wrap ((↑x : Int) + (1 : Int))).toNat m))))) ∧
  True) ∧
  true = true) ∧
  (IntKind.i64.wrap ((↑x : Int) + (1 : Int))).toNat ≤ l.length + m.length + (1 : Nat) ∧ l.length + m.length + (1 : Nat) - (IntKind.i64.wrap ((↑x : Int) + (1 : Int))).toNat < l.length + m.length + (1 : Nat) - x
 | false =>
  True ∧
  True ∧
  True ∧
  True ∧
  True ∧
  True ∧
  match decide ((↑x : Int) < (↑m.length : Int)) with
  | true =>
   True ∧
   True ∧
   True ∧
   True ∧
   (∃ (l_1 : List Int), ∃ (i : Int), [D.ints IntKind.i64 l, D.val (Value.int IntKind.i64 (↑x : Int))] = [D.ints IntKind.i64 l_1, D.val (Value.int IntKind.i64 i)] ∧ lenOk l_1) ∧
   True ∧
   True ∧
   (∃ (l : List Int), ∃ (i : Int), [D.ints IntKind.i64 m, D.val (Value.int IntKind.i64 (↑x : Int))] = [D.ints IntKind.i64 l, D.val (Value.int IntKind.i64 i)] ∧ lenOk l) ∧
   True ∧
   True ∧
   True ∧
   True ∧
   True ∧
   (65536 : Int) ≠ (0 : Int) ∧
   ((1 : Nat) = (1 : Nat) ∧ (1 : Nat) ≤ (4096 : Nat)) ∧
   ((3 : TypeId) = (3 : TypeId) ∧
   (94 : Nat) = (94 : Nat) ∧
   true = true ∧
   (nB (65536 : Nat) x (vB (65536 : Nat) (List.take x l) + vB (65536 : Nat) (List.take x m)) ++ [(IntKind.i64.wrap ((↑((vB (65536 : Nat) (List.take x l) + vB (65536 : Nat) (List.take x m)) / (65536 : Nat) ^ x) : Int) + IntKind.i64.wrap (dig l (↑x : Int) + dig m (↑x : Int)))).tmod (65536 : Int)]).length ≤
   (140737488355328 : Nat) ∧
   (nB (65536 : Nat) x (vB (65536 : Nat) (List.take x l) + vB (65536 : Nat) (List.take x m)) ++ [(IntKind.i64.wrap ((↑((vB (65536 : Nat) (List.take x l) + vB (65536 : Nat) (List.take x m)) / (65536 : Nat) ^ x) : Int) + IntKind.i64.wrap (dig l (↑x : Int) + dig m (↑x : Int)))).tmod (65536 : Int)]).length * (8 : Nat) ≤
   (140737488355328 : Nat) ∧
   (1 : Nat) ≠ (0 : Nat) ∧ (1 : Nat) = (1 : Nat)) ∧
   True ∧
   True ∧
   (65536 : Int) ≠ (0 : Int) ∧
   True ∧
   True ∧
   True ∧
   True ∧
   ((AV.d (D.val (Value.int IntKind.i64 (IntKind.i64.wrap ((↑x : Int) + (1 : Int))))) = AV.d (D.val (Value.int IntKind.i64 (↑(IntKind.i64.wrap ((↑x : Int) + (1 : Int))).toNat : Int))) ∧
   AV.d (D.val (Value.int IntKind.i64 (IntKind.i64.wrap ((IntKind.i64.wrap ((↑((vB (65536 : Nat) (List.take x l) + vB (65536 : Nat) (List.take x m)) / (65536 : Nat) ^ x) : Int) + IntKind.i64.wrap (dig l (↑x : Int) + dig m (↑x : Int)))).tdiv (65536 : Int))))) =
   AV.d (D.val (Value.int IntKind.i64 (↑((vB (65536 : Nat) (List.take (IntKind.i64.wrap ((↑x : Int) + (1 : Int))).toNat l) + vB (65536 : Nat) (List.take (IntKind.i64.wrap ((↑x : Int) + (1 : Int))).toNat m)) / (65536 : Nat) ^ (IntKind.i64.wrap ((↑x : Int) + (1 : Int))).toNat) : Int))) ∧
   AV.row (5 : Nat) = AV.row (5 : Nat) ∧ True) ∧
   (some
   (Blk.row (3 : TypeId)
   (D.ints IntKind.i64
   (nB (65536 : Nat) x (vB (65536 : Nat) (List.take x l) + vB (65536 : Nat) (List.take x m)) ++
   [(IntKind.i64.wrap ((↑((vB (65536 : Nat) (List.take x l) + vB (65536 : Nat) (List.take x m)) / (65536 : Nat) ^ x) : Int) + IntKind.i64.wrap (dig l (↑x : Int) + dig m (↑x : Int)))).tmod (65536 : Int)]))) =
   some (Blk.row (3 : TypeId) (D.ints IntKind.i64 (nB (65536 : Nat) (IntKind.i64.wrap ((↑x : Int) + (1 : Int))).toNat (vB (65536 : Nat) (List.take (IntKind.i64.wrap ((↑x : Int) + (1 : Int))).toNat l) + vB (65536 : Nat) (List.take (IntKind.i64.wrap ((↑x : Int) + (1 : Int))).toNat m))))) ∧
   True) ∧
   true = true) ∧
   (IntKind.i64.wrap ((↑x : Int) + (1 : Int))).toNat ≤ l.length + m.length + (1 : Nat) ∧ l.length + m.length + (1 : Nat) - (IntKind.i64.wrap ((↑x : Int) + (1 : Int))).toNat < l.length + m.length + (1 : Nat) - x
  | false =>
   True ∧
   True ∧
   True ∧
   match decide ((↑((vB (65536 : Nat) (List.take x l) + vB (65536 : Nat) (List.take x m)) / (65536 : Nat) ^ x) : Int) > (0 : Int)) with
   | true =>
    True ∧
    True ∧
    True ∧
    (∃ (l_1 : List Int), ∃ (i : Int), [D.ints IntKind.i64 l, D.val (Value.int IntKind.i64 (↑x : Int))] = [D.ints IntKind.i64 l_1, D.val (Value.int IntKind.i64 i)] ∧ lenOk l_1) ∧
    True ∧
    True ∧
    (∃ (l : List Int), ∃ (i : Int), [D.ints IntKind.i64 m, D.val (Value.int IntKind.i64 (↑x : Int))] = [D.ints IntKind.i64 l, D.val (Value.int IntKind.i64 i)] ∧ lenOk l) ∧
    True ∧
    True ∧
    True ∧
    True ∧
    True ∧
    (65536 : Int) ≠ (0 : Int) ∧
    ((1 : Nat) = (1 : Nat) ∧ (1 : Nat) ≤ (4096 : Nat)) ∧
    ((3 : TypeId) = (3 : TypeId) ∧
    (94 : Nat) = (94 : Nat) ∧
    true = true ∧
    (nB (65536 : Nat) x (vB (65536 : Nat) (List.take x l) + vB (65536 : Nat) (List.take x m)) ++ [(IntKind.i64.wrap ((↑((vB (65536 : Nat) (List.take x l) + vB (65536 : Nat) (List.take x m)) / (65536 : Nat) ^ x) : Int) + IntKind.i64.wrap (dig l (↑x : Int) + dig m (↑x : Int)))).tmod (65536 : Int)]).length ≤
    (140737488355328 : Nat) ∧
    (nB (65536 : Nat) x (vB (65536 : Nat) (List.take x l) + vB (65536 : Nat) (List.take x m)) ++ [(IntKind.i64.wrap ((↑((vB (65536 : Nat) (List.take x l) + vB (65536 : Nat) (List.take x m)) / (65536 : Nat) ^ x) : Int) + IntKind.i64.wrap (dig l (↑x : Int) + dig m (↑x : Int)))).tmod (65536 : Int)]).length *
    (8 : Nat) ≤
    (140737488355328 : Nat) ∧
    (1 : Nat) ≠ (0 : Nat) ∧ (1 : Nat) = (1 : Nat)) ∧
    True ∧
    True ∧
    (65536 : Int) ≠ (0 : Int) ∧
    True ∧
    True ∧
    True ∧
    True ∧
    ((AV.d (D.val (Value.int IntKind.i64 (IntKind.i64.wrap ((↑x : Int) + (1 : Int))))) = AV.d (D.val (Value.int IntKind.i64 (↑(IntKind.i64.wrap ((↑x : Int) + (1 : Int))).toNat : Int))) ∧
    AV.d (D.val (Value.int IntKind.i64 (IntKind.i64.wrap ((IntKind.i64.wrap ((↑((vB (65536 : Nat) (List.take x l) + vB (65536 : Nat) (List.take x m)) / (65536 : Nat) ^ x) : Int) + IntKind.i64.wrap (dig l (↑x : Int) + dig m (↑x : Int)))).tdiv (65536 : Int))))) =
    AV.d (D.val (Value.int IntKind.i64 (↑((vB (65536 : Nat) (List.take (IntKind.i64.wrap ((↑x : Int) + (1 : Int))).toNat l) + vB (65536 : Nat) (List.take (IntKind.i64.wrap ((↑x : Int) + (1 : Int))).toNat m)) / (65536 : Nat) ^ (IntKind.i64.wrap ((↑x : Int) + (1 : Int))).toNat) : Int))) ∧
    AV.row (5 : Nat) = AV.row (5 : Nat) ∧ True) ∧
    (some
    (Blk.row (3 : TypeId)
    (D.ints IntKind.i64
    (nB (65536 : Nat) x (vB (65536 : Nat) (List.take x l) + vB (65536 : Nat) (List.take x m)) ++
    [(IntKind.i64.wrap ((↑((vB (65536 : Nat) (List.take x l) + vB (65536 : Nat) (List.take x m)) / (65536 : Nat) ^ x) : Int) + IntKind.i64.wrap (dig l (↑x : Int) + dig m (↑x : Int)))).tmod (65536 : Int)]))) =
    some (Blk.row (3 : TypeId) (D.ints IntKind.i64 (nB (65536 : Nat) (IntKind.i64.wrap ((↑x : Int) + (1 : Int))).toNat (vB (65536 : Nat) (List.take (IntKind.i64.wrap ((↑x : Int) + (1 : Int))).toNat l) + vB (65536 : Nat) (List.take (IntKind.i64.wrap ((↑x : Int) + (1 : Int))).toNat m))))) ∧
    True) ∧
    true = true) ∧
    (IntKind.i64.wrap ((↑x : Int) + (1 : Int))).toNat ≤ l.length + m.length + (1 : Nat) ∧ l.length + m.length + (1 : Nat) - (IntKind.i64.wrap ((↑x : Int) + (1 : Int))).toNat < l.length + m.length + (1 : Nat) - x
   | false => True ∧ (∃ (l_1 : List Int), [D.ints IntKind.i64 (nB (65536 : Nat) x (vB (65536 : Nat) (List.take x l) + vB (65536 : Nat) (List.take x m)))] = [D.ints IntKind.i64 l_1] ∧ lenOk l_1) ∧ True ∧ (false = false ∧ True) ∧ D.ints IntKind.i64 (trimL (nB (65536 : Nat) x (vB (65536 : Nat) (List.take x l) + vB (65536 : Nat) (List.take x m)))) = F) := by kernel_rfl

noncomputable def dgP (n : Nat) : List Int := opq (dg (2 ^ n))
noncomputable def sp66 : Go.Vg.Spec := ⟨fun ds => ∃ n, ds = [i64 n] ∧ 0 ≤ n ∧ n ≤ 1048576, fun ds => dgs (dgP (numOf (ds.headD default)).toNat), false, [3]⟩
def sp64 : Go.Vg.Spec := ⟨fun ds => ∃ l m, ds = [dgs l, dgs m] ∧ (okd l ∧ lenS l) ∧ okd m ∧ lenS m, fun ds => dgs (dg (vB 65536 (intsOf (ds.headD default)) * vB 65536 (intsOf (ds.getD 1 default)))), false, [94, 94]⟩
def c64 : Ctx := ⟨tab, lkS [(125, sp125)], [], [65]⟩
structure TimesI (l m : List Int) (i : Nat) (out : List Int) : Prop where
  len : out.length = l.length + m.length
  ok : okd out
  zero : ∀ j, i + m.length ≤ j → out.getD j 0 = 0
  val : vB 65536 out = vB 65536 (l.take i) * vB 65536 m
structure TimesJ (l m : List Int) (i k : Nat) (carry : Int) (out : List Int) : Prop where
  len : out.length = l.length + m.length
  ok : okd out
  zero : ∀ j, i + m.length ≤ j → out.getD j 0 = 0
  car : 0 ≤ carry ∧ carry < 65536
  val : vB 65536 out + 65536 ^ (i + k) * carry.toNat = vB 65536 (l.take i) * vB 65536 m + 65536 ^ i * ((l.getD i 0).toNat * vB 65536 (m.take k))
--KEEP TimesI TimesJ
def inv64 (l m : List Int) : Nat → Option Inv
  | 3 => some ⟨Nat × List Int, fun x => [(17, .d (i64 x.1))], fun x => [(14, .fix (.arr .i64 (l.length + m.length) x.2))], fun s => ((slotN s 17).toNat, rowD s 14), fun _ x => x.1 ≤ l.length ∧ TimesI l m x.1 x.2, fun x => l.length - x.1⟩
  | 7 => some ⟨Nat × Int × List Int, fun x => [(22, .d (i64 x.1)), (7, .d (i64 x.2.1))], fun x => [(14, .fix (.arr .i64 (l.length + m.length) x.2.2))], fun s => ((slotN s 22).toNat, slotN s 7, rowD s 14), fun s x => x.1 ≤ m.length ∧ TimesJ l m (slotN s 17).toNat x.1 x.2.1 x.2.2, fun x => m.length - x.1⟩
  | _ => none
set_option maxRecDepth 100000 in
theorem vc64  (l m : List Int) (F : D)  :
    (owed c64 (inv64 l m) Try.f64 [dgs l, dgs m] F) = (
 True ∧
 True ∧
 True ∧
 True ∧
 True ∧
 True ∧
 ((0 : Int) ≤ IntKind.i64.wrap ((↑l.length : Int) + (↑m.length : Int)) ∧
 IntKind.i64.wrap ((↑l.length : Int) + (↑m.length : Int)) = IntKind.i64.wrap ((↑l.length : Int) + (↑m.length : Int)) ∧ IntKind.i64.wrap ((↑l.length : Int) + (↑m.length : Int)) ≤ (281474976710656 : Int) ∧ (↑(8 : Nat) : Int) * IntKind.i64.wrap ((↑l.length : Int) + (↑m.length : Int)) ≤ (281474976710656 : Int) ∧ (1 : Nat) = (1 : Nat)) ∧
 True ∧
 True ∧
 True ∧
 True ∧
 (((AV.d (D.val (Value.int IntKind.i64 (0 : Int))) = AV.d (D.val (Value.int IntKind.i64 (↑(0 : Nat) : Int))) ∧ True) ∧
 (some (Blk.fix (D.arr IntKind.i64 (IntKind.i64.wrap ((↑l.length : Int) + (↑m.length : Int))).toNat (List.replicate (IntKind.i64.wrap ((↑l.length : Int) + (↑m.length : Int))).toNat (0 : Int)))) = some (Blk.fix (D.arr IntKind.i64 (l.length + m.length) (List.replicate (IntKind.i64.wrap ((↑l.length : Int) + (↑m.length : Int))).toNat (0 : Int)))) ∧ True) ∧ true = true) ∧
 (0 : Nat) ≤ l.length ∧ TimesI l m (0 : Nat) (List.replicate (IntKind.i64.wrap ((↑l.length : Int) + (↑m.length : Int))).toNat (0 : Int))) ∧
 ∀ (x : Nat × List Int),
 x.fst ≤ l.length ∧ TimesI l m x.fst x.snd →
 true = true ∧
 True ∧
 match decide ((↑x.fst : Int) < (↑l.length : Int)) with
 | true =>
  True ∧
  True ∧
  True ∧
  True ∧
  True ∧
  True ∧
  (((AV.d (D.val (Value.int IntKind.i64 (0 : Int))) = AV.d (D.val (Value.int IntKind.i64 (↑(0 : Nat) : Int))) ∧ AV.d (D.val (Value.int IntKind.i64 (0 : Int))) = AV.d (D.val (Value.int IntKind.i64 (0 : Int))) ∧ True) ∧
  (some (Blk.fix (D.arr IntKind.i64 (l.length + m.length) x.snd)) = some (Blk.fix (D.arr IntKind.i64 (l.length + m.length) x.snd)) ∧ True) ∧ true = true) ∧
  (0 : Nat) ≤ m.length ∧ TimesJ l m (↑x.fst : Int).toNat (0 : Nat) (0 : Int) x.snd) ∧
  ∀ (x_1 : Nat × Int × List Int),
  x_1.fst ≤ m.length ∧ TimesJ l m (↑x.fst : Int).toNat x_1.fst x_1.snd.fst x_1.snd.snd →
  true = true ∧
  True ∧
  match decide ((↑x_1.fst : Int) < (↑m.length : Int)) with
  | true =>
   True ∧
   True ∧
   True ∧
   True ∧
   True ∧
   True ∧
   True ∧
   ((0 : Int) ≤ IntKind.i64.wrap ((↑x.fst : Int) + (↑x_1.fst : Int)) ∧ IntKind.i64.wrap ((↑x.fst : Int) + (↑x_1.fst : Int)) < (↑(IntKind.i64.wrap ((↑l.length : Int) + (↑m.length : Int))).toNat : Int) ∧ (1 : Nat) = (1 : Nat)) ∧
   ((1 : Nat) ≠ (0 : Nat) ∧ (1 : Nat) = (1 : Nat) ∧ false = false) ∧
   True ∧
   True ∧
   ((0 : Int) ≤ (↑x.fst : Int) ∧ (↑x.fst : Int) < (↑l.length : Int) ∧ (1 : Nat) = (1 : Nat)) ∧
   ((1 : Nat) ≠ (0 : Nat) ∧ (1 : Nat) = (1 : Nat) ∧ false = false) ∧
   True ∧
   True ∧
   ((0 : Int) ≤ (↑x_1.fst : Int) ∧ (↑x_1.fst : Int) < (↑m.length : Int) ∧ (1 : Nat) = (1 : Nat)) ∧
   ((1 : Nat) ≠ (0 : Nat) ∧ (1 : Nat) = (1 : Nat) ∧ false = false) ∧
   True ∧
   True ∧
   True ∧
   True ∧
   True ∧
   True ∧
   True ∧
   True ∧
   True ∧
   (65536 : Int) ≠ (0 : Int) ∧
   ((0 : Int) ≤ IntKind.i64.wrap ((↑x.fst : Int) + (↑x_1.fst : Int)) ∧ IntKind.i64.wrap ((↑x.fst : Int) + (↑x_1.fst : Int)) < (↑(IntKind.i64.wrap ((↑l.length : Int) + (↑m.length : Int))).toNat : Int) ∧ (1 : Nat) = (1 : Nat)) ∧
   (((0 : Nat) + (IntKind.i64.wrap ((↑x.fst : Int) + (↑x_1.fst : Int))).toNat < l.length + m.length ∧ ([] : List Nat) = [] ∧ true = true) ∧ (1 : Nat) ≠ (0 : Nat) ∧ (1 : Nat) = (1 : Nat) ∧ false = false) ∧
   True ∧
   (65536 : Int) ≠ (0 : Int) ∧
   True ∧
   True ∧
   True ∧
   ((AV.d (D.val (Value.int IntKind.i64 (IntKind.i64.wrap ((↑x_1.fst : Int) + (1 : Int))))) = AV.d (D.val (Value.int IntKind.i64 (↑(IntKind.i64.wrap ((↑x_1.fst : Int) + (1 : Int))).toNat : Int))) ∧
   AV.d
   (D.val
   (Value.int IntKind.i64
   (IntKind.i64.wrap
   ((IntKind.i64.wrap
   (x_1.snd.fst + IntKind.i64.wrap (x_1.snd.snd.getD ((0 : Nat) + (IntKind.i64.wrap ((↑x.fst : Int) + (↑x_1.fst : Int))).toNat) (0 : Int) + IntKind.i64.wrap (l.getD (↑x.fst : Int).toNat (0 : Int) * m.getD (↑x_1.fst : Int).toNat (0 : Int))))).tdiv
   (65536 : Int))))) =
   AV.d
   (D.val
   (Value.int IntKind.i64
   (IntKind.i64.wrap
   ((IntKind.i64.wrap
   (x_1.snd.fst + IntKind.i64.wrap (x_1.snd.snd.getD ((0 : Nat) + (IntKind.i64.wrap ((↑x.fst : Int) + (↑x_1.fst : Int))).toNat) (0 : Int) + IntKind.i64.wrap (l.getD (↑x.fst : Int).toNat (0 : Int) * m.getD (↑x_1.fst : Int).toNat (0 : Int))))).tdiv
   (65536 : Int))))) ∧
   True) ∧
   (some
   (Blk.fix
   (D.arr IntKind.i64 (l.length + m.length)
   (x_1.snd.snd.set ((0 : Nat) + (IntKind.i64.wrap ((↑x.fst : Int) + (↑x_1.fst : Int))).toNat)
   ((IntKind.i64.wrap
   (x_1.snd.fst + IntKind.i64.wrap (x_1.snd.snd.getD ((0 : Nat) + (IntKind.i64.wrap ((↑x.fst : Int) + (↑x_1.fst : Int))).toNat) (0 : Int) + IntKind.i64.wrap (l.getD (↑x.fst : Int).toNat (0 : Int) * m.getD (↑x_1.fst : Int).toNat (0 : Int))))).tmod
   (65536 : Int))))) =
   some
   (Blk.fix
   (D.arr IntKind.i64 (l.length + m.length)
   (x_1.snd.snd.set ((0 : Nat) + (IntKind.i64.wrap ((↑x.fst : Int) + (↑x_1.fst : Int))).toNat)
   ((IntKind.i64.wrap
   (x_1.snd.fst + IntKind.i64.wrap (x_1.snd.snd.getD ((0 : Nat) + (IntKind.i64.wrap ((↑x.fst : Int) + (↑x_1.fst : Int))).toNat) (0 : Int) + IntKind.i64.wrap (l.getD (↑x.fst : Int).toNat (0 : Int) * m.getD (↑x_1.fst : Int).toNat (0 : Int))))).tmod
   (65536 : Int))))) ∧
   True) ∧
   true = true) ∧
   ((IntKind.i64.wrap ((↑x_1.fst : Int) + (1 : Int))).toNat ≤ m.length ∧
   TimesJ l m (↑x.fst : Int).toNat (IntKind.i64.wrap ((↑x_1.fst : Int) + (1 : Int))).toNat
   (IntKind.i64.wrap
   ((IntKind.i64.wrap (x_1.snd.fst + IntKind.i64.wrap (x_1.snd.snd.getD ((0 : Nat) + (IntKind.i64.wrap ((↑x.fst : Int) + (↑x_1.fst : Int))).toNat) (0 : Int) + IntKind.i64.wrap (l.getD (↑x.fst : Int).toNat (0 : Int) * m.getD (↑x_1.fst : Int).toNat (0 : Int))))).tdiv
   (65536 : Int)))
   (x_1.snd.snd.set ((0 : Nat) + (IntKind.i64.wrap ((↑x.fst : Int) + (↑x_1.fst : Int))).toNat)
   ((IntKind.i64.wrap (x_1.snd.fst + IntKind.i64.wrap (x_1.snd.snd.getD ((0 : Nat) + (IntKind.i64.wrap ((↑x.fst : Int) + (↑x_1.fst : Int))).toNat) (0 : Int) + IntKind.i64.wrap (l.getD (↑x.fst : Int).toNat (0 : Int) * m.getD (↑x_1.fst : Int).toNat (0 : Int))))).tmod
   (65536 : Int)))) ∧
   m.length - (IntKind.i64.wrap ((↑x_1.fst : Int) + (1 : Int))).toNat < m.length - x_1.fst
  | false =>
   True ∧
   True ∧
   True ∧
   True ∧
   True ∧
   ((0 : Int) ≤ IntKind.i64.wrap ((↑x.fst : Int) + (↑m.length : Int)) ∧ IntKind.i64.wrap ((↑x.fst : Int) + (↑m.length : Int)) < (↑(IntKind.i64.wrap ((↑l.length : Int) + (↑m.length : Int))).toNat : Int) ∧ (1 : Nat) = (1 : Nat)) ∧
   ((1 : Nat) ≠ (0 : Nat) ∧ (1 : Nat) = (1 : Nat) ∧ false = false) ∧
   True ∧
   True ∧
   ((0 : Int) ≤ IntKind.i64.wrap ((↑x.fst : Int) + (↑m.length : Int)) ∧ IntKind.i64.wrap ((↑x.fst : Int) + (↑m.length : Int)) < (↑(IntKind.i64.wrap ((↑l.length : Int) + (↑m.length : Int))).toNat : Int) ∧ (1 : Nat) = (1 : Nat)) ∧
   (((0 : Nat) + (IntKind.i64.wrap ((↑x.fst : Int) + (↑m.length : Int))).toNat < l.length + m.length ∧ ([] : List Nat) = [] ∧ true = true) ∧ (1 : Nat) ≠ (0 : Nat) ∧ (1 : Nat) = (1 : Nat) ∧ false = false) ∧
   True ∧
   True ∧
   ((AV.d (D.val (Value.int IntKind.i64 (IntKind.i64.wrap ((↑x.fst : Int) + (1 : Int))))) = AV.d (D.val (Value.int IntKind.i64 (↑(IntKind.i64.wrap ((↑x.fst : Int) + (1 : Int))).toNat : Int))) ∧ True) ∧
   (some (Blk.fix (D.arr IntKind.i64 (l.length + m.length) (x_1.snd.snd.set ((0 : Nat) + (IntKind.i64.wrap ((↑x.fst : Int) + (↑m.length : Int))).toNat) (IntKind.i64.wrap (x_1.snd.snd.getD ((0 : Nat) + (IntKind.i64.wrap ((↑x.fst : Int) + (↑m.length : Int))).toNat) (0 : Int) + x_1.snd.fst))))) =
   some (Blk.fix (D.arr IntKind.i64 (l.length + m.length) (x_1.snd.snd.set ((0 : Nat) + (IntKind.i64.wrap ((↑x.fst : Int) + (↑m.length : Int))).toNat) (IntKind.i64.wrap (x_1.snd.snd.getD ((0 : Nat) + (IntKind.i64.wrap ((↑x.fst : Int) + (↑m.length : Int))).toNat) (0 : Int) + x_1.snd.fst))))) ∧
   True) ∧
   true = true) ∧
   ((IntKind.i64.wrap ((↑x.fst : Int) + (1 : Int))).toNat ≤ l.length ∧
   TimesI l m (IntKind.i64.wrap ((↑x.fst : Int) + (1 : Int))).toNat (x_1.snd.snd.set ((0 : Nat) + (IntKind.i64.wrap ((↑x.fst : Int) + (↑m.length : Int))).toNat) (IntKind.i64.wrap (x_1.snd.snd.getD ((0 : Nat) + (IntKind.i64.wrap ((↑x.fst : Int) + (↑m.length : Int))).toNat) (0 : Int) + x_1.snd.fst)))) ∧
   l.length - (IntKind.i64.wrap ((↑x.fst : Int) + (1 : Int))).toNat < l.length - x.fst
 | false =>
  True ∧ (∃ (l_1 : List Int), [D.ints IntKind.i64 (List.take (IntKind.i64.wrap ((↑l.length : Int) + (↑m.length : Int))).toNat (List.drop (0 : Nat) x.snd))] = [D.ints IntKind.i64 l_1] ∧ lenOk l_1) ∧ True ∧ (false = false ∧ True) ∧ D.ints IntKind.i64 (trimL (List.take (IntKind.i64.wrap ((↑l.length : Int) + (↑m.length : Int))).toNat (List.drop (0 : Nat) x.snd))) = F) := by kernel_rfl

set_option maxRecDepth 100000 in
theorem vc66  (n : Int) (F : D)  :
    (owed c74 (fun _ => none) Try.f66 [i64 n] F) = (
 True ∧
 True ∧
 (16 : Int) ≠ (0 : Int) ∧
 True ∧
 ((0 : Int) ≤ IntKind.i64.wrap (IntKind.i64.wrap (n.tdiv (16 : Int)) + (1 : Int)) ∧
 IntKind.i64.wrap (IntKind.i64.wrap (n.tdiv (16 : Int)) + (1 : Int)) = IntKind.i64.wrap (IntKind.i64.wrap (n.tdiv (16 : Int)) + (1 : Int)) ∧ IntKind.i64.wrap (IntKind.i64.wrap (n.tdiv (16 : Int)) + (1 : Int)) ≤ (281474976710656 : Int) ∧ (↑(8 : Nat) : Int) * IntKind.i64.wrap (IntKind.i64.wrap (n.tdiv (16 : Int)) + (1 : Int)) ≤ (281474976710656 : Int) ∧ (1 : Nat) = (1 : Nat)) ∧
 True ∧
 True ∧
 True ∧
 (16 : Int) ≠ (0 : Int) ∧
 True ∧
 (16 : Int) ≠ (0 : Int) ∧
 (0 : Int) ≤ n.tmod (16 : Int) ∧
 ((0 : Int) ≤ IntKind.i64.wrap (n.tdiv (16 : Int)) ∧ IntKind.i64.wrap (n.tdiv (16 : Int)) < (↑(IntKind.i64.wrap (IntKind.i64.wrap (n.tdiv (16 : Int)) + (1 : Int))).toNat : Int) ∧ (1 : Nat) = (1 : Nat)) ∧
 (((0 : Nat) + (IntKind.i64.wrap (n.tdiv (16 : Int))).toNat < (IntKind.i64.wrap (IntKind.i64.wrap (n.tdiv (16 : Int)) + (1 : Int))).toNat ∧ ([] : List Nat) = [] ∧ true = true) ∧ (1 : Nat) ≠ (0 : Nat) ∧ (1 : Nat) = (1 : Nat) ∧ false = false) ∧
 True ∧
 True ∧
 (false = false ∧ True) ∧
 D.ints IntKind.i64 (List.take (IntKind.i64.wrap (IntKind.i64.wrap (n.tdiv (16 : Int)) + (1 : Int))).toNat (List.drop (0 : Nat) ((List.replicate (IntKind.i64.wrap (IntKind.i64.wrap (n.tdiv (16 : Int)) + (1 : Int))).toNat (0 : Int)).set ((0 : Nat) + (IntKind.i64.wrap (n.tdiv (16 : Int))).toNat) (ishl IntKind.i64 (1 : Int) (n.tmod (16 : Int)))))) = F) := by kernel_rfl


theorem iand_nat {a b : Nat} (ha : a < 9223372036854775808) (hb : b < 9223372036854775808) : iand .i64 (a : Int) (b : Int) = ((a &&& b : Nat) : Int) := by
  unfold iand
  have h1 : (BitVec.ofInt IntKind.i64.bits (a : Int) &&& BitVec.ofInt IntKind.i64.bits (b : Int)).toNat = a &&& b := by
    rw [BitVec.toNat_and, BitVec.ofInt_natCast, BitVec.ofInt_natCast, BitVec.toNat_ofNat, BitVec.toNat_ofNat]
    show a % 2 ^ 64 &&& b % 2 ^ 64 = a &&& b
    rw [Nat.mod_eq_of_lt (by omega), Nat.mod_eq_of_lt (by omega)]
  rw [h1]
  have := Nat.and_le_left (n := a) (m := b)
  exact wi (by omega) (by omega)

theorem wu {n : Int} (h : 0 ≤ n) (h2 : n < 18446744073709551616) : IntKind.u64.wrap n = n := by rw [w64]; omega

set_option maxRecDepth 100000 in
theorem m74 : Meets Try.prog 74 sp74 := by
  refine meets_of_owed (C := c74) ⟨tab_ok, fun f s h => by cases h⟩ (by kernel_rfl) (by kernel_rfl : Try.prog.funcs[74]? = some Try.f74) (by kernel_rfl) (by kernel_rfl) (by kernel_rfl) _ ?_
  rintro _ ⟨l, i, rfl, hl⟩
  refine ⟨fun _ => rfl, fun _ => none, ?_⟩
  show owed c74 (fun _ => none) Try.f74 [dgs l, i64 i] (i64 (dig l i))
  rw [vc74]
  simp (decide := true) only [eq_self, true_and, and_true, ne_eq, not_false_eq_true]
  unfold dig
  split
  · rename_i h
    have h := of_decide_eq_true h
    rw [if_neg (by omega)]
  · rename_i h
    have h := of_decide_eq_false h
    split
    · rename_i h1
      have h1 := of_decide_eq_true h1
      rw [if_neg (by omega)]
    · rename_i h1
      have h1 := of_decide_eq_false h1
      rw [if_pos (by omega)]
      and_intros <;> first | omega | trivial | rfl

set_option maxRecDepth 100000 in
theorem m125 : Meets Try.prog 125 sp125 := by
  refine meets_of_owed (C := c74) ⟨tab_ok, fun f s h => by cases h⟩ (by kernel_rfl) (by kernel_rfl : Try.prog.funcs[125]? = some Try.f125) (by kernel_rfl) (by kernel_rfl) (by kernel_rfl) _ ?_
  rintro _ ⟨l, rfl, hl⟩
  refine ⟨fun h => (by cases h), inv125, ?_⟩
  show owed c74 inv125 Try.f125 [dgs l] (dgs (trimL l))
  rw [vc125]
  simp (decide := true) only [eq_self, true_and, and_true, ne_eq, not_false_eq_true, List.drop_zero]
  refine ⟨hl, fun x hx => ?_⟩
  have hx2 := hx.2
  unfold lenOk at hx2
  split
  · rename_i h
    have h := of_decide_eq_true h
    have hne : x ≠ [] := fun e => by subst e; simp at h
    obtain ⟨m, z, rfl⟩ : ∃ m z, x = m ++ [z] := ⟨x.dropLast, x.getLast hne, (List.dropLast_concat_getLast hne).symm⟩
    rw [List.length_append, List.length_singleton] at h hx2 ⊢
    have e1 : ((m.length + 1 : Nat) : Int) - 1 = m.length := by omega
    rw [e1, wi (by omega) (by omega)]
    have e2 : (m ++ [z]).getD (m.length : Int).toNat 0 = z := by
      rw [Int.toNat_natCast]
      simp [List.getD_eq_getElem?_getD]
    have e3 : (m ++ [z]).take (m.length : Int).toNat = m := by
      rw [Int.toNat_natCast]
      simp
    rw [e2, e3]
    have hm : lenOk m := by unfold lenOk; omega
    refine ⟨by omega, ?_⟩
    split
    · rename_i hz
      have hz : z = 0 := by simpa using hz
      subst hz
      have ht := hx.1
      rw [trim_last] at ht
      and_intros <;> first | omega | exact ht | exact hm | trivial
    · rename_i hz
      have hz : z ≠ 0 := by simpa using hz
      rw [← hx.1, trim_keep m hz]
  · rename_i h
    have h := of_decide_eq_false h
    have : x = [] := List.length_eq_zero_iff.1 (by omega)
    subst this
    rw [← hx.1]
    rfl


theorem take_push {l : List Int} {n : Nat} (h : n < l.length) : l.take (n + 1) = l.take n ++ [l.getD n 0] := by
  rw [List.take_add_one]
  simp [List.getD_eq_getElem?_getD, h]

theorem getD_memN {l : List Int} {n : Nat} (h : n < l.length) : l.getD n 0 ∈ l := by
  simp [List.getD_eq_getElem?_getD, h]

theorem outW_push {l : List Int} {n : Nat} (h : n < l.length) : outW (l.take (n + 1)) = outW (l.take n) ++ nB 65536 4 (l.getD n 0).toNat := by
  rw [take_push h]
  simp [outW]

set_option maxRecDepth 100000 in
theorem m83 : Meets Try.prog 83 sp83 := by
  refine meets_of_owed (C := c83) ⟨tab_ok, lkS_ok ⟨m125, trivial⟩⟩ (by kernel_rfl) (by kernel_rfl : Try.prog.funcs[83]? = some Try.f83) (by kernel_rfl) (by kernel_rfl) (by kernel_rfl) _ ?_
  rintro _ ⟨l, rfl, hw, hl⟩
  refine ⟨fun h => (by cases h), inv83 l, ?_⟩
  show owed c83 (inv83 l) Try.f83 [.ints .u64 l] (dgs (dg (vB 18446744073709551616 l)))
  rw [vc83]
  simp (decide := true) only [eq_self, true_and, and_true, ne_eq, not_false_eq_true]
  and_intros <;> try (first | omega | rfl | trivial)
  intro x hx
  obtain ⟨n, rfl⟩ := Int.eq_ofNat_of_zero_le hx.1
  rw [Int.toNat_natCast]
  split
  · rename_i h
    have h := of_decide_eq_true h
    have hn : n < l.length := by omega
    have hz := hw _ (getD_memN hn)
    generalize hzz : l.getD n 0 = z at hz
    rw [show ((n : Int) + 1) = ((n + 1 : Nat) : Int) by omega, wi (n := ((n + 1 : Nat) : Int)) (by omega) (by omega), Int.toNat_natCast, outW_push hn, hzz]
    have ho := outW_len (l.take n)
    have ho2 : (l.take n).length ≤ 100 := by rw [List.length_take]; omega
    and_intros <;> try (first | omega | rfl | trivial | (simp [nB]; done) | (simp [nB]; omega))
    rintro ⟨k, w, out⟩ ⟨hk, hw1, ho1⟩
    simp only at hk hw1 ho1 ⊢
    obtain ⟨k, rfl⟩ := Int.eq_ofNat_of_zero_le hk.1
    rw [Int.toNat_natCast] at hw1 ho1
    subst hw1 ho1
    split
    · rename_i h2
      have h2 := of_decide_eq_true h2
      have hlt : z.toNat / 65536 ^ k ≤ z.toNat := Nat.div_le_self _ _
      rw [show ((k : Int) + 1) = ((k + 1 : Nat) : Int) by omega, wi (n := ((k + 1 : Nat) : Int)) (by omega) (by omega), Int.toNat_natCast, nB_push, ← List.append_assoc, Nat.pow_succ, ← Nat.div_div_eq_div_mul]
      generalize z.toNat / 65536 ^ k = q at hlt ⊢
      rw [show (65536 : Int) = (65536 : Nat) from rfl, tmodN, tdivN, wi (by omega) (by omega), wu (by omega) (by omega)]
      simp only [List.length_append, nB_length, List.length_singleton]
      and_intros <;> first | omega | rfl | trivial
    · rename_i h2
      have h2 := of_decide_eq_false h2
      obtain rfl : k = 4 := by omega
      and_intros <;> first | omega | rfl | trivial
  · rename_i h
    have h := of_decide_eq_false h
    rw [List.take_of_length_le (by omega)]
    refine ⟨⟨outW l, rfl, ?_⟩, ?_⟩
    · unfold lenOk
      rw [outW_len]
      omega
    · rw [trim_eq (outW_ok l), outW_val hw]

set_option maxRecDepth 100000 in
theorem m126 : Meets Try.prog 126 sp126 := by
  refine meets_of_owed (C := c74) ⟨tab_ok, fun f s h => by cases h⟩ (by kernel_rfl) (by kernel_rfl : Try.prog.funcs[126]? = some Try.f126) (by kernel_rfl) (by kernel_rfl) (by kernel_rfl) _ ?_
  rintro _ ⟨l, n, rfl, hd, hl, hn0, hn⟩
  refine ⟨fun h => (by cases h), inv126 l n, ?_⟩
  show owed c74 (inv126 l n) Try.f126 [dgs l, i64 n] (.ints .u64 (nB 18446744073709551616 n.toNat (vB 65536 l)))
  rw [vc126]
  unfold lenOk at hl
  obtain ⟨n, rfl⟩ := Int.eq_ofNat_of_zero_le hn0
  simp (decide := true) only [eq_self, true_and, and_true, ne_eq, not_false_eq_true, Int.toNat_natCast]
  rw [wi (n := (l.length : Int) - 1) (by omega) (by omega), show ((l.length : Int) - 1 + 1).toNat = l.length by omega, wl_end n l _ (Nat.le_refl _)]
  and_intros <;> try (first | omega | rfl | trivial)
  intro x hx
  have hx1 := hx.1
  rw [wi (n := 4 * (n : Int)) (by omega) (by omega), wi (n := x - 1) (by omega) (by omega), show x - 1 + 1 = x by omega]
  split
  · rename_i h
    have h := of_decide_eq_true h
    obtain ⟨i, rfl⟩ := Int.eq_ofNat_of_zero_le h
    rw [show ((i : Int) + 1) = ((i + 1 : Nat) : Int) by omega]
    simp only [Int.toNat_natCast]
    have hi : i < l.length := by omega
    split
    · rename_i h2
      have h2 := of_decide_eq_true h2
      rw [show (4 : Int) = (4 : Nat) from rfl, tdivN, wi (n := ((i / 4 : Nat) : Int)) (by omega) (by omega)]
      simp only [Int.toNat_natCast, Nat.zero_add]
      have hd1 := hd _ (getD_memN hi)
      have w1 := wl_lt (n := n) hd (i + 1) (i / 4) (by omega) (by omega)
      have w2 := wl_nonneg n l (i + 1) (i / 4)
      rw [wu (n := l.getD i 0) (by omega) (by omega), wu (n := _ * _) (by omega) (by omega), wu (by omega) (by omega), ← wl_step n l i hi (by omega) hd1.1]
      and_intros <;> first | omega | trivial | rfl
    · rename_i h2
      have h2 := of_decide_eq_false h2
      rw [← wl_past n l i (by omega)]
      and_intros <;> first | omega | trivial | rfl
  · rename_i h
    have h := of_decide_eq_false h
    rw [show (x + 1).toNat = 0 by omega, List.drop_zero, List.take_of_length_le (by rw [wl_length]; omega), wl_zero hd]


set_option maxRecDepth 100000 in
theorem m72 : Meets Try.prog 72 sp72 := by
  refine meets_of_owed (C := c72) ⟨tab_ok, lkS_ok ⟨m83, trivial⟩⟩ (by kernel_rfl) (by kernel_rfl : Try.prog.funcs[72]? = some Try.f72) (by kernel_rfl) (by kernel_rfl) (by kernel_rfl) _ ?_
  rintro _ ⟨l, rfl, hw, hl⟩
  refine ⟨fun h => (by cases h), fun _ => none, ?_⟩
  show owed c72 (fun _ => none) Try.f72 [num4 l] (dgs (dg (vB 18446744073709551616 l)))
  rw [vc72]
  match l, hl with
  | [a, b, c, d], _ =>
    simp (decide := true) only [eq_self, true_and, and_true, ne_eq, not_false_eq_true, List.getD_cons_zero, List.getD_cons_succ]
    exact ⟨_, rfl, hw, by simp⟩

set_option maxRecDepth 100000 in
theorem m67 : Meets Try.prog 67 sp67 := by
  refine meets_of_owed (C := c67) ⟨tab_ok, lkS_ok ⟨m126, trivial⟩⟩ (by kernel_rfl) (by kernel_rfl : Try.prog.funcs[67]? = some Try.f67) (by kernel_rfl) (by kernel_rfl) (by kernel_rfl) _ ?_
  rintro _ ⟨l, rfl, hd, hl⟩
  refine ⟨fun _ => rfl, fun _ => none, ?_⟩
  show owed c67 (fun _ => none) Try.f67 [dgs l] (num4 (nB 18446744073709551616 4 (vB 65536 l)))
  rw [vc67]
  simp (decide := true) only [eq_self, true_and, and_true, ne_eq, not_false_eq_true, nB_length]
  exact ⟨⟨l, 4, rfl, hd, hl, by omega, by omega⟩, rfl⟩

theorem plus_digit {l : List Int} (h : okd l) (x : Nat) : ∃ d : Nat, d < 65536 ∧ dig l (x : Int) = (d : Int) ∧ vB 65536 (l.take (x + 1)) = vB 65536 (l.take x) + 65536 ^ x * d := by
  refine ⟨vB 65536 l / 65536 ^ x % 65536, Nat.mod_lt _ (by decide), dig_nat h x, ?_⟩
  rw [vB_take h, vB_take h, Nat.pow_succ, Nat.mod_mul]

theorem plus_step {l m : List Int} (hl : okd l) (hm : okd m) (x : Nat) : ∃ d e : Nat, d < 65536 ∧ e < 65536 ∧ dig l (x : Int) = (d : Int) ∧ dig m (x : Int) = (e : Int) ∧ (vB 65536 (l.take x) + vB 65536 (m.take x)) / 65536 ^ x ≤ 1 ∧
    nB 65536 (x + 1) (vB 65536 (l.take (x + 1)) + vB 65536 (m.take (x + 1))) = nB 65536 x (vB 65536 (l.take x) + vB 65536 (m.take x)) ++ [((((vB 65536 (l.take x) + vB 65536 (m.take x)) / 65536 ^ x + (d + e)) % 65536 : Nat) : Int)] ∧
    (vB 65536 (l.take (x + 1)) + vB 65536 (m.take (x + 1))) / 65536 ^ (x + 1) = ((vB 65536 (l.take x) + vB 65536 (m.take x)) / 65536 ^ x + (d + e)) / 65536 := by
  obtain ⟨d, hd, h1, h2⟩ := plus_digit hl x
  obtain ⟨e, he, h3, h4⟩ := plus_digit hm x
  have hp : 0 < 65536 ^ x := Nat.pow_pos (by decide)
  have a1 : vB 65536 (l.take x) < 65536 ^ x := by rw [vB_take hl]; exact Nat.mod_lt _ hp
  have a2 : vB 65536 (m.take x) < 65536 ^ x := by rw [vB_take hm]; exact Nat.mod_lt _ hp
  have hs : vB 65536 (l.take (x + 1)) + vB 65536 (m.take (x + 1)) = (vB 65536 (l.take x) + vB 65536 (m.take x)) + 65536 ^ x * (d + e) := by rw [h2, h4, Nat.mul_add]; omega
  have hq : ((vB 65536 (l.take x) + vB 65536 (m.take x)) + 65536 ^ x * (d + e)) / 65536 ^ x = (vB 65536 (l.take x) + vB 65536 (m.take x)) / 65536 ^ x + (d + e) := Nat.add_mul_div_left _ _ hp
  refine ⟨d, e, hd, he, h1, h3, ?_, ?_, ?_⟩
  · have : (vB 65536 (l.take x) + vB 65536 (m.take x)) / 65536 ^ x < 2 := Nat.div_lt_of_lt_mul (by omega)
    omega
  · rw [hs, nB_push, hq]
    congr 1
    rw [← nB_mod, Nat.add_mul_mod_self_left, nB_mod]
  · rw [hs, Nat.pow_succ, ← Nat.div_div_eq_div_mul, hq]

set_option maxRecDepth 100000 in
theorem m63 : Meets Try.prog 63 sp63 := by
  refine meets_of_owed (C := c63) ⟨tab_ok, lkS_ok ⟨m74, m125, trivial⟩⟩ (by kernel_rfl) (by kernel_rfl : Try.prog.funcs[63]? = some Try.f63) (by kernel_rfl) (by kernel_rfl) (by kernel_rfl) _ ?_
  rintro _ ⟨l, m, rfl, ⟨hl, hl2⟩, hm, hm2⟩
  refine ⟨fun h => (by cases h), inv63 l m, ?_⟩
  show owed c63 (inv63 l m) Try.f63 [dgs l, dgs m] (dgs (dg (vB 65536 l + vB 65536 m)))
  rw [vc63]
  unfold lenS at hl2 hm2
  have hl3 : lenOk l := by unfold lenOk; omega
  have hm3 : lenOk m := by unfold lenOk; omega
  simp (decide := true) only [eq_self, true_and, and_true, ne_eq, not_false_eq_true]
  and_intros <;> try (first | omega | rfl | trivial | (simp [vB]; done))
  intro x hx
  obtain ⟨d, e, hd, he, h1, h2, h3, h4, h5⟩ := plus_step hl hm x
  rw [show ((x : Int) + 1) = ((x + 1 : Nat) : Int) by omega, wi (n := ((x + 1 : Nat) : Int)) (by omega) (by omega), Int.toNat_natCast, h1, h2, h4, h5]
  have hA : l.length ≤ x → m.length ≤ x → (vB 65536 (l.take x) + vB 65536 (m.take x)) = vB 65536 l + vB 65536 m := fun q1 q2 => by rw [List.take_of_length_le q1, List.take_of_length_le q2]
  have hB : l.length ≤ x → m.length ≤ x → 0 < (vB 65536 (l.take x) + vB 65536 (m.take x)) / 65536 ^ x → x ≤ l.length + m.length := fun q1 q2 q3 => by
    rcases Nat.lt_or_ge (l.length + m.length) x with hlt | hge
    · exfalso
      rw [hA q1 q2] at q3
      have b1 : vB 65536 l < 65536 ^ (x - 1) := Nat.lt_of_lt_of_le (vB_lt hl) (Nat.pow_le_pow_right (by decide) (by omega))
      have b2 : vB 65536 m < 65536 ^ (x - 1) := Nat.lt_of_lt_of_le (vB_lt hm) (Nat.pow_le_pow_right (by decide) (by omega))
      have b3 : 65536 ^ x = 65536 ^ (x - 1) * 65536 := by rw [← Nat.pow_succ]; congr 1; omega
      rw [b3, Nat.div_eq_of_lt (by omega)] at q3
      omega
    · exact hge
  have hC : (vB 65536 (l.take x) + vB 65536 (m.take x)) / 65536 ^ x = 0 → (vB 65536 (l.take x) + vB 65536 (m.take x)) % 65536 ^ x = (vB 65536 (l.take x) + vB 65536 (m.take x)) := fun q => by
    have := Nat.div_add_mod (vB 65536 (l.take x) + vB 65536 (m.take x)) (65536 ^ x)
    rw [q] at this
    omega
  have hV := vB_nB 65536 x (vB 65536 (l.take x) + vB 65536 (m.take x))
  have hO : okd (nB 65536 x (vB 65536 (l.take x) + vB 65536 (m.take x))) := nB_ok (by decide) _ _
  generalize hT : nB 65536 x (vB 65536 (l.take x) + vB 65536 (m.take x)) = T at hV hO ⊢
  have hTl : T.length = x := by rw [← hT, nB_length]
  generalize (vB 65536 (l.take x) + vB 65536 (m.take x)) / 65536 ^ x = c at h3 hB hC ⊢
  rw [wi (n := (d : Int) + (e : Int)) (by omega) (by omega), show (d : Int) + (e : Int) = ((d + e : Nat) : Int) by omega, wi (n := (c : Int) + ((d + e : Nat) : Int)) (by omega) (by omega), show (c : Int) + ((d + e : Nat) : Int) = ((c + (d + e) : Nat) : Int) by omega, show (65536 : Int) = (65536 : Nat) from rfl, tmodN, tdivN, wi (by omega) (by omega)]
  simp only [List.length_append, List.length_singleton, hTl]
  split
  · rename_i g1
    have g1 := of_decide_eq_true g1
    and_intros <;> first | omega | rfl | trivial | exact ⟨l, x, rfl, hl3⟩ | exact ⟨m, x, rfl, hm3⟩
  · rename_i g1
    have g1 := of_decide_eq_false g1
    split
    · rename_i g2
      have g2 := of_decide_eq_true g2
      and_intros <;> first | omega | rfl | trivial | exact ⟨l, x, rfl, hl3⟩ | exact ⟨m, x, rfl, hm3⟩
    · rename_i g2
      have g2 := of_decide_eq_false g2
      split
      · rename_i g3
        have g3 := of_decide_eq_true g3
        have g4 := hB (by omega) (by omega) (by omega)
        and_intros <;> first | omega | rfl | trivial | exact ⟨l, x, rfl, hl3⟩ | exact ⟨m, x, rfl, hm3⟩
      · rename_i g3
        have g3 := of_decide_eq_false g3
        refine ⟨⟨T, rfl, ?_⟩, ?_⟩
        · unfold lenOk
          omega
        · rw [trim_eq hO, hV, hC (by omega), hA (by omega) (by omega)]


theorem bit_at (v x : Nat) : v / 65536 ^ (x / 16) % 65536 / 2 ^ (x % 16) % 2 = v / 2 ^ x % 2 := by
  have hr : x % 16 < 16 := Nat.mod_lt _ (by decide)
  have e1 : (65536 : Nat) = 2 ^ (x % 16) * 2 ^ (16 - x % 16) := by rw [← Nat.pow_add, show x % 16 + (16 - x % 16) = 16 by omega]
  have e2 : v / 65536 ^ (x / 16) / 2 ^ (x % 16) = v / 2 ^ x := by
    rw [Nat.div_div_eq_div_mul, show (65536 : Nat) = 2 ^ 16 from rfl, ← Nat.pow_mul, ← Nat.pow_add, show 16 * (x / 16) + x % 16 = x by omega]
  generalize v / 65536 ^ (x / 16) = w at e2 ⊢
  have e3 : w % 65536 / 2 ^ (x % 16) = w / 2 ^ (x % 16) % 2 ^ (16 - x % 16) := by
    rw [show w % 65536 = w % (2 ^ (x % 16) * 2 ^ (16 - x % 16)) by rw [← e1], Nat.mod_mul_right_div_self]
  rw [e3, e2, Nat.mod_mod_of_dvd]
  exact Nat.dvd_of_pow_dvd (k := 1) (by omega) (Nat.pow_dvd_pow 2 (by omega) : 2 ^ 1 ∣ 2 ^ (16 - x % 16)) |> fun h => by simpa using h

theorem bitI {l : List Int} (h : okd l) (x : Nat) (hx : x < 4611686018427387904) : iand .i64 (ishr .i64 (dig l (IntKind.i64.wrap ((x : Int).tdiv 16))) ((x : Int).tmod 16)) 1 = ((vB 65536 l / 2 ^ x % 2 : Nat) : Int) := by
  rw [show (16 : Int) = (16 : Nat) from rfl, tdivN, tmodN, wi (by omega) (by omega), dig_nat h, ishr_eq _ _ _ (by simp only [IntKind.bits]; omega)]
  have e : (((vB 65536 l / 65536 ^ (x / 16) % 65536 : Nat) : Int) / 2 ^ (x % 16)) = ((vB 65536 l / 65536 ^ (x / 16) % 65536 / 2 ^ (x % 16) : Nat) : Int) := by simp
  have hlt : vB 65536 l / 65536 ^ (x / 16) % 65536 / 2 ^ (x % 16) ≤ vB 65536 l / 65536 ^ (x / 16) % 65536 := Nat.div_le_self _ _
  have hlt2 : vB 65536 l / 65536 ^ (x / 16) % 65536 < 65536 := Nat.mod_lt _ (by decide)
  rw [e, show (1 : Int) = ((1 : Nat) : Int) from rfl, iand_nat (by omega) (by decide), Nat.and_one_is_mod, bit_at]

theorem set_rep (A : List Int) (k : Nat) (z : Int) : (A ++ List.replicate (k + 1) 0).set A.length z = A ++ [z] ++ List.replicate k 0 := by
  rw [List.set_append_right _ _ (Nat.le_refl _), Nat.sub_self, List.replicate_succ, List.set_cons_zero]
  simp

set_option maxRecDepth 100000 in
theorem m123 : Meets Try.prog 123 sp123 := by
  refine meets_of_owed (C := c123) ⟨tab_ok, lkS_ok ⟨m74, trivial⟩⟩ (by kernel_rfl) (by kernel_rfl : Try.prog.funcs[123]? = some Try.f123) (by kernel_rfl) (by kernel_rfl) (by kernel_rfl) _ ?_
  rintro _ ⟨l, n, rfl, hd, hl, hn0, hn⟩
  refine ⟨fun h => (by cases h), inv123 l n, ?_⟩
  show owed c123 (inv123 l n) Try.f123 [dgs l, i64 n] (dgs (nB 2 n.toNat (vB 65536 l)))
  rw [vc123]
  obtain ⟨n, rfl⟩ := Int.eq_ofNat_of_zero_le hn0
  simp (decide := true) only [eq_self, true_and, and_true, ne_eq, not_false_eq_true, Int.toNat_natCast, Nat.zero_add]
  and_intros <;> try (first | omega | rfl | trivial | (simp [nB]; done))
  intro x hx
  obtain ⟨x, rfl⟩ := Int.eq_ofNat_of_zero_le hx.1
  rw [show ((x : Int) + 1) = ((x + 1 : Nat) : Int) by omega, wi (n := ((x + 1 : Nat) : Int)) (by omega) (by omega)]
  simp only [Int.toNat_natCast]
  split
  · rename_i h
    have h := of_decide_eq_true h
    rw [bitI hd x (by omega), show ((n : Int) - (x : Int)).toNat = (n - (x + 1)) + 1 by omega, show ((n : Int) - ((x + 1 : Nat) : Int)).toNat = n - (x + 1) by omega]
    have e := set_rep (nB 2 x (vB 65536 l)) (n - (x + 1)) ((vB 65536 l / 2 ^ x % 2 : Nat) : Int)
    rw [nB_length, ← nB_push] at e
    rw [e]
    have ht : (x : Int).tmod 16 = ((x % 16 : Nat) : Int) := tmodN x 16
    and_intros <;> first | omega | rfl | trivial | exact ⟨_, _, rfl, hl⟩
  · rename_i h
    have h := of_decide_eq_false h
    obtain rfl : x = n := by omega
    rw [show ((x : Int) - (x : Int)).toNat = 0 by omega]
    simp only [List.replicate_zero, List.append_nil, List.drop_zero]
    rw [List.take_of_length_le (by rw [nB_length]; omega)]

theorem vB_rep (b : Nat) : ∀ k, vB b (List.replicate k 0) = 0
  | 0 => rfl
  | k + 1 => by simp [List.replicate_succ, vB, vB_rep b k]

theorem dg_eq {l : List Int} (h : okd l) (hz : ∀ m, l ≠ m ++ [0]) : dg (vB 65536 l) = l := by
  rw [← trim_eq h]
  rcases List.eq_nil_or_concat l with rfl | ⟨m, z, rfl⟩
  · rfl
  · have : z ≠ 0 := fun e => hz m (by rw [e, List.concat_eq_append])
    rw [List.concat_eq_append, trim_keep m this]

set_option maxRecDepth 100000 in
theorem m66 : Meets Try.prog 66 sp66 := by
  refine meets_of_owed (C := c74) ⟨tab_ok, fun f s h => by cases h⟩ (by kernel_rfl) (by kernel_rfl : Try.prog.funcs[66]? = some Try.f66) (by kernel_rfl) (by kernel_rfl) (by kernel_rfl) _ ?_
  rintro _ ⟨n, rfl, hn0, hn⟩
  refine ⟨fun h => (by cases h), fun _ => none, ?_⟩
  show owed c74 (fun _ => none) Try.f66 [i64 n] (dgs (opq (dg (2 ^ n.toNat))))
  rw [opq_eq, vc66]
  obtain ⟨n, rfl⟩ := Int.eq_ofNat_of_zero_le hn0
  rw [show (16 : Int) = (16 : Nat) from rfl, tdivN, tmodN, wi (n := ((n / 16 : Nat) : Int)) (by omega) (by omega), show ((n / 16 : Nat) : Int) + 1 = ((n / 16 + 1 : Nat) : Int) by omega, wi (n := ((n / 16 + 1 : Nat) : Int)) (by omega) (by omega)]
  simp (decide := true) only [eq_self, true_and, and_true, ne_eq, not_false_eq_true, Int.toNat_natCast, Nat.zero_add, List.drop_zero]
  have hr : n % 16 < 16 := Nat.mod_lt _ (by decide)
  have e1 : ishl .i64 1 ((n % 16 : Nat) : Int) = ((2 ^ (n % 16) : Nat) : Int) := by
    unfold ishl
    rw [Int.toNat_natCast, show min (n % 16) IntKind.i64.bits = n % 16 by simp only [IntKind.bits]; omega, Int.one_mul]
    have : 2 ^ (n % 16) < 2 ^ 16 := Nat.pow_lt_pow_right (by decide) hr
    have e : ((2 : Int) ^ (n % 16)) = ((2 ^ (n % 16) : Nat) : Int) := by simp
    rw [e]
    generalize 2 ^ (n % 16) = q at this ⊢
    exact wi (by omega) (by omega)
  have e2 := set_rep (List.replicate (n / 16) 0) 0 ((2 ^ (n % 16) : Nat) : Int)
  rw [List.replicate_append_replicate, List.length_replicate] at e2
  rw [e1, e2, List.replicate_zero, List.append_nil, List.take_of_length_le (by simp)]
  have hlt : 2 ^ (n % 16) < 65536 := Nat.lt_of_lt_of_le (Nat.pow_lt_pow_right (by decide) hr) (by decide : 2 ^ 16 ≤ 65536)
  have hpos : 0 < 2 ^ (n % 16) := Nat.pow_pos (by decide)
  have hok : okd (List.replicate (n / 16) (0 : Int) ++ [((2 ^ (n % 16) : Nat) : Int)]) := by
    intro y hy
    simp only [List.mem_append, List.mem_replicate, List.mem_singleton] at hy
    rcases hy with ⟨_, rfl⟩ | rfl
    · decide
    · exact ⟨by omega, by omega⟩
  have hval : vB 65536 (List.replicate (n / 16) (0 : Int) ++ [((2 ^ (n % 16) : Nat) : Int)]) = 2 ^ n := by
    rw [vB_append, vB_rep, List.length_replicate, Nat.zero_add]
    simp only [vB, Int.toNat_natCast, Nat.mul_zero, Nat.add_zero]
    rw [show (65536 : Nat) = 2 ^ 16 from rfl, ← Nat.pow_mul, ← Nat.pow_add, show 16 * (n / 16) + n % 16 = n by omega]
  rw [← hval, dg_eq hok]
  · and_intros <;> first | omega | rfl | trivial
  · intro m hm
    have := List.append_inj_right' hm rfl
    simp only [List.cons.injEq, and_true] at this
    omega



theorem vB_take1 {b : Nat} {l : List Int} (n : Nat) (h : n < l.length) : vB b (l.take (n + 1)) = vB b (l.take n) + b ^ n * (l.getD n 0).toNat := by
  rw [take_push h, vB_append, List.length_take, show min n l.length = n by omega]
  simp [vB]

theorem getD_set (l : List Int) (i j : Nat) (x : Int) : (l.set i x).getD j 0 = if i = j ∧ i < l.length then x else l.getD j 0 := by
  simp only [List.getD_eq_getElem?_getD, List.getElem?_set]
  by_cases h : i = j
  · subst h
    by_cases h2 : i < l.length
    · simp [h2]
    · simp [h2]
  · simp [h]

theorem okd_set {l : List Int} (h : okd l) {i : Nat} {x : Int} (hx : 0 ≤ x ∧ x < 65536) : okd (l.set i x) := by
  intro y hy
  rcases List.mem_or_eq_of_mem_set hy with h1 | rfl
  · exact h y h1
  · exact hx

theorem times_step {l m : List Int} (hl : okd l) (hm : okd m) {i k : Nat} {c : Int} {out : List Int} (h : TimesJ l m i k c out) (hi : i < l.length) (hk : k < m.length) :
    (0 ≤ out.getD (i + k) 0 ∧ out.getD (i + k) 0 < 65536) ∧ (0 ≤ l.getD i 0 * m.getD k 0 ∧ l.getD i 0 * m.getD k 0 ≤ 4294836225) ∧
    TimesJ l m i (k + 1) ((c + (out.getD (i + k) 0 + l.getD i 0 * m.getD k 0)) / 65536) (out.set (i + k) ((c + (out.getD (i + k) 0 + l.getD i 0 * m.getD k 0)) % 65536)) := by
  have ho := h.ok _ (getD_memN (l := out) (n := i + k) (by have := h.len; omega))
  have h1 := hl _ (getD_memN hi)
  have h2 := hm _ (getD_memN hk)
  have hv := vB_set (b := 65536) out (i + k) ((c + (out.getD (i + k) 0 + l.getD i 0 * m.getD k 0)) % 65536) (by have := h.len; omega)
  have ht := vB_take1 (b := 65536) k hk
  have hval := h.val
  have hc := h.car
  obtain ⟨o, ho3⟩ := Int.eq_ofNat_of_zero_le ho.1
  obtain ⟨a, ha⟩ := Int.eq_ofNat_of_zero_le h1.1
  obtain ⟨b, hb⟩ := Int.eq_ofNat_of_zero_le h2.1
  obtain ⟨d, rfl⟩ := Int.eq_ofNat_of_zero_le hc.1
  have hab : a * b ≤ 65535 * 65535 := Nat.mul_le_mul (by omega) (by omega)
  have hprod : l.getD i 0 * m.getD k 0 = ((a * b : Nat) : Int) := by rw [ha, hb]; simp
  rw [hprod] at hv ⊢
  rw [ho3] at hv ho ⊢
  generalize hq : a * b = q at hab hv hprod ⊢
  refine ⟨ho, ⟨by omega, by omega⟩, ⟨by simp [h.len], okd_set h.ok ⟨by omega, by omega⟩, fun j hj => ?_, ⟨by omega, by omega⟩, ?_⟩⟩
  · rw [getD_set, if_neg (by omega)]
    exact h.zero j hj
  · rw [ht, Nat.mul_add, ← Nat.mul_assoc (l.getD i 0).toNat, Nat.mul_comm (l.getD i 0).toNat (65536 ^ k), Nat.mul_assoc, Nat.mul_add, ← Nat.mul_assoc (65536 ^ i) (65536 ^ k), ← Nat.pow_add]
    rw [show (l.getD i 0).toNat * (m.getD k 0).toNat = q by rw [ha, hb, ← hq]; simp]
    rw [show i + (k + 1) = (i + k) + 1 by omega, Nat.pow_succ]
    generalize 65536 ^ (i + k) = B at hv hval ⊢
    rw [show ((d : Int) + ((o : Int) + (q : Int))) = ((d + (o + q) : Nat) : Int) by omega] at hv ⊢
    rw [show (((d + (o + q) : Nat) : Int) % 65536).toNat = (d + (o + q)) % 65536 by omega, Int.toNat_natCast] at hv
    rw [show (((d + (o + q) : Nat) : Int) / 65536).toNat = (d + (o + q)) / 65536 by omega]
    rw [Int.toNat_natCast] at hval
    have e : B * ((d + (o + q)) % 65536) + B * 65536 * ((d + (o + q)) / 65536) = B * d + (B * o + B * q) := by
      rw [Nat.mul_assoc, ← Nat.mul_add, Nat.mod_add_div, Nat.mul_add, Nat.mul_add]
    omega

theorem times_start {l m : List Int} {i : Nat} {out : List Int} (h : TimesI l m i out) : TimesJ l m i 0 0 out :=
  ⟨h.len, h.ok, h.zero, ⟨by omega, by omega⟩, by have := h.val; simp [vB]; exact this⟩

theorem times_next {l m : List Int} {i : Nat} {c : Int} {out : List Int} (h : TimesJ l m i m.length c out) (hi : i < l.length) :
    out.getD (i + m.length) 0 = 0 ∧ TimesI l m (i + 1) (out.set (i + m.length) (0 + c)) := by
  have hz := h.zero (i + m.length) (Nat.le_refl _)
  have hv := vB_set (b := 65536) out (i + m.length) (0 + c) (by have := h.len; omega)
  have ht := vB_take1 (b := 65536) i hi
  have hval := h.val
  refine ⟨hz, ⟨by simp [h.len], okd_set h.ok (by have := h.car; exact ⟨by omega, by omega⟩), fun j hj => ?_, ?_⟩⟩
  · rw [getD_set, if_neg (by omega)]
    exact h.zero j (by omega)
  · rw [hz, Int.zero_add] at hv
    rw [ht, Nat.add_mul, Int.zero_add, Nat.mul_assoc]
    rw [List.take_of_length_le (Nat.le_refl _)] at hval
    simpa [hval] using hv

theorem times_zero (l m : List Int) : TimesI l m 0 (List.replicate (l.length + m.length) 0) :=
  ⟨by simp, fun x hx => by rw [List.mem_replicate] at hx; rw [hx.2]; decide, fun j _ => by simp only [List.getD_eq_getElem?_getD, List.getElem?_replicate]; split <;> rfl, by rw [vB_rep]; simp [vB]⟩

set_option maxRecDepth 100000 in
theorem m64 : Meets Try.prog 64 sp64 := by
  refine meets_of_owed (C := c64) ⟨tab_ok, lkS_ok ⟨m125, trivial⟩⟩ (by kernel_rfl) (by kernel_rfl : Try.prog.funcs[64]? = some Try.f64) (by kernel_rfl) (by kernel_rfl) (by kernel_rfl) _ ?_
  rintro _ ⟨l, m, rfl, ⟨hl, hl2⟩, hm, hm2⟩
  refine ⟨fun h => (by cases h), inv64 l m, ?_⟩
  show owed c64 (inv64 l m) Try.f64 [dgs l, dgs m] (dgs (dg (vB 65536 l * vB 65536 m)))
  rw [vc64]
  unfold lenS at hl2 hm2
  rw [show ((l.length : Int) + (m.length : Int)) = ((l.length + m.length : Nat) : Int) by omega, wi (n := ((l.length + m.length : Nat) : Int)) (by omega) (by omega)]
  simp (decide := true) only [eq_self, true_and, and_true, ne_eq, not_false_eq_true, Int.toNat_natCast, Nat.zero_add, List.drop_zero]
  have hz := times_zero l m
  and_intros <;> try (first | omega | rfl | trivial | exact hz)
  rintro ⟨i, out⟩ ⟨hi, hT⟩
  simp only at hi hT ⊢
  split
  · rename_i h
    have h := of_decide_eq_true h
    have hs := times_start hT
    and_intros <;> try (first | omega | rfl | trivial | exact hs)
    rintro ⟨k, c, out⟩ ⟨hk, hJ⟩
    simp only at hk hJ ⊢
    have hlen := hJ.len
    split
    · rename_i h2
      have h2 := of_decide_eq_true h2
      obtain ⟨g1, g2, g3⟩ := times_step hl hm hJ (by omega) (by omega)
      have g4 := hJ.car
      rw [show ((i : Int) + (k : Int)) = ((i + k : Nat) : Int) by omega, wi (n := ((i + k : Nat) : Int)) (by omega) (by omega), show ((k : Int) + 1) = ((k + 1 : Nat) : Int) by omega, wi (n := ((k + 1 : Nat) : Int)) (by omega) (by omega)]
      simp only [Int.toNat_natCast]
      rw [wi (n := l.getD i 0 * m.getD k 0) (by omega) (by omega)]
      generalize hp : l.getD i 0 * m.getD k 0 = p at g2 g3 ⊢
      generalize hq : out.getD (i + k) 0 = q at g1 g3 ⊢
      rw [wi (n := q + p) (by omega) (by omega), wi (n := c + (q + p)) (by omega) (by omega), Int.tdiv_eq_ediv_of_nonneg (by omega), Int.tmod_eq_emod_of_nonneg (by omega), wi (by omega) (by omega)]
      and_intros <;> first | omega | rfl | trivial | exact g3
    · rename_i h2
      have h2 := of_decide_eq_false h2
      obtain rfl : k = m.length := by omega
      obtain ⟨g1, g2⟩ := times_next hJ (by omega)
      have g4 := hJ.car
      rw [show ((i : Int) + (m.length : Int)) = ((i + m.length : Nat) : Int) by omega, wi (n := ((i + m.length : Nat) : Int)) (by omega) (by omega), show ((i : Int) + 1) = ((i + 1 : Nat) : Int) by omega, wi (n := ((i + 1 : Nat) : Int)) (by omega) (by omega)]
      simp only [Int.toNat_natCast]
      rw [g1, wi (n := 0 + c) (by omega) (by omega)]
      and_intros <;> first | omega | rfl | trivial | exact g2
  · rename_i h
    have h := of_decide_eq_false h
    obtain rfl : i = l.length := by omega
    have hv := hT.val
    have hlen := hT.len
    rw [List.take_of_length_le (Nat.le_refl _)] at hv
    rw [List.take_of_length_le (by omega)]
    refine ⟨⟨out, rfl, ?_⟩, ?_⟩
    · unfold lenOk; omega
    · rw [trim_eq hT.ok, hv]

end Go.Proofs.Ytnadggcfdakpoaa
/- QuotTells, part 7: the document's side: specs. -/
namespace Go.Proofs.Ytnadggcfdakpoaa
open Go Go.Vg

def len1 (l : List Int) : Prop := l.length ≤ 1000
def bor (a b : Nat) : Nat := if a < b then 1 else 0
def cmpN (a b : Nat) : Int := if a < b then -1 else if a > b then 1 else 0
abbrev vD (l : List Int) : Nat := vB 65536 l
def sp65 : Go.Vg.Spec := ⟨fun ds => ∃ l m, ds = [dgs l, dgs m] ∧ (okd l ∧ lenS l) ∧ okd m ∧ lenS m, fun ds => i64 (cmpN (vD (intsOf (ds.headD default))) (vD (intsOf (ds.getD 1 default)))), true, [94, 94]⟩
def sp120 : Go.Vg.Spec := ⟨fun ds => ∃ l m, ds = [dgs l, dgs m] ∧ (okd l ∧ lenS l) ∧ (okd m ∧ lenS m) ∧ vD m ≤ vD l, fun ds => dgs (dg (vD (intsOf (ds.headD default)) - vD (intsOf (ds.getD 1 default)))), false, [94, 94]⟩
def sp73 : Go.Vg.Spec := ⟨fun ds => ∃ l m, ds = [dgs l, dgs m] ∧ (okd l ∧ len1 l) ∧ (okd m ∧ len1 m) ∧ vD m ≠ 0,
  fun ds => .tup [dgs (dg (vD (intsOf (ds.headD default)) / vD (intsOf (ds.getD 1 default)))), dgs (dg (vD (intsOf (ds.headD default)) % vD (intsOf (ds.getD 1 default))))], false, [94, 94]⟩
def sp84 : Go.Vg.Spec := ⟨fun ds => ∃ l m, ds = [dgs l, dgs m] ∧ (okd l ∧ len1 l) ∧ (okd m ∧ len1 m) ∧ vD m ≠ 0,
  fun ds => dgs (dg (vD (intsOf (ds.headD default)) % vD (intsOf (ds.getD 1 default)))), false, [94, 94]⟩
def c65 : Ctx := ⟨tab, lkS [(74, sp74)], [], []⟩
def c120 : Ctx := ⟨tab, lkS [(74, sp74), (125, sp125)], [5], [34]⟩
def c73 : Ctx := ⟨tab, lkS [(64, sp64), (125, sp125), (65, sp65), (120, sp120)], [26], [60, 100029]⟩
def c84 : Ctx := ⟨tab, lkS [(73, sp73)], [], []⟩
def inv65 (l m : List Int) : Nat → Option Inv
  | 2 => some ⟨Int, fun i => [(5, .d (i64 i))], fun _ => [], fun s => slotN s 5, fun _ i => (-1 ≤ i ∧ i ≤ 65536) ∧ vD (l.drop (i + 1).toNat) = vD (m.drop (i + 1).toNat), fun i => (i + 1).toNat⟩
  | _ => none
def sbD (l m : List Int) (i : Nat) : Nat := (vD (l.take i) + 65536 ^ i - vD (m.take i)) % 65536 ^ i
def inv120 (l m : List Int) : Nat → Option Inv
  | 4 => some ⟨Nat, fun i => [(11, .d (i64 i)), (6, .d (i64 (bor (vD (l.take i)) (vD (m.take i))))), (5, .row 5)], fun i => [(5, .row 3 (dgs (nB 65536 i (sbD l m i))))], fun s => (slotN s 11).toNat, fun _ i => i ≤ l.length, fun i => l.length - i⟩
  | _ => none
def inv73 (l m : List Int) : Nat → Option Inv
  | 4 => some ⟨Nat, fun z => [(8, .d (.val (.int .i64 ((z : Int) - 1)))), (7, .d (dgs (dg (vD (l.drop z) % vD m))))], fun z => [(14, .fix (.arr .i64 l.length (List.replicate z 0 ++ nB 65536 (l.length - z) (vD (l.drop z) / vD m))))], fun s => (slotN s 8 + 1).toNat, fun _ z => z ≤ l.length, fun z => z⟩
  | 8 => some ⟨Nat × Nat, fun z => [(9, .d (i64 z.1)), (10, .d (i64 z.2))], fun _ => [], fun s => ((slotN s 9).toNat, (slotN s 10).toNat), fun s z => (z.1 < z.2 ∧ z.2 ≤ 65536) ∧ vD m * z.1 ≤ vD (intsOf (slotD s 7)) ∧ vD (intsOf (slotD s 7)) < vD m * z.2, fun z => z.2 - z.1⟩
  | _ => none
--KEEP Nat.gcd Go.Vg.eqB Go.Vg.vB Go.Vg.nB Go.Vg.okd Go.Vg.okw Go.Vg.dg Go.Vg.dig Go.Vg.trimL lenOk lenS len1 bor cmpN sbD
set_option maxRecDepth 100000 in
theorem vc65  (l m : List Int) (F : D)  :
    (owed c65 (inv65 l m) Try.f65 [dgs l, dgs m] F) = (
 True ∧
 True ∧
 True ∧
 True ∧
 True ∧
 IntKind.i64 = IntKind.i64 ∧
 True ∧
 True ∧
 (((AV.d (D.val (Value.int IntKind.i64 (IntKind.i64.wrap ((bif decide ((↑l.length : Int) < (↑m.length : Int)) then (↑m.length : Int) else (↑l.length : Int)) - (1 : Int))))) = AV.d (D.val (Value.int IntKind.i64 (IntKind.i64.wrap ((bif decide ((↑l.length : Int) < (↑m.length : Int)) then (↑m.length : Int) else (↑l.length : Int)) - (1 : Int))))) ∧ True) ∧ True ∧ true = true) ∧
 ((-1 : Int) ≤ IntKind.i64.wrap ((bif decide ((↑l.length : Int) < (↑m.length : Int)) then (↑m.length : Int) else (↑l.length : Int)) - (1 : Int)) ∧ IntKind.i64.wrap ((bif decide ((↑l.length : Int) < (↑m.length : Int)) then (↑m.length : Int) else (↑l.length : Int)) - (1 : Int)) ≤ (65536 : Int)) ∧
 vB (65536 : Nat) (List.drop (IntKind.i64.wrap ((bif decide ((↑l.length : Int) < (↑m.length : Int)) then (↑m.length : Int) else (↑l.length : Int)) - (1 : Int)) + (1 : Int)).toNat l) = vB (65536 : Nat) (List.drop (IntKind.i64.wrap ((bif decide ((↑l.length : Int) < (↑m.length : Int)) then (↑m.length : Int) else (↑l.length : Int)) - (1 : Int)) + (1 : Int)).toNat m)) ∧
 ∀ (x : Int),
 ((-1 : Int) ≤ x ∧ x ≤ (65536 : Int)) ∧ vB (65536 : Nat) (List.drop (x + (1 : Int)).toNat l) = vB (65536 : Nat) (List.drop (x + (1 : Int)).toNat m) →
 true = true ∧
 True ∧
 True ∧
 match decide (x ≥ (0 : Int)) with
 | true =>
  True ∧
  True ∧
  (∃ (l_1 : List Int), ∃ (i : Int), [D.ints IntKind.i64 l, D.val (Value.int IntKind.i64 x)] = [D.ints IntKind.i64 l_1, D.val (Value.int IntKind.i64 i)] ∧ lenOk l_1) ∧
  True ∧
  True ∧
  (∃ (l : List Int), ∃ (i : Int), [D.ints IntKind.i64 m, D.val (Value.int IntKind.i64 x)] = [D.ints IntKind.i64 l, D.val (Value.int IntKind.i64 i)] ∧ lenOk l) ∧
  True ∧
  True ∧
  True ∧
  True ∧
  True ∧
  match decide (dig l x < dig m x) with
  | true => True ∧ (false = false ∧ True) ∧ D.val (Value.int IntKind.i64 (-1 : Int)) = F
  | false =>
   True ∧
   True ∧
   True ∧
   match decide (dig l x > dig m x) with
   | true => True ∧ (false = false ∧ True) ∧ D.val (Value.int IntKind.i64 (1 : Int)) = F
   | false =>
    True ∧
    True ∧
    True ∧
    ((AV.d (D.val (Value.int IntKind.i64 (IntKind.i64.wrap (x - (1 : Int))))) = AV.d (D.val (Value.int IntKind.i64 (IntKind.i64.wrap (x - (1 : Int))))) ∧ True) ∧ True ∧ true = true) ∧
    (((-1 : Int) ≤ IntKind.i64.wrap (x - (1 : Int)) ∧ IntKind.i64.wrap (x - (1 : Int)) ≤ (65536 : Int)) ∧ vB (65536 : Nat) (List.drop (IntKind.i64.wrap (x - (1 : Int)) + (1 : Int)).toNat l) = vB (65536 : Nat) (List.drop (IntKind.i64.wrap (x - (1 : Int)) + (1 : Int)).toNat m)) ∧
    (IntKind.i64.wrap (x - (1 : Int)) + (1 : Int)).toNat < (x + (1 : Int)).toNat
 | false => True ∧ (false = false ∧ True) ∧ D.val (Value.int IntKind.i64 (0 : Int)) = F) := by kernel_rfl
set_option maxRecDepth 100000 in
theorem vc120  (l m : List Int) (F : D)  :
    (owed c120 (inv120 l m) Try.f120 [dgs l, dgs m] F) = (
 True ∧
 (1 : Nat) ≠ (0 : Nat) ∧
 True ∧
 True ∧
 True ∧
 True ∧
 (((AV.d (D.val (Value.int IntKind.i64 (0 : Int))) = AV.d (D.val (Value.int IntKind.i64 (↑(Int.toNat (0 : Int)) : Int))) ∧ AV.d (D.val (Value.int IntKind.i64 (0 : Int))) = AV.d (D.val (Value.int IntKind.i64 (↑(bor (vB (65536 : Nat) (List.take (Int.toNat (0 : Int)) l)) (vB (65536 : Nat) (List.take (Int.toNat (0 : Int)) m))) : Int))) ∧ AV.row (5 : Nat) = AV.row (5 : Nat) ∧ True) ∧
 (some (Blk.row (3 : TypeId) (D.ints IntKind.i64 [])) = some (Blk.row (3 : TypeId) (D.ints IntKind.i64 (nB (65536 : Nat) (Int.toNat (0 : Int)) (sbD l m (Int.toNat (0 : Int)))))) ∧ True) ∧ true = true) ∧
 Int.toNat (0 : Int) ≤ l.length) ∧
 ∀ (x : Nat),
 x ≤ l.length →
 true = true ∧
 True ∧
 match decide ((↑x : Int) < (↑l.length : Int)) with
 | true =>
  True ∧
  True ∧
  True ∧
  True ∧
  ((0 : Int) ≤ (↑x : Int) ∧ (↑x : Int) < (↑l.length : Int) ∧ (1 : Nat) = (1 : Nat)) ∧
  ((1 : Nat) ≠ (0 : Nat) ∧ (1 : Nat) = (1 : Nat) ∧ false = false) ∧
  True ∧
  True ∧
  (∃ (l : List Int), ∃ (i : Int), [D.ints IntKind.i64 m, D.val (Value.int IntKind.i64 (↑x : Int))] = [D.ints IntKind.i64 l, D.val (Value.int IntKind.i64 i)] ∧ lenOk l) ∧
  True ∧
  True ∧
  True ∧
  True ∧
  True ∧
  True ∧
  True ∧
  match decide (IntKind.i64.wrap (IntKind.i64.wrap (l.getD (↑x : Int).toNat (0 : Int) - dig m (↑x : Int)) - (↑(bor (vB (65536 : Nat) (List.take x l)) (vB (65536 : Nat) (List.take x m))) : Int)) < (0 : Int)) with
  | true =>
   True ∧
   True ∧
   True ∧
   True ∧
   True ∧
   True ∧
   ((1 : Nat) = (1 : Nat) ∧ (1 : Nat) ≤ (4096 : Nat)) ∧
   ((3 : TypeId) = (3 : TypeId) ∧
   (94 : Nat) = (94 : Nat) ∧
   true = true ∧
   (nB (65536 : Nat) x (sbD l m x) ++ [IntKind.i64.wrap (IntKind.i64.wrap (IntKind.i64.wrap (l.getD (↑x : Int).toNat (0 : Int) - dig m (↑x : Int)) - (↑(bor (vB (65536 : Nat) (List.take x l)) (vB (65536 : Nat) (List.take x m))) : Int)) + (65536 : Int))]).length ≤ (140737488355328 : Nat) ∧
   (nB (65536 : Nat) x (sbD l m x) ++ [IntKind.i64.wrap (IntKind.i64.wrap (IntKind.i64.wrap (l.getD (↑x : Int).toNat (0 : Int) - dig m (↑x : Int)) - (↑(bor (vB (65536 : Nat) (List.take x l)) (vB (65536 : Nat) (List.take x m))) : Int)) + (65536 : Int))]).length * (8 : Nat) ≤ (140737488355328 : Nat) ∧
   (1 : Nat) ≠ (0 : Nat) ∧ (1 : Nat) = (1 : Nat)) ∧
   True ∧
   True ∧
   True ∧
   ((AV.d (D.val (Value.int IntKind.i64 (IntKind.i64.wrap ((↑x : Int) + (1 : Int))))) = AV.d (D.val (Value.int IntKind.i64 (↑(IntKind.i64.wrap ((↑x : Int) + (1 : Int))).toNat : Int))) ∧
   AV.d (D.val (Value.int IntKind.i64 (1 : Int))) = AV.d (D.val (Value.int IntKind.i64 (↑(bor (vB (65536 : Nat) (List.take (IntKind.i64.wrap ((↑x : Int) + (1 : Int))).toNat l)) (vB (65536 : Nat) (List.take (IntKind.i64.wrap ((↑x : Int) + (1 : Int))).toNat m))) : Int))) ∧
   AV.row (5 : Nat) = AV.row (5 : Nat) ∧ True) ∧
   (some (Blk.row (3 : TypeId) (D.ints IntKind.i64 (nB (65536 : Nat) x (sbD l m x) ++ [IntKind.i64.wrap (IntKind.i64.wrap (IntKind.i64.wrap (l.getD (↑x : Int).toNat (0 : Int) - dig m (↑x : Int)) - (↑(bor (vB (65536 : Nat) (List.take x l)) (vB (65536 : Nat) (List.take x m))) : Int)) + (65536 : Int))]))) =
   some (Blk.row (3 : TypeId) (D.ints IntKind.i64 (nB (65536 : Nat) (IntKind.i64.wrap ((↑x : Int) + (1 : Int))).toNat (sbD l m (IntKind.i64.wrap ((↑x : Int) + (1 : Int))).toNat)))) ∧
   True) ∧
   true = true) ∧
   (IntKind.i64.wrap ((↑x : Int) + (1 : Int))).toNat ≤ l.length ∧ l.length - (IntKind.i64.wrap ((↑x : Int) + (1 : Int))).toNat < l.length - x
  | false =>
   True ∧
   True ∧
   ((1 : Nat) = (1 : Nat) ∧ (1 : Nat) ≤ (4096 : Nat)) ∧
   ((3 : TypeId) = (3 : TypeId) ∧
   (94 : Nat) = (94 : Nat) ∧
   true = true ∧
   (nB (65536 : Nat) x (sbD l m x) ++ [IntKind.i64.wrap (IntKind.i64.wrap (l.getD (↑x : Int).toNat (0 : Int) - dig m (↑x : Int)) - (↑(bor (vB (65536 : Nat) (List.take x l)) (vB (65536 : Nat) (List.take x m))) : Int))]).length ≤ (140737488355328 : Nat) ∧
   (nB (65536 : Nat) x (sbD l m x) ++ [IntKind.i64.wrap (IntKind.i64.wrap (l.getD (↑x : Int).toNat (0 : Int) - dig m (↑x : Int)) - (↑(bor (vB (65536 : Nat) (List.take x l)) (vB (65536 : Nat) (List.take x m))) : Int))]).length * (8 : Nat) ≤ (140737488355328 : Nat) ∧ (1 : Nat) ≠ (0 : Nat) ∧ (1 : Nat) = (1 : Nat)) ∧
   True ∧
   True ∧
   True ∧
   ((AV.d (D.val (Value.int IntKind.i64 (IntKind.i64.wrap ((↑x : Int) + (1 : Int))))) = AV.d (D.val (Value.int IntKind.i64 (↑(IntKind.i64.wrap ((↑x : Int) + (1 : Int))).toNat : Int))) ∧
   AV.d (D.val (Value.int IntKind.i64 (0 : Int))) = AV.d (D.val (Value.int IntKind.i64 (↑(bor (vB (65536 : Nat) (List.take (IntKind.i64.wrap ((↑x : Int) + (1 : Int))).toNat l)) (vB (65536 : Nat) (List.take (IntKind.i64.wrap ((↑x : Int) + (1 : Int))).toNat m))) : Int))) ∧ AV.row (5 : Nat) = AV.row (5 : Nat) ∧ True) ∧
   (some (Blk.row (3 : TypeId) (D.ints IntKind.i64 (nB (65536 : Nat) x (sbD l m x) ++ [IntKind.i64.wrap (IntKind.i64.wrap (l.getD (↑x : Int).toNat (0 : Int) - dig m (↑x : Int)) - (↑(bor (vB (65536 : Nat) (List.take x l)) (vB (65536 : Nat) (List.take x m))) : Int))]))) =
   some (Blk.row (3 : TypeId) (D.ints IntKind.i64 (nB (65536 : Nat) (IntKind.i64.wrap ((↑x : Int) + (1 : Int))).toNat (sbD l m (IntKind.i64.wrap ((↑x : Int) + (1 : Int))).toNat)))) ∧
   True) ∧
   true = true) ∧
   (IntKind.i64.wrap ((↑x : Int) + (1 : Int))).toNat ≤ l.length ∧ l.length - (IntKind.i64.wrap ((↑x : Int) + (1 : Int))).toNat < l.length - x
 | false => True ∧ (∃ (l_1 : List Int), [D.ints IntKind.i64 (nB (65536 : Nat) x (sbD l m x))] = [D.ints IntKind.i64 l_1] ∧ lenOk l_1) ∧ True ∧ (false = false ∧ True) ∧ D.ints IntKind.i64 (trimL (nB (65536 : Nat) x (sbD l m x))) = F) := by kernel_rfl
set_option maxRecDepth 100000 in
theorem vc73  (l m : List Int) (F : D)  :
    (owed c73 (inv73 l m) Try.f73 [dgs l, dgs m] F) = (
 True ∧
 True ∧
 True ∧
 True ∧
 ((0 : Int) ≤ (↑l.length : Int) ∧ (↑l.length : Int) = (↑l.length : Int) ∧ (↑l.length : Int) ≤ (281474976710656 : Int) ∧ (↑(8 : Nat) : Int) * (↑l.length : Int) ≤ (281474976710656 : Int) ∧ (1 : Nat) = (1 : Nat)) ∧
 True ∧
 True ∧
 True ∧
 True ∧
 True ∧
 True ∧
 (((AV.d (D.val (Value.int IntKind.i64 (IntKind.i64.wrap ((↑l.length : Int) - (1 : Int))))) = AV.d (D.val (Value.int IntKind.i64 ((↑(IntKind.i64.wrap ((↑l.length : Int) - (1 : Int)) + (1 : Int)).toNat : Int) - (1 : Int)))) ∧ dg (vB (65536 : Nat) (List.drop (IntKind.i64.wrap ((↑l.length : Int) - (1 : Int)) + (1 : Int)).toNat l) % vB (65536 : Nat) m) = [] ∧ True) ∧
 (some (Blk.fix (D.arr IntKind.i64 (↑l.length : Int).toNat (List.replicate (↑l.length : Int).toNat (0 : Int)))) =
 some
 (Blk.fix (D.arr IntKind.i64 l.length (List.replicate (IntKind.i64.wrap ((↑l.length : Int) - (1 : Int)) + (1 : Int)).toNat (0 : Int) ++ nB (65536 : Nat) (l.length - (IntKind.i64.wrap ((↑l.length : Int) - (1 : Int)) + (1 : Int)).toNat) (vB (65536 : Nat) (List.drop (IntKind.i64.wrap ((↑l.length : Int) - (1 : Int)) + (1 : Int)).toNat l) / vB (65536 : Nat) m)))) ∧
 True) ∧
 true = true) ∧
 (IntKind.i64.wrap ((↑l.length : Int) - (1 : Int)) + (1 : Int)).toNat ≤ l.length) ∧
 ∀ (x : Nat),
 x ≤ l.length →
 true = true ∧
 True ∧
 True ∧
 match decide ((↑x : Int) - (1 : Int) ≥ (0 : Int)) with
 | true =>
  True ∧
  True ∧
  ((0 : Int) ≤ (↑x : Int) - (1 : Int) ∧ (↑x : Int) - (1 : Int) < (↑l.length : Int) ∧ (1 : Nat) = (1 : Nat)) ∧
  ((1 : Nat) ≠ (0 : Nat) ∧ (1 : Nat) = (1 : Nat) ∧ false = false) ∧
  ((1 : Nat) = (1 : Nat) ∧ (1 : Nat) ≤ (4096 : Nat)) ∧
  True ∧
  ((3 : TypeId) = (3 : TypeId) ∧
  (94 : Nat) = (94 : Nat) ∧
  true = true ∧
  (l.getD ((↑x : Int) - (1 : Int)).toNat (0 : Int) :: dg (vB (65536 : Nat) (List.drop x l) % vB (65536 : Nat) m)).length ≤ (140737488355328 : Nat) ∧
  (l.getD ((↑x : Int) - (1 : Int)).toNat (0 : Int) :: dg (vB (65536 : Nat) (List.drop x l) % vB (65536 : Nat) m)).length * (8 : Nat) ≤ (140737488355328 : Nat) ∧ (1 : Nat) ≠ (0 : Nat) ∧ (1 : Nat) = (1 : Nat)) ∧
  (∃ (l_1 : List Int), [D.ints IntKind.i64 (l.getD ((↑x : Int) - (1 : Int)).toNat (0 : Int) :: dg (vB (65536 : Nat) (List.drop x l) % vB (65536 : Nat) m))] = [D.ints IntKind.i64 l_1] ∧ lenOk l_1) ∧
  True ∧
  True ∧
  True ∧
  (((AV.d (D.val (Value.int IntKind.i64 (0 : Int))) = AV.d (D.val (Value.int IntKind.i64 (↑(0 : Nat) : Int))) ∧ AV.d (D.val (Value.int IntKind.i64 (65536 : Int))) = AV.d (D.val (Value.int IntKind.i64 (↑(65536 : Nat) : Int))) ∧ True) ∧
  (some (Blk.fix (D.arr IntKind.i64 l.length (List.replicate x (0 : Int) ++ nB (65536 : Nat) (l.length - x) (vB (65536 : Nat) (List.drop x l) / vB (65536 : Nat) m)))) = some (Blk.fix (D.arr IntKind.i64 l.length (List.replicate x (0 : Int) ++ nB (65536 : Nat) (l.length - x) (vB (65536 : Nat) (List.drop x l) / vB (65536 : Nat) m)))) ∧
  True) ∧
  true = true) ∧
  ((0 : Nat) < (65536 : Nat) ∧ (65536 : Nat) ≤ (65536 : Nat)) ∧
  vB (65536 : Nat) m * (0 : Nat) ≤ vB (65536 : Nat) (trimL (l.getD ((↑x : Int) - (1 : Int)).toNat (0 : Int) :: dg (vB (65536 : Nat) (List.drop x l) % vB (65536 : Nat) m))) ∧
  vB (65536 : Nat) (trimL (l.getD ((↑x : Int) - (1 : Int)).toNat (0 : Int) :: dg (vB (65536 : Nat) (List.drop x l) % vB (65536 : Nat) m))) < vB (65536 : Nat) m * (65536 : Nat)) ∧
  ∀ (x_1 : Nat × Nat),
  (x_1.fst < x_1.snd ∧ x_1.snd ≤ (65536 : Nat)) ∧
  vB (65536 : Nat) m * x_1.fst ≤ vB (65536 : Nat) (trimL (l.getD ((↑x : Int) - (1 : Int)).toNat (0 : Int) :: dg (vB (65536 : Nat) (List.drop x l) % vB (65536 : Nat) m))) ∧
  vB (65536 : Nat) (trimL (l.getD ((↑x : Int) - (1 : Int)).toNat (0 : Int) :: dg (vB (65536 : Nat) (List.drop x l) % vB (65536 : Nat) m))) < vB (65536 : Nat) m * x_1.snd →
  true = true ∧
  True ∧
  True ∧
  True ∧
  True ∧
  match decide (IntKind.i64.wrap ((↑x_1.snd : Int) - (↑x_1.fst : Int)) > (1 : Int)) with
  | true =>
   True ∧
   True ∧
   True ∧
   (2 : Int) ≠ (0 : Int) ∧
   True ∧
   True ∧
   True ∧
   ((1 : Nat) = (1 : Nat) ∧ (1 : Nat) ≤ (4096 : Nat)) ∧
   (∃ (l : List Int), ∃ (m_1 : List Int), [D.ints IntKind.i64 m, D.ints IntKind.i64 [IntKind.i64.wrap ((IntKind.i64.wrap ((↑x_1.fst : Int) + (↑x_1.snd : Int))).tdiv (2 : Int))]] = [D.ints IntKind.i64 l, D.ints IntKind.i64 m_1] ∧ (okd l ∧ lenS l) ∧ okd m_1 ∧ lenS m_1) ∧
   True ∧
   (∃ (l_1 : List Int),
   ∃ (m_1 : List Int),
   [D.ints IntKind.i64 (dg (vB (65536 : Nat) m * vB (65536 : Nat) [IntKind.i64.wrap ((IntKind.i64.wrap ((↑x_1.fst : Int) + (↑x_1.snd : Int))).tdiv (2 : Int))])),
   D.ints IntKind.i64 (trimL (l.getD ((↑x : Int) - (1 : Int)).toNat (0 : Int) :: dg (vB (65536 : Nat) (List.drop x l) % vB (65536 : Nat) m)))] =
   [D.ints IntKind.i64 l_1, D.ints IntKind.i64 m_1] ∧
   (okd l_1 ∧ lenS l_1) ∧ okd m_1 ∧ lenS m_1) ∧
   True ∧
   match
   decide
   (cmpN (vB (65536 : Nat) (dg (vB (65536 : Nat) m * vB (65536 : Nat) [IntKind.i64.wrap ((IntKind.i64.wrap ((↑x_1.fst : Int) + (↑x_1.snd : Int))).tdiv (2 : Int))])))
   (vB (65536 : Nat) (trimL (l.getD ((↑x : Int) - (1 : Int)).toNat (0 : Int) :: dg (vB (65536 : Nat) (List.drop x l) % vB (65536 : Nat) m)))) ≤
   (0 : Int)) with
   | true =>
    True ∧
    True ∧
    ((AV.d (D.val (Value.int IntKind.i64 (IntKind.i64.wrap ((IntKind.i64.wrap ((↑x_1.fst : Int) + (↑x_1.snd : Int))).tdiv (2 : Int))))) = AV.d (D.val (Value.int IntKind.i64 (↑(IntKind.i64.wrap ((IntKind.i64.wrap ((↑x_1.fst : Int) + (↑x_1.snd : Int))).tdiv (2 : Int))).toNat : Int))) ∧
    AV.d (D.val (Value.int IntKind.i64 (↑x_1.snd : Int))) = AV.d (D.val (Value.int IntKind.i64 (↑(↑x_1.snd : Int).toNat : Int))) ∧ True) ∧
    (some (Blk.fix (D.arr IntKind.i64 l.length (List.replicate x (0 : Int) ++ nB (65536 : Nat) (l.length - x) (vB (65536 : Nat) (List.drop x l) / vB (65536 : Nat) m)))) =
    some (Blk.fix (D.arr IntKind.i64 l.length (List.replicate x (0 : Int) ++ nB (65536 : Nat) (l.length - x) (vB (65536 : Nat) (List.drop x l) / vB (65536 : Nat) m)))) ∧
    True) ∧
    true = true) ∧
    (((IntKind.i64.wrap ((IntKind.i64.wrap ((↑x_1.fst : Int) + (↑x_1.snd : Int))).tdiv (2 : Int))).toNat < (↑x_1.snd : Int).toNat ∧ (↑x_1.snd : Int).toNat ≤ (65536 : Nat)) ∧
    vB (65536 : Nat) m * (IntKind.i64.wrap ((IntKind.i64.wrap ((↑x_1.fst : Int) + (↑x_1.snd : Int))).tdiv (2 : Int))).toNat ≤ vB (65536 : Nat) (trimL (l.getD ((↑x : Int) - (1 : Int)).toNat (0 : Int) :: dg (vB (65536 : Nat) (List.drop x l) % vB (65536 : Nat) m))) ∧
    vB (65536 : Nat) (trimL (l.getD ((↑x : Int) - (1 : Int)).toNat (0 : Int) :: dg (vB (65536 : Nat) (List.drop x l) % vB (65536 : Nat) m))) < vB (65536 : Nat) m * (↑x_1.snd : Int).toNat) ∧
    (↑x_1.snd : Int).toNat - (IntKind.i64.wrap ((IntKind.i64.wrap ((↑x_1.fst : Int) + (↑x_1.snd : Int))).tdiv (2 : Int))).toNat < x_1.snd - x_1.fst
   | false =>
    True ∧
    True ∧
    ((AV.d (D.val (Value.int IntKind.i64 (↑x_1.fst : Int))) = AV.d (D.val (Value.int IntKind.i64 (↑(↑x_1.fst : Int).toNat : Int))) ∧
    AV.d (D.val (Value.int IntKind.i64 (IntKind.i64.wrap ((IntKind.i64.wrap ((↑x_1.fst : Int) + (↑x_1.snd : Int))).tdiv (2 : Int))))) = AV.d (D.val (Value.int IntKind.i64 (↑(IntKind.i64.wrap ((IntKind.i64.wrap ((↑x_1.fst : Int) + (↑x_1.snd : Int))).tdiv (2 : Int))).toNat : Int))) ∧ True) ∧
    (some (Blk.fix (D.arr IntKind.i64 l.length (List.replicate x (0 : Int) ++ nB (65536 : Nat) (l.length - x) (vB (65536 : Nat) (List.drop x l) / vB (65536 : Nat) m)))) =
    some (Blk.fix (D.arr IntKind.i64 l.length (List.replicate x (0 : Int) ++ nB (65536 : Nat) (l.length - x) (vB (65536 : Nat) (List.drop x l) / vB (65536 : Nat) m)))) ∧
    True) ∧
    true = true) ∧
    (((↑x_1.fst : Int).toNat < (IntKind.i64.wrap ((IntKind.i64.wrap ((↑x_1.fst : Int) + (↑x_1.snd : Int))).tdiv (2 : Int))).toNat ∧ (IntKind.i64.wrap ((IntKind.i64.wrap ((↑x_1.fst : Int) + (↑x_1.snd : Int))).tdiv (2 : Int))).toNat ≤ (65536 : Nat)) ∧
    vB (65536 : Nat) m * (↑x_1.fst : Int).toNat ≤ vB (65536 : Nat) (trimL (l.getD ((↑x : Int) - (1 : Int)).toNat (0 : Int) :: dg (vB (65536 : Nat) (List.drop x l) % vB (65536 : Nat) m))) ∧
    vB (65536 : Nat) (trimL (l.getD ((↑x : Int) - (1 : Int)).toNat (0 : Int) :: dg (vB (65536 : Nat) (List.drop x l) % vB (65536 : Nat) m))) < vB (65536 : Nat) m * (IntKind.i64.wrap ((IntKind.i64.wrap ((↑x_1.fst : Int) + (↑x_1.snd : Int))).tdiv (2 : Int))).toNat) ∧
    (IntKind.i64.wrap ((IntKind.i64.wrap ((↑x_1.fst : Int) + (↑x_1.snd : Int))).tdiv (2 : Int))).toNat - (↑x_1.fst : Int).toNat < x_1.snd - x_1.fst
  | false =>
   True ∧
   True ∧
   match decide ((↑x_1.fst : Int) > (0 : Int)) with
   | true =>
    True ∧
    True ∧
    True ∧
    ((1 : Nat) = (1 : Nat) ∧ (1 : Nat) ≤ (4096 : Nat)) ∧
    (∃ (l : List Int), ∃ (m_1 : List Int), [D.ints IntKind.i64 m, D.ints IntKind.i64 [(↑x_1.fst : Int)]] = [D.ints IntKind.i64 l, D.ints IntKind.i64 m_1] ∧ (okd l ∧ lenS l) ∧ okd m_1 ∧ lenS m_1) ∧
    (∃ (l_1 : List Int),
    ∃ (m_1 : List Int),
    [D.ints IntKind.i64 (trimL (l.getD ((↑x : Int) - (1 : Int)).toNat (0 : Int) :: dg (vB (65536 : Nat) (List.drop x l) % vB (65536 : Nat) m))), D.ints IntKind.i64 (dg (vB (65536 : Nat) m * vB (65536 : Nat) [(↑x_1.fst : Int)]))] = [D.ints IntKind.i64 l_1, D.ints IntKind.i64 m_1] ∧
    (okd l_1 ∧ lenS l_1) ∧ (okd m_1 ∧ lenS m_1) ∧ vB (65536 : Nat) m_1 ≤ vB (65536 : Nat) l_1) ∧
    True ∧
    True ∧
    True ∧
    True ∧
    ((0 : Int) ≤ (↑x : Int) - (1 : Int) ∧ (↑x : Int) - (1 : Int) < (↑(↑l.length : Int).toNat : Int) ∧ (1 : Nat) = (1 : Nat)) ∧
    (((0 : Nat) + ((↑x : Int) - (1 : Int)).toNat < l.length ∧ ([] : List Nat) = [] ∧ true = true) ∧ (1 : Nat) ≠ (0 : Nat) ∧ (1 : Nat) = (1 : Nat) ∧ false = false) ∧
    True ∧
    True ∧
    True ∧
    ((AV.d (D.val (Value.int IntKind.i64 (IntKind.i64.wrap ((↑x : Int) - (1 : Int) - (1 : Int))))) = AV.d (D.val (Value.int IntKind.i64 ((↑(IntKind.i64.wrap ((↑x : Int) - (1 : Int) - (1 : Int)) + (1 : Int)).toNat : Int) - (1 : Int)))) ∧
    AV.d (D.ints IntKind.i64 (dg (vB (65536 : Nat) (trimL (l.getD ((↑x : Int) - (1 : Int)).toNat (0 : Int) :: dg (vB (65536 : Nat) (List.drop x l) % vB (65536 : Nat) m))) - vB (65536 : Nat) (dg (vB (65536 : Nat) m * vB (65536 : Nat) [(↑x_1.fst : Int)]))))) =
    AV.d (D.ints IntKind.i64 (dg (vB (65536 : Nat) (List.drop (IntKind.i64.wrap ((↑x : Int) - (1 : Int) - (1 : Int)) + (1 : Int)).toNat l) % vB (65536 : Nat) m))) ∧
    True) ∧
    (some (Blk.fix (D.arr IntKind.i64 l.length ((List.replicate x (0 : Int) ++ nB (65536 : Nat) (l.length - x) (vB (65536 : Nat) (List.drop x l) / vB (65536 : Nat) m)).set ((0 : Nat) + ((↑x : Int) - (1 : Int)).toNat) (↑x_1.fst : Int)))) =
    some
    (Blk.fix
    (D.arr IntKind.i64 l.length
    (List.replicate (IntKind.i64.wrap ((↑x : Int) - (1 : Int) - (1 : Int)) + (1 : Int)).toNat (0 : Int) ++
    nB (65536 : Nat) (l.length - (IntKind.i64.wrap ((↑x : Int) - (1 : Int) - (1 : Int)) + (1 : Int)).toNat) (vB (65536 : Nat) (List.drop (IntKind.i64.wrap ((↑x : Int) - (1 : Int) - (1 : Int)) + (1 : Int)).toNat l) / vB (65536 : Nat) m)))) ∧
    True) ∧
    true = true) ∧
    (IntKind.i64.wrap ((↑x : Int) - (1 : Int) - (1 : Int)) + (1 : Int)).toNat ≤ l.length ∧ (IntKind.i64.wrap ((↑x : Int) - (1 : Int) - (1 : Int)) + (1 : Int)).toNat < x
   | false =>
    True ∧
    True ∧
    True ∧
    ((0 : Int) ≤ (↑x : Int) - (1 : Int) ∧ (↑x : Int) - (1 : Int) < (↑(↑l.length : Int).toNat : Int) ∧ (1 : Nat) = (1 : Nat)) ∧
    (((0 : Nat) + ((↑x : Int) - (1 : Int)).toNat < l.length ∧ ([] : List Nat) = [] ∧ true = true) ∧ (1 : Nat) ≠ (0 : Nat) ∧ (1 : Nat) = (1 : Nat) ∧ false = false) ∧
    True ∧
    True ∧
    True ∧
    ((AV.d (D.val (Value.int IntKind.i64 (IntKind.i64.wrap ((↑x : Int) - (1 : Int) - (1 : Int))))) = AV.d (D.val (Value.int IntKind.i64 ((↑(IntKind.i64.wrap ((↑x : Int) - (1 : Int) - (1 : Int)) + (1 : Int)).toNat : Int) - (1 : Int)))) ∧
    AV.d (D.ints IntKind.i64 (trimL (l.getD ((↑x : Int) - (1 : Int)).toNat (0 : Int) :: dg (vB (65536 : Nat) (List.drop x l) % vB (65536 : Nat) m)))) =
    AV.d (D.ints IntKind.i64 (dg (vB (65536 : Nat) (List.drop (IntKind.i64.wrap ((↑x : Int) - (1 : Int) - (1 : Int)) + (1 : Int)).toNat l) % vB (65536 : Nat) m))) ∧
    True) ∧
    (some (Blk.fix (D.arr IntKind.i64 l.length ((List.replicate x (0 : Int) ++ nB (65536 : Nat) (l.length - x) (vB (65536 : Nat) (List.drop x l) / vB (65536 : Nat) m)).set ((0 : Nat) + ((↑x : Int) - (1 : Int)).toNat) (↑x_1.fst : Int)))) =
    some
    (Blk.fix
    (D.arr IntKind.i64 l.length
    (List.replicate (IntKind.i64.wrap ((↑x : Int) - (1 : Int) - (1 : Int)) + (1 : Int)).toNat (0 : Int) ++
    nB (65536 : Nat) (l.length - (IntKind.i64.wrap ((↑x : Int) - (1 : Int) - (1 : Int)) + (1 : Int)).toNat) (vB (65536 : Nat) (List.drop (IntKind.i64.wrap ((↑x : Int) - (1 : Int) - (1 : Int)) + (1 : Int)).toNat l) / vB (65536 : Nat) m)))) ∧
    True) ∧
    true = true) ∧
    (IntKind.i64.wrap ((↑x : Int) - (1 : Int) - (1 : Int)) + (1 : Int)).toNat ≤ l.length ∧ (IntKind.i64.wrap ((↑x : Int) - (1 : Int) - (1 : Int)) + (1 : Int)).toNat < x
 | false =>
  True ∧
  (∃ (l_1 : List Int), [D.ints IntKind.i64 (List.take (↑l.length : Int).toNat (List.drop (0 : Nat) (List.replicate x (0 : Int) ++ nB (65536 : Nat) (l.length - x) (vB (65536 : Nat) (List.drop x l) / vB (65536 : Nat) m))))] = [D.ints IntKind.i64 l_1] ∧ lenOk l_1) ∧
  True ∧
  True ∧ True ∧ (false = false ∧ false = false ∧ True) ∧ D.tup [D.ints IntKind.i64 (trimL (List.take (↑l.length : Int).toNat (List.drop (0 : Nat) (List.replicate x (0 : Int) ++ nB (65536 : Nat) (l.length - x) (vB (65536 : Nat) (List.drop x l) / vB (65536 : Nat) m))))), D.ints IntKind.i64 (dg (vB (65536 : Nat) (List.drop x l) % vB (65536 : Nat) m))] = F) := by kernel_rfl
set_option maxRecDepth 100000 in
theorem vc84  (l m : List Int) (F : D)  :
    (owed c84 (fun _ => none) Try.f84 [dgs l, dgs m] F) = (
 True ∧
 True ∧
 True ∧
 (∃ (l_1 : List Int), ∃ (m_1 : List Int), [D.ints IntKind.i64 l, D.ints IntKind.i64 m] = [D.ints IntKind.i64 l_1, D.ints IntKind.i64 m_1] ∧ (okd l_1 ∧ len1 l_1) ∧ (okd m_1 ∧ len1 m_1) ∧ vB (65536 : Nat) m_1 ≠ (0 : Nat)) ∧
 True ∧ ((0 : Nat) < (2 : Nat) ∧ false = false) ∧ ((1 : Nat) < (2 : Nat) ∧ false = false) ∧ True ∧ True ∧ True ∧ True ∧ (false = false ∧ True) ∧ D.ints IntKind.i64 (dg (vB (65536 : Nat) l % vB (65536 : Nat) m)) = F) := by kernel_rfl
theorem mod_one (X Y M : Nat) (h : X = Y ∨ X = Y + M) (hy : Y < M) : X % M = Y := by
  rcases h with rfl | rfl
  · exact Nat.mod_eq_of_lt hy
  · rw [Nat.add_mod_right, Nat.mod_eq_of_lt hy]
theorem nB_low (b n lo d : Nat) (h : lo < b ^ n) : nB b n (lo + b ^ n * d) = nB b n lo := by
  rw [← nB_mod b n (lo + b ^ n * d), Nat.add_mul_mod_self_left, nB_mod]
theorem len_ok {n k : Nat} (h : n < 65536 ^ k) (hk : k ≤ 65536) : lenS (dg n) ∧ lenOk (dg n) := by
  have := dg_len k n h
  exact ⟨by unfold lenS; omega, by unfold lenOk; omega⟩
theorem vB_dropS (b : Nat) {l : List Int} (i : Nat) (h : i < l.length) : vB b (l.drop i) = (l.getD i 0).toNat + b * vB b (l.drop (i + 1)) := by
  rw [List.drop_eq_getElem_cons h, vB]
  simp [h]
end Go.Proofs.Ytnadggcfdakpoaa
/- QuotTells, part 8: OfWide, Order, Minus, Rest and Common meet. -/
namespace Go.Proofs.Ytnadggcfdakpoaa
open Go Go.Vg

theorem dg_mono {a b : Nat} (h : a ≤ b) : (dg a).length ≤ (dg b).length := by
  have h1 := vB_lt (b := 65536) (dg_ok b)
  rw [vl_dg] at h1
  exact dg_len _ _ (by omega)

theorem vd_split (a i : Nat) : a / 65536 ^ i = 65536 * (a / 65536 ^ (i + 1)) + a / 65536 ^ i % 65536 := by
  rw [Nat.pow_succ, ← Nat.div_div_eq_div_mul, Nat.div_add_mod]

set_option maxRecDepth 100000 in
theorem m65 : Meets Try.prog 65 sp65 := by
  refine meets_of_owed (C := c65) ⟨tab_ok, lkS_ok ⟨m74, trivial⟩⟩ (by kernel_rfl) (by kernel_rfl : Try.prog.funcs[65]? = some Try.f65) (by kernel_rfl) (by kernel_rfl) (by kernel_rfl) _ ?_
  rintro _ ⟨l, m, rfl, ⟨hl, hls⟩, hm, hms⟩
  refine ⟨fun _ => rfl, inv65 l m, ?_⟩
  show owed c65 (inv65 l m) Try.f65 [dgs l, dgs m] (i64 (cmpN (vD l) (vD m)))
  rw [vc65]
  have hls : l.length ≤ 65536 := hls
  have hms : m.length ≤ 65536 := hms
  have hlo : lenOk l := by unfold lenOk; omega
  have hmo : lenOk m := by unfold lenOk; omega
  simp (decide := true) only [eq_self, true_and, and_true, ne_eq, not_false_eq_true, Int.toNat_natCast]
  obtain ⟨k, hk, hk1, hk2⟩ : ∃ k : Nat, (bif decide ((l.length : Int) < (m.length : Int)) then (m.length : Int) else (l.length : Int)) = (k : Int) ∧ l.length ≤ k ∧ m.length ≤ k ∧ k ≤ 65536 := by
    by_cases h : l.length < m.length
    · exact ⟨m.length, by rw [decide_eq_true (by omega), cond_true], by omega, by omega, by omega⟩
    · exact ⟨l.length, by rw [decide_eq_false (by omega), cond_false], by omega, by omega, by omega⟩
  obtain ⟨hk2, hk3⟩ := hk2
  rw [hk, wi (n := (k : Int) - 1) (by omega) (by omega), show (k : Int) - 1 + 1 = (k : Int) by omega]
  simp only [Int.toNat_natCast]
  refine ⟨⟨by omega, by rw [List.drop_of_length_le hk1, List.drop_of_length_le hk2]⟩, ?_⟩
  rintro i ⟨hi, he⟩
  obtain ⟨z, rfl⟩ : ∃ z : Nat, i = (z : Int) - 1 := ⟨(i + 1).toNat, by omega⟩
  rw [show ((z : Int) - 1 + 1) = (z : Int) by omega] at he ⊢
  simp only [Int.toNat_natCast] at he ⊢
  rw [vB_drop hl, vB_drop hm] at he
  split
  · rename_i h
    have h := of_decide_eq_true h
    obtain ⟨u, rfl⟩ : ∃ u, z = u + 1 := ⟨z - 1, by omega⟩
    rw [show ((u + 1 : Nat) : Int) - 1 = (u : Int) by omega, wi (n := (u : Int) - 1) (by omega) (by omega), show ((u : Int) - 1 + 1) = (u : Int) by omega, dig_nat hl, dig_nat hm]
    simp only [Int.toNat_natCast]
    have s1 := vd_split (vB 65536 l) u
    have s2 := vd_split (vB 65536 m) u
    rw [he] at s1
    clear he
    have hdd0 : vB 65536 l / 65536 ^ u = vB 65536 m / 65536 ^ u → vB 65536 (l.drop u) = vB 65536 (m.drop u) := fun h => by rw [vB_drop hl, vB_drop hm, h]
    have lt1 : vB 65536 l / 65536 ^ u < vB 65536 m / 65536 ^ u → vD l < vD m := fun h => Nat.lt_of_div_lt_div (c := 65536 ^ u) h
    have lt2 : vB 65536 m / 65536 ^ u < vB 65536 l / 65536 ^ u → vD m < vD l := fun h => Nat.lt_of_div_lt_div (c := 65536 ^ u) h
    generalize vB 65536 m / 65536 ^ (u + 1) = Q at s1 s2
    generalize vB 65536 l / 65536 ^ u = p at *
    generalize vB 65536 m / 65536 ^ u = q at *
    refine ⟨⟨l, _, rfl, hlo⟩, ⟨m, _, rfl, hmo⟩, ?_⟩
    split
    · rename_i h2
      have h2 := of_decide_eq_true h2
      have := lt1 (by omega)
      unfold cmpN
      rw [if_pos this]
    · rename_i h2
      have h2 := of_decide_eq_false h2
      split
      · rename_i h3
        have h3 := of_decide_eq_true h3
        have := lt2 (by omega)
        unfold cmpN
        rw [if_neg (by omega), if_pos this]
      · rename_i h3
        have h3 := of_decide_eq_false h3
        have hdd := hdd0 (by omega)
        and_intros <;> first | exact hdd | omega | rfl | trivial
  · rename_i h
    have h := of_decide_eq_false h
    obtain rfl : z = 0 := by omega
    rw [Nat.pow_zero, Nat.div_one, Nat.div_one] at he
    have he : vD l = vD m := he
    unfold cmpN
    rw [if_neg (by omega), if_neg (by omega)]

theorem sub_numD (P A C x y d e D : Nat) (hA : A < P) (hC : C < P) (hD : d < D) (hP : 0 < D)
    (hc : (y + bor A C ≤ x ∧ d + y + bor A C = x ∧ e = 0) ∨ (x < y + bor A C ∧ d + y + bor A C = x + D ∧ e = 1)) :
    (A + P * x + P * D - (C + P * y)) % (P * D) = (A + P - C) % P + P * d ∧ bor (A + P * x) (C + P * y) = e := by
  have hb : bor A C ≤ 1 := by unfold bor; split <;> omega
  have hAC : (A < C ∧ bor A C = 1 ∧ (A + P - C) % P = A + P - C) ∨ (C ≤ A ∧ bor A C = 0 ∧ (A + P - C) % P = A - C) := by
    rcases Nat.lt_or_ge A C with h | h
    · exact .inl ⟨h, if_pos h, Nat.mod_eq_of_lt (by omega)⟩
    · exact .inr ⟨h, if_neg (by omega), mod_one _ _ _ (.inr (by omega)) (by omega)⟩
  generalize bor A C = b at hb hAC hc
  have m1x : P * (d + 1) ≤ P * D := Nat.mul_le_mul_left P hD
  rw [Nat.mul_add, Nat.mul_one] at m1x
  have hr : (A + P - C) % P < P := Nat.mod_lt _ (by omega)
  have lin : ∀ u v : Nat, u = v → P * u = P * v := fun u v h => by rw [h]
  have fin : ∀ s t : Nat, (s < t ↔ e = 1) → (e = 0 ∨ e = 1) → bor s t = e := by
    intro s t h1 h2
    unfold bor
    split
    · rename_i h; exact (h1.1 h).symm
    · rename_i h; rcases h2 with h2 | h2
      · exact h2.symm
      · exact absurd (h1.2 h2) h
  rcases hAC with ⟨h1, h2, h3⟩ | ⟨h1, h2, h3⟩ <;> rcases hc with ⟨c1x, c2x, c3x⟩ | ⟨c1x, c2x, c3x⟩
  all_goals
    have q := lin _ _ c2x
    subst h2
    simp only [Nat.mul_add, Nat.mul_one, Nat.mul_zero, Nat.add_zero] at q
    rw [h3] at hr ⊢
    have hB : P ≤ P * D := Nat.le_mul_of_pos_right P hP
    generalize P * D = PB at *
    generalize P * x = Px at *
    generalize P * y = Py at *
    generalize P * d = Pd at *
    refine ⟨mod_one _ _ _ (by omega) (by omega), fin _ _ (by omega) (by omega)⟩

theorem okd_get {l : List Int} (h : okd l) {i : Nat} (hi : i < l.length) : ∃ n : Nat, l.getD i 0 = (n : Int) ∧ n < 65536 := by
  have := h _ (getD_memN hi)
  exact ⟨(l.getD i 0).toNat, by omega, by omega⟩

theorem take_dig {m : List Int} (hm : okd m) (i : Nat) : vB 65536 (m.take (i + 1)) = vB 65536 (m.take i) + 65536 ^ i * (vB 65536 m / 65536 ^ i % 65536) := by
  rw [vB_take hm, vB_take hm, Nat.pow_succ, Nat.mod_mul]

theorem sbD_step {l m : List Int} (hl : okd l) (hm : okd m) {i x : Nat} (hi : i < l.length) (ex : l.getD i 0 = (x : Int)) (hx : x < 65536) :
    (((x : Int) - ((vB 65536 m / 65536 ^ i % 65536 : Nat) : Int) - ((bor (vB 65536 (l.take i)) (vB 65536 (m.take i)) : Nat) : Int) < 0 →
      nB 65536 i (sbD l m i) ++ [(x : Int) - ((vB 65536 m / 65536 ^ i % 65536 : Nat) : Int) - ((bor (vB 65536 (l.take i)) (vB 65536 (m.take i)) : Nat) : Int) + 65536] = nB 65536 (i + 1) (sbD l m (i + 1)) ∧ bor (vB 65536 (l.take (i + 1))) (vB 65536 (m.take (i + 1))) = 1)) ∧
    ((0 ≤ (x : Int) - ((vB 65536 m / 65536 ^ i % 65536 : Nat) : Int) - ((bor (vB 65536 (l.take i)) (vB 65536 (m.take i)) : Nat) : Int) →
      nB 65536 i (sbD l m i) ++ [(x : Int) - ((vB 65536 m / 65536 ^ i % 65536 : Nat) : Int) - ((bor (vB 65536 (l.take i)) (vB 65536 (m.take i)) : Nat) : Int)] = nB 65536 (i + 1) (sbD l m (i + 1)) ∧ bor (vB 65536 (l.take (i + 1))) (vB 65536 (m.take (i + 1))) = 0)) := by
  have e1 := vB_take1 (b := 65536) (l := l) i hi
  rw [ex, Int.toNat_natCast] at e1
  have e2 := take_dig hm i
  have hA := vB_lt (b := 65536) (l := l.take i) fun z hz => hl z (List.mem_of_mem_take hz)
  rw [List.length_take, show min i l.length = i by omega] at hA
  have hC : vB 65536 (m.take i) < 65536 ^ i := by rw [vB_take hm]; exact Nat.mod_lt _ (Nat.pow_pos (by decide))
  have hy : vB 65536 m / 65536 ^ i % 65536 < 65536 := Nat.mod_lt _ (by decide)
  generalize vB 65536 m / 65536 ^ i % 65536 = y at e2 hy ⊢
  have hb : bor (vB 65536 (l.take i)) (vB 65536 (m.take i)) ≤ 1 := by unfold bor; split <;> omega
  have low : ∀ lo d : Nat, lo < 65536 ^ i → d < 65536 → nB 65536 (i + 1) (lo + 65536 ^ i * d) = nB 65536 i lo ++ [((d : Nat) : Int)] := by
    intro lo d h1 h2
    rw [nB_push, nB_low _ _ _ _ h1, Nat.add_mul_div_left _ _ (Nat.pow_pos (by decide)), Nat.div_eq_of_lt h1, Nat.zero_add, Nat.mod_eq_of_lt h2]
  have hlo : sbD l m i < 65536 ^ i := Nat.mod_lt _ (Nat.pow_pos (by decide))
  constructor
  · intro hneg
    obtain ⟨d, hd⟩ : ∃ d : Nat, (x : Int) - (y : Int) - ((bor (vB 65536 (l.take i)) (vB 65536 (m.take i)) : Nat) : Int) + 65536 = (d : Int) := ⟨((x : Int) - (y : Int) - ((bor (vB 65536 (l.take i)) (vB 65536 (m.take i)) : Nat) : Int) + 65536).toNat, by omega⟩
    obtain ⟨n1, n2⟩ := sub_numD (65536 ^ i) _ _ x y d 1 65536 hA hC (by omega) (by decide) (.inr ⟨by omega, by omega, rfl⟩)
    rw [← e1, ← e2] at n1 n2
    refine ⟨?_, n2⟩
    have : sbD l m (i + 1) = sbD l m i + 65536 ^ i * d := by
      unfold sbD
      rw [Nat.pow_succ]
      exact n1
    rw [hd, this, low _ _ hlo (by omega)]
  · intro hpos
    obtain ⟨d, hd⟩ : ∃ d : Nat, (x : Int) - (y : Int) - ((bor (vB 65536 (l.take i)) (vB 65536 (m.take i)) : Nat) : Int) = (d : Int) := ⟨((x : Int) - (y : Int) - ((bor (vB 65536 (l.take i)) (vB 65536 (m.take i)) : Nat) : Int)).toNat, by omega⟩
    obtain ⟨n1, n2⟩ := sub_numD (65536 ^ i) _ _ x y d 0 65536 hA hC (by omega) (by decide) (.inl ⟨by omega, by omega, rfl⟩)
    rw [← e1, ← e2] at n1 n2
    refine ⟨?_, n2⟩
    have : sbD l m (i + 1) = sbD l m i + 65536 ^ i * d := by
      unfold sbD
      rw [Nat.pow_succ]
      exact n1
    rw [hd, this, low _ _ hlo (by omega)]

theorem nB_okd (n v : Nat) : okd (nB 65536 n v) := by
  intro x hx
  induction n generalizing v with
  | zero => cases hx
  | succ n ih =>
    rw [nB, List.mem_cons] at hx
    rcases hx with rfl | hx
    · have := Nat.mod_lt v (y := 65536) (by decide)
      omega
    · exact ih _ hx

set_option maxRecDepth 100000 in
theorem m120 : Meets Try.prog 120 sp120 := by
  refine meets_of_owed (C := c120) ⟨tab_ok, lkS_ok ⟨m74, m125, trivial⟩⟩ (by kernel_rfl) (by kernel_rfl : Try.prog.funcs[120]? = some Try.f120) (by kernel_rfl) (by kernel_rfl) (by kernel_rfl) _ ?_
  rintro _ ⟨l, m, rfl, ⟨hl, hls⟩, ⟨hm, hms⟩, hle⟩
  refine ⟨fun h => (by cases h), inv120 l m, ?_⟩
  show owed c120 (inv120 l m) Try.f120 [dgs l, dgs m] (dgs (dg (vD l - vD m)))
  rw [vc120]
  have hls : l.length ≤ 65536 := hls
  have hms : m.length ≤ 65536 := hms
  have hmo : lenOk m := by unfold lenOk; omega
  simp (decide := true) only [eq_self, true_and, and_true, ne_eq, not_false_eq_true, Int.toNat_natCast, List.length_append, List.length_singleton, nB_length]
  refine ⟨by and_intros <;> first | rfl | omega | trivial, ?_⟩
  intro i hi
  split
  · rename_i h
    have h := of_decide_eq_true h
    obtain ⟨x, ex, hx⟩ := okd_get hl (i := i) (by omega)
    obtain ⟨s1, s2⟩ := sbD_step hl hm (i := i) (by omega) ex hx
    have hy : vB 65536 m / 65536 ^ i % 65536 < 65536 := Nat.mod_lt _ (by decide)
    have hb : bor (vB 65536 (l.take i)) (vB 65536 (m.take i)) ≤ 1 := by unfold bor; split <;> omega
    simp only [Int.toNat_natCast, ex]
    rw [dig_nat hm, show ((i : Int) + 1) = ((i + 1 : Nat) : Int) by omega, wi (n := ((i + 1 : Nat) : Int)) (by omega) (by omega)]
    simp only [Int.toNat_natCast]
    generalize vB 65536 m / 65536 ^ i % 65536 = y at *
    generalize bor (vB 65536 (l.take i)) (vB 65536 (m.take i)) = b at *
    rw [wi (n := (x : Int) - (y : Int)) (by omega) (by omega), wi (n := (x : Int) - (y : Int) - (b : Int)) (by omega) (by omega), wi (n := (x : Int) - (y : Int) - (b : Int) + 65536) (by omega) (by omega)]
    refine ⟨by omega, ⟨m, _, rfl, hmo⟩, ?_⟩
    split
    · rename_i h2
      have h2 := of_decide_eq_true h2
      obtain ⟨t1, t2⟩ := s1 h2
      rw [t1, t2]
      and_intros <;> first | omega | rfl | trivial
    · rename_i h2
      have h2 := of_decide_eq_false h2
      obtain ⟨t1, t2⟩ := s2 (by omega)
      rw [t1, t2]
      and_intros <;> first | omega | rfl | trivial
  · rename_i h
    have h := of_decide_eq_false h
    obtain rfl : i = l.length := by omega
    have hA := vB_lt (b := 65536) hl
    have hle' : vB 65536 m ≤ vB 65536 l := hle
    have e1 : l.take l.length = l := List.take_length
    have e2 : vB 65536 (m.take l.length) = vB 65536 m := by rw [vB_take hm, Nat.mod_eq_of_lt (Nat.lt_of_le_of_lt hle' hA)]
    have e : sbD l m l.length = vD l - vD m := by
      unfold sbD
      rw [e1]
      show (vB 65536 l + 65536 ^ l.length - vB 65536 (m.take l.length)) % 65536 ^ l.length = vB 65536 l - vB 65536 m
      rw [e2]
      generalize 65536 ^ l.length = P at *
      exact mod_one _ _ _ (.inr (by omega)) (by omega)
    rw [e, trim_eq (nB_okd _ _), vB_nB, Nat.mod_eq_of_lt (Nat.lt_of_le_of_lt (Nat.sub_le _ _) hA)]
    refine ⟨⟨_, rfl, by unfold lenOk; rw [nB_length]; omega⟩, rfl⟩

end Go.Proofs.Ytnadggcfdakpoaa
/- QuotTells, part 9: Parts, Rest and Common meet. -/
namespace Go.Proofs.Ytnadggcfdakpoaa
open Go Go.Vg

theorem cmp_le (x y : Nat) : decide (cmpN x y ≤ 0) = decide (x ≤ y) := by
  rw [Bool.eq_iff_iff, decide_eq_true_iff, decide_eq_true_iff]
  unfold cmpN
  split
  · omega
  · split <;> omega

theorem trim_dg {a R : Nat} (ha : a < 65536) : trimL (((a : Nat) : Int) :: dg R) = dg (a + 65536 * R) := by
  have hok : okd (((a : Nat) : Int) :: dg R) := by
    intro x hx
    rcases List.mem_cons.mp hx with rfl | hx
    · omega
    · exact dg_ok R x hx
  rw [trim_eq hok, vB, Int.toNat_natCast, vl_dg]

theorem q_step (n i lo Q : Nat) (hi : i < n) (hlo : lo < 65536) :
    (List.replicate (i + 1) (0 : Int) ++ nB 65536 (n - (i + 1)) Q).set (0 + i) ((lo : Nat) : Int) = List.replicate i 0 ++ nB 65536 (n - i) (65536 * Q + lo) := by
  have e : nB 65536 (n - i) (65536 * Q + lo) = ((lo : Nat) : Int) :: nB 65536 (n - (i + 1)) Q := by
    rw [show n - i = n - (i + 1) + 1 by omega, nB, Nat.mul_add_mod, Nat.mod_eq_of_lt hlo, Nat.mul_add_div (by decide), Nat.div_eq_of_lt hlo]
    rfl
  rw [e, Nat.zero_add, List.replicate_succ', List.append_assoc, List.set_append_right _ _ (by rw [List.length_replicate]; exact Nat.le_refl _), List.length_replicate, Nat.sub_self]
  rfl

theorem pow_up {M k n : Nat} (h : M < 65536 ^ k) (hk : k + 1 ≤ n) : M * 65536 < 65536 ^ n := by
  have h2 : 65536 ^ (k + 1) ≤ 65536 ^ n := Nat.pow_le_pow_right (by decide) hk
  have h3 : M * 65536 < 65536 ^ (k + 1) := by
    rw [Nat.pow_succ]
    exact Nat.mul_lt_mul_of_pos_right h (by decide)
  exact Nat.lt_of_lt_of_le h3 h2
theorem len_dg {n : Nat} (h : n < 65536 ^ 1001) : lenS (dg n) ∧ lenOk (dg n) := len_ok h (by decide)


set_option maxRecDepth 100000 in
theorem m73 : Meets Try.prog 73 sp73 := by
  refine meets_of_owed (C := c73) ⟨tab_ok, lkS_ok ⟨m64, m125, m65, m120, trivial⟩⟩ (by kernel_rfl) (by kernel_rfl : Try.prog.funcs[73]? = some Try.f73) (by kernel_rfl) (by kernel_rfl) (by kernel_rfl) _ ?_
  rintro _ ⟨l, m, rfl, ⟨hl, hll⟩, ⟨hm, hml⟩, hM0⟩
  refine ⟨fun h => (by cases h), inv73 l m, ?_⟩
  show owed c73 (inv73 l m) Try.f73 [dgs l, dgs m] (.tup [dgs (dg (vD l / vD m)), dgs (dg (vD l % vD m))])
  rw [vc73]
  have hll : l.length ≤ 1000 := hll
  have hml : m.length ≤ 1000 := hml
  have hms : lenS m := by unfold lenS; omega
  have hM0 : vB 65536 m ≠ 0 := hM0
  have hMb : vB 65536 m * 65536 < 65536 ^ 1001 := by
    have h1 := vB_lt (b := 65536) hm
    refine pow_up (n := 1001) h1 ?_
    omega
  simp (decide := true) only [eq_self, true_and, and_true, ne_eq, not_false_eq_true, Int.toNat_natCast, vl_dg]
  rw [wi (n := (l.length : Int) - 1) (by omega) (by omega), show (l.length : Int) - 1 + 1 = (l.length : Int) by omega]
  simp only [Int.toNat_natCast]
  refine ⟨by omega, ?_, ?_⟩
  · rw [List.drop_of_length_le (Nat.le_refl _), Nat.sub_self]
    have e : vB 65536 [] = 0 := rfl
    rw [e, Nat.zero_mod, dg_zero]
    simp [nB]
  intro z hz
  split
  · rename_i h
    have h := of_decide_eq_true h
    obtain ⟨i, rfl⟩ : ∃ i, z = i + 1 := ⟨z - 1, by omega⟩
    obtain ⟨a, ea, ha⟩ := okd_get hl (i := i) (by omega)
    have hA := vB_dropS 65536 (l := l) i (by omega)
    rw [ea, Int.toNat_natCast] at hA
    rw [show ((i + 1 : Nat) : Int) - 1 = (i : Int) by omega, wi (n := (i : Int) - 1) (by omega) (by omega), show (i : Int) - 1 + 1 = (i : Int) by omega]
    simp only [Int.toNat_natCast, ea, trim_dg ha, vl_dg]
    have hQ := Nat.div_add_mod (vB 65536 (l.drop (i + 1))) (vB 65536 m)
    have hR := Nat.mod_lt (vB 65536 (l.drop (i + 1))) (y := vB 65536 m) (by omega)
    have hqs := q_step l.length i
    have hRl : (dg (vB 65536 (l.drop (i + 1)) % vB 65536 m)).length ≤ 1001 := dg_len _ _ (by omega)
    generalize vB 65536 (l.drop (i + 1)) / vB 65536 m = Q at *
    generalize vB 65536 (l.drop (i + 1)) % vB 65536 m = R at *
    have hAX : vB 65536 (l.drop i) = vB 65536 m * (65536 * Q) + (a + 65536 * R) := by
      rw [hA, ← hQ, Nat.mul_add, Nat.mul_left_comm]
      omega
    have hdiv : ∀ lo, vB 65536 m * lo ≤ a + 65536 * R → a + 65536 * R < vB 65536 m * (lo + 1) → vB 65536 (l.drop i) / vB 65536 m = 65536 * Q + lo ∧ vB 65536 (l.drop i) % vB 65536 m = a + 65536 * R - vB 65536 m * lo := by
      intro lo h1 h2
      have e : vB 65536 (l.drop i) = vB 65536 m * (65536 * Q + lo) + (a + 65536 * R - vB 65536 m * lo) := by
        rw [hAX, Nat.mul_add (vB 65536 m)]
        omega
      rw [Nat.mul_add, Nat.mul_one] at h2
      have h3 : a + 65536 * R - vB 65536 m * lo < vB 65536 m := by omega
      rw [e]
      exact ⟨by rw [Nat.mul_add_div (by omega), Nat.div_eq_of_lt h3, Nat.add_zero], by rw [Nat.mul_add_mod, Nat.mod_eq_of_lt h3]⟩
    have hXM : a + 65536 * R < vB 65536 m * 65536 := by omega
    have hXb : a + 65536 * R < 65536 ^ 1001 := Nat.lt_trans hXM hMb
    generalize a + 65536 * R = X at *
    have hXl := len_dg hXb
    refine ⟨by omega, by rw [List.length_cons]; omega, ⟨_, rfl, by unfold lenOk; rw [List.length_cons]; omega⟩, ?_, ?_⟩
    · and_intros <;> first | rfl | omega | trivial
    rintro ⟨lo, hi⟩ ⟨⟨hlh, hh⟩, hlo, hhi⟩
    simp only at hlh hh hlo hhi ⊢
    rw [wi (n := (hi : Int) - (lo : Int)) (by omega) (by omega), ← Int.natCast_add, wi (n := ((lo + hi : Nat) : Int)) (by omega) (by omega), show ((lo + hi : Nat) : Int).tdiv 2 = (((lo + hi) / 2 : Nat) : Int) from tdivN (lo + hi) 2, wi (n := (((lo + hi) / 2 : Nat) : Int)) (by omega) (by omega)]
    have one : ∀ d : Nat, vB 65536 [((d : Nat) : Int)] = d := fun d => by simp [vB]
    have okd1 : ∀ d : Nat, d < 65536 → okd [((d : Nat) : Int)] := fun d hd x hx => by rw [List.mem_singleton.mp hx]; omega
    have l1 : ∀ d : Nat, lenS [((d : Nat) : Int)] := fun d => by simp [lenS]
    simp only [Int.toNat_natCast, one, cmp_le]
    split
    · rename_i h2
      have h2 := of_decide_eq_true h2
      have hmid1 : lo < (lo + hi) / 2 := by omega
      have hmid2 : (lo + hi) / 2 < hi := by omega
      generalize (lo + hi) / 2 = mid at *
      have hpre1 : ∃ (l_1 m_1 : List Int), [dgs m, dgs [((mid : Nat) : Int)]] = [dgs l_1, dgs m_1] ∧ (okd l_1 ∧ lenS l_1) ∧ okd m_1 ∧ lenS m_1 := ⟨_, _, rfl, ⟨hm, hms⟩, okd1 mid (by omega), l1 mid⟩
      have hmb : vB 65536 m * mid < 65536 ^ 1001 := by
        have : vB 65536 m * mid ≤ vB 65536 m * 65536 := Nat.mul_le_mul_left _ (by omega)
        exact Nat.lt_of_le_of_lt this hMb
      have hpre2 : ∃ (l_1 m_1 : List Int), [dgs (dg (vB 65536 m * mid)), dgs (dg X)] = [dgs l_1, dgs m_1] ∧ (okd l_1 ∧ lenS l_1) ∧ okd m_1 ∧ lenS m_1 := ⟨_, _, rfl, ⟨dg_ok _, (len_dg hmb).1⟩, dg_ok _, hXl.1⟩
      refine ⟨hpre1, hpre2, ?_⟩
      split
      · rename_i h3
        have h3 := of_decide_eq_true h3
        and_intros <;> first | exact h3 | exact hhi | rfl | omega | trivial
      · rename_i h3
        have h3 := of_decide_eq_false h3
        have h3 : X < vB 65536 m * mid := by omega
        and_intros <;> first | exact h3 | exact hlo | rfl | omega | trivial
    · rename_i h2
      have h2 := of_decide_eq_false h2
      obtain rfl : hi = lo + 1 := by omega
      obtain ⟨d1, d2⟩ := hdiv lo hlo hhi
      have hq := hqs lo Q (by omega) (by omega)
      split
      · rename_i h3
        have h3 := of_decide_eq_true h3
        have hpre1 : ∃ (l_1 m_1 : List Int), [dgs m, dgs [((lo : Nat) : Int)]] = [dgs l_1, dgs m_1] ∧ (okd l_1 ∧ lenS l_1) ∧ okd m_1 ∧ lenS m_1 := ⟨_, _, rfl, ⟨hm, hms⟩, okd1 lo (by omega), l1 lo⟩
        have hpre2 : ∃ (l_1 m_1 : List Int), [dgs (dg X), dgs (dg (vB 65536 m * lo))] = [dgs l_1, dgs m_1] ∧ (okd l_1 ∧ lenS l_1) ∧ (okd m_1 ∧ lenS m_1) ∧ vB 65536 m_1 ≤ vB 65536 l_1 := ⟨_, _, rfl, ⟨dg_ok _, hXl.1⟩, ⟨dg_ok _, (len_dg (Nat.lt_of_le_of_lt hlo hXb)).1⟩, by rw [vl_dg, vl_dg]; exact hlo⟩
        rw [hq, d1, d2]
        and_intros <;> first | exact hpre1 | exact hpre2 | rfl | omega | trivial
      · rename_i h3
        have h3 := of_decide_eq_false h3
        obtain rfl : lo = 0 := by omega
        rw [hq, d1, d2, Nat.mul_zero, Nat.sub_zero]
        and_intros <;> first | rfl | omega | trivial
  · rename_i h
    have h := of_decide_eq_false h
    obtain rfl : z = 0 := by omega
    have hA := vB_lt (b := 65536) hl
    have hlt : vB 65536 l / vB 65536 m < 65536 ^ l.length := Nat.lt_of_le_of_lt (Nat.div_le_self _ _) hA
    have e : List.take l.length (List.drop 0 (List.replicate 0 0 ++ nB 65536 (l.length - 0) (vB 65536 (List.drop 0 l) / vB 65536 m))) = nB 65536 l.length (vB 65536 l / vB 65536 m) := by
      rw [List.replicate_zero, List.nil_append, List.drop_zero, List.drop_zero, Nat.sub_zero, List.take_of_length_le (by rw [nB_length]; exact Nat.le_refl _)]
    rw [e, trim_eq (nB_okd _ _), vB_nB, Nat.mod_eq_of_lt hlt, List.drop_zero]
    exact ⟨⟨_, rfl, by unfold lenOk; rw [nB_length]; omega⟩, rfl⟩

set_option maxRecDepth 100000 in
theorem m84 : Meets Try.prog 84 sp84 := by
  refine meets_of_owed (C := c84) ⟨tab_ok, lkS_ok ⟨m73, trivial⟩⟩ (by kernel_rfl) (by kernel_rfl : Try.prog.funcs[84]? = some Try.f84) (by kernel_rfl) (by kernel_rfl) (by kernel_rfl) _ ?_
  rintro _ ⟨l, m, rfl, hl, hm, h0⟩
  refine ⟨fun h => (by cases h), fun _ => none, ?_⟩
  show owed c84 (fun _ => none) Try.f84 [dgs l, dgs m] (dgs (dg (vD l % vD m)))
  rw [vc84]
  simp (decide := true) only [eq_self, true_and, and_true, ne_eq, not_false_eq_true]
  exact ⟨l, m, rfl, hl, hm, h0⟩

end Go.Proofs.Ytnadggcfdakpoaa
/- package mode: Stream, and the reference's Streamed: specs. -/
namespace Go.Proofs.Ytnadggcfdakpoaa
open Go Go.Vg

def bv (l : List Int) : Nat := vB 256 l.reverse
/-- A block and a number, the greatest byte first. -/
def plL (iv : List Int) (n : Nat) : List Int := (nB 256 16 (bv iv + n)).reverse
def plS (iv : List Int) (n k : Nat) : Nat := vB 256 (iv.reverse.take k) + n % 256 ^ k
def plI (iv : List Int) (n k : Nat) : List Int := iv.take (16 - k) ++ (nB 256 k (plS iv n k)).reverse
def atN (a i : Nat) : Nat := (a + i) % 18446744073709551616
/-- The block that place i is to be mixed with. -/
def stP (w : List Int) (R : Nat) (iv : List Int) (a i : Nat) : List Int := enL w R (plL iv (atN a i / 16))
def pdI (w : List Int) (R : Nat) (iv : List Int) (a i : Nat) : List Int := if i = 0 then z16 else stP w R iv a (i - 1)
def stmL (w : List Int) (R : Nat) (iv : List Int) (a : Nat) (p : List Int) (n : Nat) : List Int :=
  (List.range n).map fun i => ixor .u8 (p.getD i 0) ((stP w R iv a i).getD (atN a i % 16) 0)
def hvI (a i : Nat) : Nat := if i = 0 then 0 else atN a (i - 1) / 16
def lenP (p : List Int) : Prop := p.length ≤ 140737488351232

def sp82 : Go.Vg.Spec := ⟨fun ds => ∃ iv n, ds = [b16 iv, u64n n] ∧ isB 16 iv ∧ n < 18446744073709551616, fun ds => b16 (plL (arrOf (ds.headD default)) (nn (ds.getD 1 default))), true, [38, 22]⟩
def sp21 : Go.Vg.Spec := ⟨fun ds => ∃ w R iv a p, ds = [keyD w ((R : Nat) : Int), b16 iv, u64n a, .ints .u8 p] ∧ isB 240 w ∧ R ≤ 14 ∧ isB 16 iv ∧ a < 18446744073709551616 ∧ okb p ∧ lenP p,
  fun ds => .ints .u8 (stmL (kwL (ds.headD default)) (krI (ds.headD default)).toNat (arrOf (ds.getD 1 default)) (nn (ds.getD 2 default)) (intsOf (ds.getD 3 default)) (intsOf (ds.getD 3 default)).length), false, [42, 38, 22, 25]⟩
def sp22 : Go.Vg.Spec := ⟨fun ds => ∃ W bx ux iv a p, ds = [.ref (cipD W bx ux), b16 iv, u64n a, .str p] ∧ okW W ∧ 4 ≤ W.length ∧ W.length ≤ 60 ∧ okX bx ux ∧ isB 16 iv ∧ a < 18446744073709551616 ∧ okb p ∧ lenP p,
  fun ds => .str (stmL (cwL (ds.headD default)) (cnN (ds.headD default) / 4 - 1) (arrOf (ds.getD 1 default)) (nn (ds.getD 2 default)) (bytesD (ds.getD 3 default)) (bytesD (ds.getD 3 default)).length), true, [45, 38, 22, 9]⟩
def c21 : Ctx := ⟨tab, lkS [(82, sp82), (25, sp25)], [], []⟩
noncomputable def c22 : Ctx := ⟨tab, lkS [(83, sp83), (63, sp63), (64, sp64), (66, sp66), (84, sp84), (73, sp73), (74, sp74), (26, sp26)], [], []⟩
def inv82 (iv : List Int) (n : Nat) : Nat → Option Inv
  | 3 => some ⟨Nat, fun k => [(6, .d (.val (.int .i64 (15 - (k : Int))))), (5, .d (u64n (plS iv n k / 256 ^ k))), (1, .d (u64n (n / 256 ^ k)))], fun k => [(2, .fix (b16 (plI iv n k)))], fun s => (15 - slotN s 6).toNat, fun _ k => k ≤ 16, fun k => 16 - k⟩
  | _ => none
def inv21 (w : List Int) (R : Nat) (iv : List Int) (a : Nat) (p : List Int) : Nat → Option Inv
  | 4 => some ⟨Nat, fun i => [(19, .d (i64n i))], fun i => [(16, .fix (.arr .u8 p.length (stmL w R iv a p i ++ List.replicate (p.length - i) 0))), (10, .fix (b16 (pdI w R iv a i)))], fun s => (slotN s 19).toNat, fun _ i => i ≤ p.length, fun i => p.length - i⟩
  | 100008 => some ⟨Nat, fun _ => [], fun i => [(10, .fix (b16 (stP w R iv a i)))], fun s => (slotN s 11).toNat, fun s i => (i : Int) = slotN s 11, fun _ => 0⟩
  | _ => none
def ivW (iv : List Int) (n : Nat) : Nat := (bv iv + n) % 340282366920938463463374607431768211456
def inv22 (w : List Int) (R : Nat) (iv : List Int) (a : Nat) (p : List Int) : Nat → Option Inv
  | 5 => some ⟨Nat, fun i => [(24, .d (i64n i)), (9, .d (.str (stmL w R iv a p i))), (10, .d (u64n (hvI a i)))], fun i => [(11, .fix (b16 (pdI w R iv a i)))], fun s => (slotN s 24).toNat, fun _ i => i ≤ p.length, fun i => p.length - i⟩
  | 100010 => some ⟨Nat, fun i => [(10, .d (u64n (hvI a (i + 1))))], fun i => [(11, .fix (b16 (stP w R iv a i)))], fun s => (slotN s 12).toNat, fun s i => (i : Int) = slotN s 12, fun _ => 0⟩
  | 14 => some ⟨Nat, fun j => [(46, .d (i64n j)), (16, .d (dgs (dg (bv (iv.take j)))))], fun _ => [], fun s => (slotN s 46).toNat, fun _ j => j ≤ 16, fun j => 16 - j⟩
  | 21 => some ⟨Nat × Nat, fun x => [(20, .d (.val (.int .i64 (15 - (x.1 : Int))))), (16, .d (dgs (dg (ivW iv x.2 / 256 ^ x.1))))], fun x => [(19, .fix (b16 (List.replicate (16 - x.1) 0 ++ (nB 256 x.1 (ivW iv x.2)).reverse)))],
      fun s => ((15 - slotN s 20).toNat, (slotN s 14).toNat), fun s x => x.1 ≤ 16 ∧ (x.2 : Int) = slotN s 14, fun x => 16 - x.1⟩
  | _ => none
--KEEP List.replicate HXor.hXor Go.Vg.eqB Go.Vg.opq boxP Go.Vg.gm Go.Vg.gpw Go.Vg.giv Go.Vg.rl8 Go.Vg.gbx Go.Vg.gux Go.Vg.gcl Go.Vg.gce Go.Vg.gub Go.Vg.gia Go.Vg.boxL Go.Vg.gax Go.Vg.gan Go.Vg.gsb Go.Vg.clm Go.Vg.red pwL okb sbI suI selL s4L adK colL eaL shL usL trL rowL adR mxR flW okW isB z16 enS enL deS deL okX shR usR Go.Vg.chunks z240 prL trn tuL wdL fwS fwL okN kexW kexR kexE boxU
--KEEP Nat.gcd Go.Vg.vB Go.Vg.nB Go.Vg.okd Go.Vg.okw Go.Vg.dg Go.Vg.dig Go.Vg.trimL lenOk lenS len1 bor cmpN sbD dgP bv plL plS plI atN stP pdI stmL hvI ivW lenP
set_option maxRecDepth 100000 in
theorem vc82  (iv : List Int) (n : Nat) (F : D)  :
    (owed c74 (inv82 iv n) Try.f82 [b16 iv, u64n n] F) = (
 (True ∧ false = false) ∧
 (True ∧ (16 : Nat) ≠ (0 : Nat)) ∧
 True ∧
 True ∧
 (((AV.d (D.val (Value.int IntKind.i64 (15 : Int))) = AV.d (D.val (Value.int IntKind.i64 ((15 : Int) - (↑((15 : Int) - (15 : Int)).toNat : Int)))) ∧
 AV.d (D.val (Value.int IntKind.u64 (0 : Int))) = AV.d (D.val (Value.int IntKind.u64 (↑(plS iv n ((15 : Int) - (15 : Int)).toNat / (256 : Nat) ^ ((15 : Int) - (15 : Int)).toNat) : Int))) ∧ AV.d (D.val (Value.int IntKind.u64 (↑n : Int))) = AV.d (D.val (Value.int IntKind.u64 (↑(n / (256 : Nat) ^ ((15 : Int) - (15 : Int)).toNat) : Int))) ∧ True) ∧
 (some (Blk.fix (D.arr IntKind.u8 (16 : Nat) iv)) = some (Blk.fix (D.arr IntKind.u8 (16 : Nat) (plI iv n ((15 : Int) - (15 : Int)).toNat))) ∧
 some (Blk.fix (D.arr IntKind.u8 (16 : Nat) [(0 : Int), (0 : Int), (0 : Int), (0 : Int), (0 : Int), (0 : Int), (0 : Int), (0 : Int), (0 : Int), (0 : Int), (0 : Int), (0 : Int), (0 : Int), (0 : Int), (0 : Int), (0 : Int)])) =
 some (Blk.fix (D.arr IntKind.u8 (16 : Nat) [(0 : Int), (0 : Int), (0 : Int), (0 : Int), (0 : Int), (0 : Int), (0 : Int), (0 : Int), (0 : Int), (0 : Int), (0 : Int), (0 : Int), (0 : Int), (0 : Int), (0 : Int), (0 : Int)])) ∧
 True) ∧
 true = true) ∧
 ((15 : Int) - (15 : Int)).toNat ≤ (16 : Nat)) ∧
 ∀ (x : Nat),
 x ≤ (16 : Nat) →
 true = true ∧
 True ∧
 True ∧
 match decide ((15 : Int) - (↑x : Int) ≥ (0 : Int)) with
 | true =>
  True ∧
  True ∧
  ((0 : Int) ≤ (15 : Int) - (↑x : Int) ∧ (15 : Int) - (↑x : Int) < (↑(16 : Nat) : Int) ∧ (16 : Nat) = (16 : Nat) ∧ (1 : Nat) = (1 : Nat)) ∧
  ((1 : Nat) ≠ (0 : Nat) ∧ (1 : Nat) = (1 : Nat) ∧ false = false) ∧
  True ∧
  True ∧
  True ∧
  True ∧
  True ∧
  True ∧
  True ∧
  True ∧
  True ∧
  ((0 : Int) ≤ (15 : Int) - (↑x : Int) ∧ (15 : Int) - (↑x : Int) < (↑(16 : Nat) : Int) ∧ (16 : Nat) = (16 : Nat) ∧ (1 : Nat) = (1 : Nat)) ∧
  ((((15 : Int) - (↑x : Int)).toNat < (16 : Nat) ∧ ([] : List Nat) = [] ∧ true = true) ∧ (1 : Nat) ≠ (0 : Nat) ∧ (1 : Nat) = (1 : Nat) ∧ false = false) ∧
  True ∧
  (0 : Int) ≤ (8 : Int) ∧
  True ∧
  True ∧
  (0 : Int) ≤ (8 : Int) ∧
  True ∧
  True ∧
  True ∧
  True ∧
  ((AV.d (D.val (Value.int IntKind.i64 (IntKind.i64.wrap ((15 : Int) - (↑x : Int) - (1 : Int))))) = AV.d (D.val (Value.int IntKind.i64 ((15 : Int) - (↑((15 : Int) - IntKind.i64.wrap ((15 : Int) - (↑x : Int) - (1 : Int))).toNat : Int)))) ∧
  AV.d (D.val (Value.int IntKind.u64 (ishr IntKind.u64 (IntKind.u64.wrap ((↑(plS iv n x / (256 : Nat) ^ x) : Int) + IntKind.u64.wrap (IntKind.u64.wrap ((plI iv n x).getD ((15 : Int) - (↑x : Int)).toNat (0 : Int)) + iand IntKind.u64 (↑(n / (256 : Nat) ^ x) : Int) (255 : Int)))) (8 : Int)))) =
  AV.d (D.val (Value.int IntKind.u64 (↑(plS iv n ((15 : Int) - IntKind.i64.wrap ((15 : Int) - (↑x : Int) - (1 : Int))).toNat / (256 : Nat) ^ ((15 : Int) - IntKind.i64.wrap ((15 : Int) - (↑x : Int) - (1 : Int))).toNat) : Int))) ∧
  AV.d (D.val (Value.int IntKind.u64 (ishr IntKind.u64 (↑(n / (256 : Nat) ^ x) : Int) (8 : Int)))) = AV.d (D.val (Value.int IntKind.u64 (↑(n / (256 : Nat) ^ ((15 : Int) - IntKind.i64.wrap ((15 : Int) - (↑x : Int) - (1 : Int))).toNat) : Int))) ∧ True) ∧
  (some
  (Blk.fix
  (D.arr IntKind.u8 (16 : Nat)
  ((plI iv n x).set ((15 : Int) - (↑x : Int)).toNat (IntKind.u8.wrap (IntKind.u64.wrap ((↑(plS iv n x / (256 : Nat) ^ x) : Int) + IntKind.u64.wrap (IntKind.u64.wrap ((plI iv n x).getD ((15 : Int) - (↑x : Int)).toNat (0 : Int)) + iand IntKind.u64 (↑(n / (256 : Nat) ^ x) : Int) (255 : Int)))))))) =
  some (Blk.fix (D.arr IntKind.u8 (16 : Nat) (plI iv n ((15 : Int) - IntKind.i64.wrap ((15 : Int) - (↑x : Int) - (1 : Int))).toNat))) ∧
  some (Blk.fix (D.arr IntKind.u8 (16 : Nat) [(0 : Int), (0 : Int), (0 : Int), (0 : Int), (0 : Int), (0 : Int), (0 : Int), (0 : Int), (0 : Int), (0 : Int), (0 : Int), (0 : Int), (0 : Int), (0 : Int), (0 : Int), (0 : Int)])) =
  some (Blk.fix (D.arr IntKind.u8 (16 : Nat) [(0 : Int), (0 : Int), (0 : Int), (0 : Int), (0 : Int), (0 : Int), (0 : Int), (0 : Int), (0 : Int), (0 : Int), (0 : Int), (0 : Int), (0 : Int), (0 : Int), (0 : Int), (0 : Int)])) ∧
  True) ∧
  true = true) ∧
  ((15 : Int) - IntKind.i64.wrap ((15 : Int) - (↑x : Int) - (1 : Int))).toNat ≤ (16 : Nat) ∧ (16 : Nat) - ((15 : Int) - IntKind.i64.wrap ((15 : Int) - (↑x : Int) - (1 : Int))).toNat < (16 : Nat) - x
 | false => ((16 : Nat) ≠ (0 : Nat) ∧ (16 : Nat) = (16 : Nat) ∧ true = true) ∧ (Sk.arr (16 : Nat) = Sk.arr (16 : Nat) ∧ (16 : Nat) ≠ (0 : Nat) ∧ (16 : Nat) = (16 : Nat) ∧ false = false) ∧ (((16 : Nat) ≠ (0 : Nat) ∧ (16 : Nat) = (16 : Nat) ∧ true = true) ∧ True) ∧ D.arr IntKind.u8 (16 : Nat) (plI iv n x) = F) := by kernel_rfl
set_option maxRecDepth 100000 in
theorem vc21  (w : List Int) (R : Nat) (iv : List Int) (a : Nat) (p : List Int) (F : D)  :
    (owed c21 (inv21 w R iv a p) Try.f21 [keyD w ((R : Nat) : Int), b16 iv, u64n a, .ints .u8 p] F) = (
 (True ∧ false = false) ∧
 (True ∧ false = false) ∧
 True ∧
 True ∧
 True ∧
 ((0 : Int) ≤ (↑p.length : Int) ∧ (↑p.length : Int) = (↑p.length : Int) ∧ (↑p.length : Int) ≤ (281474976710656 : Int) ∧ (↑(1 : Nat) : Int) * (↑p.length : Int) ≤ (281474976710656 : Int) ∧ (1 : Nat) = (1 : Nat)) ∧
 True ∧
 (True ∧ (16 : Nat) ≠ (0 : Nat)) ∧
 True ∧
 True ∧
 True ∧
 (((AV.d (D.val (Value.int IntKind.i64 (0 : Int))) = AV.d (D.val (Value.int IntKind.i64 (↑(Int.toNat (0 : Int)) : Int))) ∧ True) ∧
 (some (Blk.fix (D.st [D.arr IntKind.u8 (240 : Nat) w, D.val (Value.int IntKind.i64 (↑R : Int))])) = some (Blk.fix (D.st [D.arr IntKind.u8 (240 : Nat) w, D.val (Value.int IntKind.i64 (↑R : Int))])) ∧
 some (Blk.fix (D.arr IntKind.u8 (16 : Nat) iv)) = some (Blk.fix (D.arr IntKind.u8 (16 : Nat) iv)) ∧
 some (Blk.fix (D.arr IntKind.u8 (16 : Nat) [(0 : Int), (0 : Int), (0 : Int), (0 : Int), (0 : Int), (0 : Int), (0 : Int), (0 : Int), (0 : Int), (0 : Int), (0 : Int), (0 : Int), (0 : Int), (0 : Int), (0 : Int), (0 : Int)])) = some (Blk.fix (D.arr IntKind.u8 (16 : Nat) (pdI w R iv a (Int.toNat (0 : Int))))) ∧
 some (Blk.fix (D.arr IntKind.u8 (↑p.length : Int).toNat (List.replicate (↑p.length : Int).toNat (0 : Int)))) = some (Blk.fix (D.arr IntKind.u8 p.length (stmL w R iv a p (Int.toNat (0 : Int)) ++ List.replicate (p.length - Int.toNat (0 : Int)) (0 : Int)))) ∧ True) ∧
 true = true) ∧
 Int.toNat (0 : Int) ≤ p.length) ∧
 ∀ (x : Nat),
 x ≤ p.length →
 true = true ∧
 True ∧
 match decide ((↑x : Int) < (↑p.length : Int)) with
 | true =>
  True ∧
  ((0 : Int) ≤ (↑x : Int) ∧ (↑x : Int) < (↑p.length : Int) ∧ (1 : Nat) = (1 : Nat)) ∧
  ((1 : Nat) ≠ (0 : Nat) ∧ (1 : Nat) = (1 : Nat) ∧ false = false) ∧
  True ∧
  True ∧
  True ∧
  True ∧
  True ∧
  True ∧
  True ∧
  True ∧
  True ∧
  True ∧
  match (↑x : Int) == (0 : Int) with
  | true =>
   True ∧
   (((241 : Nat) ≠ (0 : Nat) ∧ (241 : Nat) = (241 : Nat) ∧ true = true) ∧
   ((16 : Nat) ≠ (0 : Nat) ∧ (16 : Nat) = (16 : Nat) ∧ true = true) ∧
   True ∧
   (16 : Int) ≠ (0 : Int) ∧
   (∃ (iv_1 : List Int),
   ∃ (n : Nat), [D.arr IntKind.u8 (16 : Nat) iv, D.val (Value.int IntKind.u64 (IntKind.u64.wrap ((IntKind.u64.wrap ((↑a : Int) + IntKind.u64.wrap (↑x : Int))).tdiv (16 : Int))))] = [D.arr IntKind.u8 (16 : Nat) iv_1, D.val (Value.int IntKind.u64 (↑n : Int))] ∧ isB (16 : Nat) iv_1 ∧ n < (18446744073709551616 : Nat)) ∧
   (∃ (w_1 : List Int),
   ∃ (R_1 : Nat),
   ∃ (b : List Int),
   [D.st [D.arr IntKind.u8 (240 : Nat) w, D.val (Value.int IntKind.i64 (↑R : Int))], D.arr IntKind.u8 (16 : Nat) (plL iv (IntKind.u64.wrap ((IntKind.u64.wrap ((↑a : Int) + IntKind.u64.wrap (↑x : Int))).tdiv (16 : Int))).toNat)] =
   [D.st [D.arr IntKind.u8 (240 : Nat) w_1, D.val (Value.int IntKind.i64 (↑R_1 : Int))], D.arr IntKind.u8 (16 : Nat) b] ∧
   isB (240 : Nat) w_1 ∧ isB (16 : Nat) b ∧ R_1 ≤ (14 : Nat)) ∧
   (Sk.arr (16 : Nat) = Sk.arr (16 : Nat) ∧ (16 : Nat) ≠ (0 : Nat) ∧ (16 : Nat) = (16 : Nat) ∧ false = false) ∧
   (True ∧
   (some (Blk.fix (D.st [D.arr IntKind.u8 (240 : Nat) w, D.val (Value.int IntKind.i64 (↑R : Int))])) = some (Blk.fix (D.st [D.arr IntKind.u8 (240 : Nat) w, D.val (Value.int IntKind.i64 (↑R : Int))])) ∧
   some (Blk.fix (D.arr IntKind.u8 (16 : Nat) iv)) = some (Blk.fix (D.arr IntKind.u8 (16 : Nat) iv)) ∧
   some (Blk.fix (D.arr IntKind.u8 (16 : Nat) (enL w (↑R : Int).toNat (plL iv (IntKind.u64.wrap ((IntKind.u64.wrap ((↑a : Int) + IntKind.u64.wrap (↑x : Int))).tdiv (16 : Int))).toNat)))) = some (Blk.fix (D.arr IntKind.u8 (16 : Nat) (stP w R iv a (↑x : Int).toNat))) ∧
   some (Blk.fix (D.arr IntKind.u8 p.length (stmL w R iv a p x ++ List.replicate (p.length - x) (0 : Int)))) = some (Blk.fix (D.arr IntKind.u8 p.length (stmL w R iv a p x ++ List.replicate (p.length - x) (0 : Int)))) ∧ True) ∧
   true = true) ∧
   (↑(↑x : Int).toNat : Int) = (↑x : Int)) ∧
   ∀ (z : Nat),
   (↑z : Int) = (↑x : Int) →
   true = true ∧
   True ∧
   True ∧
   True ∧
   True ∧
   (16 : Int) ≠ (0 : Int) ∧
   ((0 : Int) ≤ (IntKind.u64.wrap ((↑a : Int) + IntKind.u64.wrap (↑x : Int))).tmod (16 : Int) ∧ (IntKind.u64.wrap ((↑a : Int) + IntKind.u64.wrap (↑x : Int))).tmod (16 : Int) < (↑(16 : Nat) : Int) ∧ (16 : Nat) = (16 : Nat) ∧ (1 : Nat) = (1 : Nat)) ∧
   ((1 : Nat) ≠ (0 : Nat) ∧ (1 : Nat) = (1 : Nat) ∧ false = false) ∧
   True ∧
   ((0 : Int) ≤ (↑x : Int) ∧ (↑x : Int) < (↑(↑p.length : Int).toNat : Int) ∧ (1 : Nat) = (1 : Nat)) ∧
   (((0 : Nat) + (↑x : Int).toNat < p.length ∧ ([] : List Nat) = [] ∧ true = true) ∧ (1 : Nat) ≠ (0 : Nat) ∧ (1 : Nat) = (1 : Nat) ∧ false = false) ∧
   True ∧
   True ∧
   ((AV.d (D.val (Value.int IntKind.i64 (IntKind.i64.wrap ((↑x : Int) + (1 : Int))))) = AV.d (D.val (Value.int IntKind.i64 (↑(IntKind.i64.wrap ((↑x : Int) + (1 : Int))).toNat : Int))) ∧ True) ∧
   (some (Blk.fix (D.st [D.arr IntKind.u8 (240 : Nat) w, D.val (Value.int IntKind.i64 (↑R : Int))])) = some (Blk.fix (D.st [D.arr IntKind.u8 (240 : Nat) w, D.val (Value.int IntKind.i64 (↑R : Int))])) ∧
   some (Blk.fix (D.arr IntKind.u8 (16 : Nat) iv)) = some (Blk.fix (D.arr IntKind.u8 (16 : Nat) iv)) ∧
   some (Blk.fix (D.arr IntKind.u8 (16 : Nat) (stP w R iv a z))) = some (Blk.fix (D.arr IntKind.u8 (16 : Nat) (pdI w R iv a (IntKind.i64.wrap ((↑x : Int) + (1 : Int))).toNat))) ∧
   some
   (Blk.fix
   (D.arr IntKind.u8 p.length
   ((stmL w R iv a p x ++ List.replicate (p.length - x) (0 : Int)).set ((0 : Nat) + (↑x : Int).toNat) (ixor IntKind.u8 (p.getD (↑x : Int).toNat (0 : Int)) ((stP w R iv a z).getD ((IntKind.u64.wrap ((↑a : Int) + IntKind.u64.wrap (↑x : Int))).tmod (16 : Int)).toNat (0 : Int)))))) =
   some (Blk.fix (D.arr IntKind.u8 p.length (stmL w R iv a p (IntKind.i64.wrap ((↑x : Int) + (1 : Int))).toNat ++ List.replicate (p.length - (IntKind.i64.wrap ((↑x : Int) + (1 : Int))).toNat) (0 : Int)))) ∧
   True) ∧
   true = true) ∧
   (IntKind.i64.wrap ((↑x : Int) + (1 : Int))).toNat ≤ p.length ∧ p.length - (IntKind.i64.wrap ((↑x : Int) + (1 : Int))).toNat < p.length - x
  | false =>
   True ∧
   (16 : Int) ≠ (0 : Int) ∧
   True ∧
   True ∧
   (match (IntKind.u64.wrap ((↑a : Int) + IntKind.u64.wrap (↑x : Int))).tmod (16 : Int) == (0 : Int) with
   | true =>
    ((241 : Nat) ≠ (0 : Nat) ∧ (241 : Nat) = (241 : Nat) ∧ true = true) ∧
    ((16 : Nat) ≠ (0 : Nat) ∧ (16 : Nat) = (16 : Nat) ∧ true = true) ∧
    True ∧
    (16 : Int) ≠ (0 : Int) ∧
    (∃ (iv_1 : List Int),
    ∃ (n : Nat),
    [D.arr IntKind.u8 (16 : Nat) iv, D.val (Value.int IntKind.u64 (IntKind.u64.wrap ((IntKind.u64.wrap ((↑a : Int) + IntKind.u64.wrap (↑x : Int))).tdiv (16 : Int))))] = [D.arr IntKind.u8 (16 : Nat) iv_1, D.val (Value.int IntKind.u64 (↑n : Int))] ∧ isB (16 : Nat) iv_1 ∧ n < (18446744073709551616 : Nat)) ∧
    (∃ (w_1 : List Int),
    ∃ (R_1 : Nat),
    ∃ (b : List Int),
    [D.st [D.arr IntKind.u8 (240 : Nat) w, D.val (Value.int IntKind.i64 (↑R : Int))], D.arr IntKind.u8 (16 : Nat) (plL iv (IntKind.u64.wrap ((IntKind.u64.wrap ((↑a : Int) + IntKind.u64.wrap (↑x : Int))).tdiv (16 : Int))).toNat)] =
    [D.st [D.arr IntKind.u8 (240 : Nat) w_1, D.val (Value.int IntKind.i64 (↑R_1 : Int))], D.arr IntKind.u8 (16 : Nat) b] ∧
    isB (240 : Nat) w_1 ∧ isB (16 : Nat) b ∧ R_1 ≤ (14 : Nat)) ∧
    (Sk.arr (16 : Nat) = Sk.arr (16 : Nat) ∧ (16 : Nat) ≠ (0 : Nat) ∧ (16 : Nat) = (16 : Nat) ∧ false = false) ∧
    (True ∧
    (some (Blk.fix (D.st [D.arr IntKind.u8 (240 : Nat) w, D.val (Value.int IntKind.i64 (↑R : Int))])) = some (Blk.fix (D.st [D.arr IntKind.u8 (240 : Nat) w, D.val (Value.int IntKind.i64 (↑R : Int))])) ∧
    some (Blk.fix (D.arr IntKind.u8 (16 : Nat) iv)) = some (Blk.fix (D.arr IntKind.u8 (16 : Nat) iv)) ∧
    some (Blk.fix (D.arr IntKind.u8 (16 : Nat) (enL w (↑R : Int).toNat (plL iv (IntKind.u64.wrap ((IntKind.u64.wrap ((↑a : Int) + IntKind.u64.wrap (↑x : Int))).tdiv (16 : Int))).toNat)))) = some (Blk.fix (D.arr IntKind.u8 (16 : Nat) (stP w R iv a (↑x : Int).toNat))) ∧
    some (Blk.fix (D.arr IntKind.u8 p.length (stmL w R iv a p x ++ List.replicate (p.length - x) (0 : Int)))) = some (Blk.fix (D.arr IntKind.u8 p.length (stmL w R iv a p x ++ List.replicate (p.length - x) (0 : Int)))) ∧ True) ∧
    true = true) ∧
    (↑(↑x : Int).toNat : Int) = (↑x : Int)
   | false =>
    (True ∧
    (some (Blk.fix (D.st [D.arr IntKind.u8 (240 : Nat) w, D.val (Value.int IntKind.i64 (↑R : Int))])) = some (Blk.fix (D.st [D.arr IntKind.u8 (240 : Nat) w, D.val (Value.int IntKind.i64 (↑R : Int))])) ∧
    some (Blk.fix (D.arr IntKind.u8 (16 : Nat) iv)) = some (Blk.fix (D.arr IntKind.u8 (16 : Nat) iv)) ∧
    some (Blk.fix (D.arr IntKind.u8 (16 : Nat) (pdI w R iv a x))) = some (Blk.fix (D.arr IntKind.u8 (16 : Nat) (stP w R iv a (↑x : Int).toNat))) ∧
    some (Blk.fix (D.arr IntKind.u8 p.length (stmL w R iv a p x ++ List.replicate (p.length - x) (0 : Int)))) = some (Blk.fix (D.arr IntKind.u8 p.length (stmL w R iv a p x ++ List.replicate (p.length - x) (0 : Int)))) ∧ True) ∧
    true = true) ∧
    (↑(↑x : Int).toNat : Int) = (↑x : Int)) ∧
    ∀ (z : Nat),
    (↑z : Int) = (↑x : Int) →
    true = true ∧
    True ∧
    True ∧
    True ∧
    True ∧
    (16 : Int) ≠ (0 : Int) ∧
    ((0 : Int) ≤ (IntKind.u64.wrap ((↑a : Int) + IntKind.u64.wrap (↑x : Int))).tmod (16 : Int) ∧ (IntKind.u64.wrap ((↑a : Int) + IntKind.u64.wrap (↑x : Int))).tmod (16 : Int) < (↑(16 : Nat) : Int) ∧ (16 : Nat) = (16 : Nat) ∧ (1 : Nat) = (1 : Nat)) ∧
    ((1 : Nat) ≠ (0 : Nat) ∧ (1 : Nat) = (1 : Nat) ∧ false = false) ∧
    True ∧
    ((0 : Int) ≤ (↑x : Int) ∧ (↑x : Int) < (↑(↑p.length : Int).toNat : Int) ∧ (1 : Nat) = (1 : Nat)) ∧
    (((0 : Nat) + (↑x : Int).toNat < p.length ∧ ([] : List Nat) = [] ∧ true = true) ∧ (1 : Nat) ≠ (0 : Nat) ∧ (1 : Nat) = (1 : Nat) ∧ false = false) ∧
    True ∧
    True ∧
    ((AV.d (D.val (Value.int IntKind.i64 (IntKind.i64.wrap ((↑x : Int) + (1 : Int))))) = AV.d (D.val (Value.int IntKind.i64 (↑(IntKind.i64.wrap ((↑x : Int) + (1 : Int))).toNat : Int))) ∧ True) ∧
    (some (Blk.fix (D.st [D.arr IntKind.u8 (240 : Nat) w, D.val (Value.int IntKind.i64 (↑R : Int))])) = some (Blk.fix (D.st [D.arr IntKind.u8 (240 : Nat) w, D.val (Value.int IntKind.i64 (↑R : Int))])) ∧
    some (Blk.fix (D.arr IntKind.u8 (16 : Nat) iv)) = some (Blk.fix (D.arr IntKind.u8 (16 : Nat) iv)) ∧
    some (Blk.fix (D.arr IntKind.u8 (16 : Nat) (stP w R iv a z))) = some (Blk.fix (D.arr IntKind.u8 (16 : Nat) (pdI w R iv a (IntKind.i64.wrap ((↑x : Int) + (1 : Int))).toNat))) ∧
    some
    (Blk.fix
    (D.arr IntKind.u8 p.length
    ((stmL w R iv a p x ++ List.replicate (p.length - x) (0 : Int)).set ((0 : Nat) + (↑x : Int).toNat)
    (ixor IntKind.u8 (p.getD (↑x : Int).toNat (0 : Int)) ((stP w R iv a z).getD ((IntKind.u64.wrap ((↑a : Int) + IntKind.u64.wrap (↑x : Int))).tmod (16 : Int)).toNat (0 : Int)))))) =
    some (Blk.fix (D.arr IntKind.u8 p.length (stmL w R iv a p (IntKind.i64.wrap ((↑x : Int) + (1 : Int))).toNat ++ List.replicate (p.length - (IntKind.i64.wrap ((↑x : Int) + (1 : Int))).toNat) (0 : Int)))) ∧
    True) ∧
    true = true) ∧
    (IntKind.i64.wrap ((↑x : Int) + (1 : Int))).toNat ≤ p.length ∧ p.length - (IntKind.i64.wrap ((↑x : Int) + (1 : Int))).toNat < p.length - x
 | false => True ∧ True ∧ (false = false ∧ True) ∧ D.ints IntKind.u8 (List.take (↑p.length : Int).toNat (List.drop (0 : Nat) (stmL w R iv a p x ++ List.replicate (p.length - x) (0 : Int)))) = F) := by kernel_rfl
set_option maxRecDepth 100000 in
theorem vc22  (W : List D) (bx ux iv : List Int) (a : Nat) (p : List Int) (F : D)  :
    (owed c22 (inv22 (flW W) (W.length / 4 - 1) iv a p) Try.f22 [.ref (cipD W bx ux), b16 iv, u64n a, .str p] F) = (
 (True ∧ false = false) ∧
 True ∧
 True ∧
 True ∧
 (True ∧ (16 : Nat) ≠ (0 : Nat)) ∧
 True ∧
 True ∧
 True ∧
 (((AV.d (D.val (Value.int IntKind.i64 (0 : Int))) = AV.d (D.val (Value.int IntKind.i64 (↑(Int.toNat (0 : Int)) : Int))) ∧
 AV.d (D.str (ints { data := { toList := [] } })) = AV.d (D.str (stmL (flW W) (W.length / (4 : Nat) - (1 : Nat)) iv a p (Int.toNat (0 : Int)))) ∧ AV.d (D.val (Value.int IntKind.u64 (0 : Int))) = AV.d (D.val (Value.int IntKind.u64 (↑(hvI a (Int.toNat (0 : Int))) : Int))) ∧ True) ∧
 (some (Blk.fix (D.arr IntKind.u8 (16 : Nat) iv)) = some (Blk.fix (D.arr IntKind.u8 (16 : Nat) iv)) ∧
 some (Blk.fix (D.arr IntKind.u8 (16 : Nat) [(0 : Int), (0 : Int), (0 : Int), (0 : Int), (0 : Int), (0 : Int), (0 : Int), (0 : Int), (0 : Int), (0 : Int), (0 : Int), (0 : Int), (0 : Int), (0 : Int), (0 : Int), (0 : Int)])) = some (Blk.fix (D.arr IntKind.u8 (16 : Nat) (pdI (flW W) (W.length / (4 : Nat) - (1 : Nat)) iv a (Int.toNat (0 : Int))))) ∧ True) ∧
 true = true) ∧
 Int.toNat (0 : Int) ≤ p.length) ∧
 ∀ (x : Nat),
 x ≤ p.length →
 true = true ∧
 True ∧
 match decide ((↑x : Int) < (↑p.length : Int)) with
 | true =>
  True ∧
  True ∧
  True ∧
  True ∧
  True ∧
  True ∧
  True ∧
  True ∧
  (16 : Int) ≠ (0 : Int) ∧
  True ∧
  True ∧
  True ∧
  True ∧
  match (↑x : Int) == (0 : Int) with
  | true =>
   True ∧
   (True ∧
   True ∧
   True ∧
   ((1 : Nat) = (1 : Nat) ∧ (1 : Nat) ≤ (4096 : Nat)) ∧
   (∃ (l : List Int), [D.ints IntKind.u64 [IntKind.u64.wrap ((IntKind.u64.wrap ((↑a : Int) + IntKind.u64.wrap (↑x : Int))).tdiv (16 : Int))]] = [D.ints IntKind.u64 l] ∧ okw l ∧ l.length ≤ (100 : Nat)) ∧
   (∃ (l : List Int), ∃ (m : List Int), [D.ints IntKind.i64 (dg (vB (18446744073709551616 : Nat) [IntKind.u64.wrap ((IntKind.u64.wrap ((↑a : Int) + IntKind.u64.wrap (↑x : Int))).tdiv (16 : Int))])), D.ints IntKind.i64 []] = [D.ints IntKind.i64 l, D.ints IntKind.i64 m] ∧ (okd l ∧ lenS l) ∧ okd m ∧ lenS m) ∧
   True ∧
   True ∧
   ((16 : Nat) ≠ (0 : Nat) ∧ (16 : Nat) = (16 : Nat) ∧ true = true) ∧
   True ∧
   (((AV.d (D.val (Value.int IntKind.i64 (0 : Int))) = AV.d (D.val (Value.int IntKind.i64 (↑(Int.toNat (0 : Int)) : Int))) ∧ dg (bv (List.take (Int.toNat (0 : Int)) iv)) = [] ∧ True) ∧
   (some (Blk.fix (D.arr IntKind.u8 (16 : Nat) iv)) = some (Blk.fix (D.arr IntKind.u8 (16 : Nat) iv)) ∧
   some (Blk.fix (D.arr IntKind.u8 (16 : Nat) (pdI (flW W) (W.length / (4 : Nat) - (1 : Nat)) iv a x))) = some (Blk.fix (D.arr IntKind.u8 (16 : Nat) (pdI (flW W) (W.length / (4 : Nat) - (1 : Nat)) iv a x))) ∧ True) ∧
   true = true) ∧
   Int.toNat (0 : Int) ≤ (16 : Nat)) ∧
   ∀ (x_1 : Nat),
   x_1 ≤ (16 : Nat) →
   true = true ∧
   True ∧
   match decide ((↑x_1 : Int) < (16 : Int)) with
   | true =>
    ((0 : Int) ≤ (↑x_1 : Int) ∧ (↑x_1 : Int) < (↑(16 : Nat) : Int) ∧ (16 : Nat) = (16 : Nat) ∧ Ty.int IntKind.u8 = Ty.int IntKind.u8 ∧ (1 : Nat) = (1 : Nat)) ∧
    True ∧
    True ∧
    ((1 : Nat) = (1 : Nat) ∧ (1 : Nat) ≤ (4096 : Nat)) ∧
    (∃ (l : List Int), ∃ (m : List Int), [D.ints IntKind.i64 (dg (bv (List.take x_1 iv))), D.ints IntKind.i64 [(256 : Int)]] = [D.ints IntKind.i64 l, D.ints IntKind.i64 m] ∧ (okd l ∧ lenS l) ∧ okd m ∧ lenS m) ∧
    True ∧
    True ∧
    ((1 : Nat) = (1 : Nat) ∧ (1 : Nat) ≤ (4096 : Nat)) ∧
    (∃ (l : List Int),
    ∃ (m : List Int),
    [D.ints IntKind.i64 (dg (vB (65536 : Nat) (dg (bv (List.take x_1 iv))) * vB (65536 : Nat) [(256 : Int)])), D.ints IntKind.i64 [IntKind.i64.wrap (iv.getD (↑x_1 : Int).toNat (0 : Int))]] = [D.ints IntKind.i64 l, D.ints IntKind.i64 m] ∧ (okd l ∧ lenS l) ∧ okd m ∧ lenS m) ∧
    True ∧
    True ∧
    True ∧
    ((AV.d (D.val (Value.int IntKind.i64 (IntKind.i64.wrap ((↑x_1 : Int) + (1 : Int))))) = AV.d (D.val (Value.int IntKind.i64 (↑(IntKind.i64.wrap ((↑x_1 : Int) + (1 : Int))).toNat : Int))) ∧
    AV.d (D.ints IntKind.i64 (dg (vB (65536 : Nat) (dg (vB (65536 : Nat) (dg (bv (List.take x_1 iv))) * vB (65536 : Nat) [(256 : Int)])) + vB (65536 : Nat) [IntKind.i64.wrap (iv.getD (↑x_1 : Int).toNat (0 : Int))]))) =
    AV.d (D.ints IntKind.i64 (dg (bv (List.take (IntKind.i64.wrap ((↑x_1 : Int) + (1 : Int))).toNat iv)))) ∧
    True) ∧
    (some (Blk.fix (D.arr IntKind.u8 (16 : Nat) iv)) = some (Blk.fix (D.arr IntKind.u8 (16 : Nat) iv)) ∧
    some (Blk.fix (D.arr IntKind.u8 (16 : Nat) (pdI (flW W) (W.length / (4 : Nat) - (1 : Nat)) iv a x))) = some (Blk.fix (D.arr IntKind.u8 (16 : Nat) (pdI (flW W) (W.length / (4 : Nat) - (1 : Nat)) iv a x))) ∧ True) ∧
    true = true) ∧
    (IntKind.i64.wrap ((↑x_1 : Int) + (1 : Int))).toNat ≤ (16 : Nat) ∧ (16 : Nat) - (IntKind.i64.wrap ((↑x_1 : Int) + (1 : Int))).toNat < (16 : Nat) - x_1
   | false =>
    True ∧
    True ∧
    (∃ (l : List Int),
    ∃ (m : List Int),
    [D.ints IntKind.i64 (dg (bv (List.take x_1 iv))), D.ints IntKind.i64 (dg (vB (65536 : Nat) (dg (vB (18446744073709551616 : Nat) [IntKind.u64.wrap ((IntKind.u64.wrap ((↑a : Int) + IntKind.u64.wrap (↑x : Int))).tdiv (16 : Int))])) + vB (65536 : Nat) []))] =
    [D.ints IntKind.i64 l, D.ints IntKind.i64 m] ∧
    (okd l ∧ lenS l) ∧ okd m ∧ lenS m) ∧
    (∃ (n : Int), [D.val (Value.int IntKind.i64 (128 : Int))] = [D.val (Value.int IntKind.i64 n)] ∧ (0 : Int) ≤ n ∧ n ≤ (1048576 : Int)) ∧
    (∃ (l : List Int),
    ∃ (m : List Int),
    [D.ints IntKind.i64 (dg (vB (65536 : Nat) (dg (bv (List.take x_1 iv))) + vB (65536 : Nat) (dg (vB (65536 : Nat) (dg (vB (18446744073709551616 : Nat) [IntKind.u64.wrap ((IntKind.u64.wrap ((↑a : Int) + IntKind.u64.wrap (↑x : Int))).tdiv (16 : Int))])) + vB (65536 : Nat) [])))),
    D.ints IntKind.i64 (dgP (128 : Nat))] =
    [D.ints IntKind.i64 l, D.ints IntKind.i64 m] ∧
    (okd l ∧ len1 l) ∧ (okd m ∧ len1 m) ∧ vB (65536 : Nat) m ≠ (0 : Nat)) ∧
    True ∧
    (True ∧ (16 : Nat) ≠ (0 : Nat)) ∧
    True ∧
    (((AV.d (D.val (Value.int IntKind.i64 (15 : Int))) = AV.d (D.val (Value.int IntKind.i64 ((15 : Int) - (↑((15 : Int) - (15 : Int)).toNat : Int)))) ∧
    AV.d
    (D.ints IntKind.i64
    (dg
    (vB (65536 : Nat)
    (dg (vB (65536 : Nat) (dg (bv (List.take x_1 iv))) + vB (65536 : Nat) (dg (vB (65536 : Nat) (dg (vB (18446744073709551616 : Nat) [IntKind.u64.wrap ((IntKind.u64.wrap ((↑a : Int) + IntKind.u64.wrap (↑x : Int))).tdiv (16 : Int))])) + vB (65536 : Nat) [])))) %
    vB (65536 : Nat) (dgP (128 : Nat))))) =
    AV.d (D.ints IntKind.i64 (dg (ivW iv (IntKind.u64.wrap ((IntKind.u64.wrap ((↑a : Int) + IntKind.u64.wrap (↑x : Int))).tdiv (16 : Int))).toNat / (256 : Nat) ^ ((15 : Int) - (15 : Int)).toNat))) ∧
    True) ∧
    (some (Blk.fix (D.arr IntKind.u8 (16 : Nat) iv)) = some (Blk.fix (D.arr IntKind.u8 (16 : Nat) iv)) ∧
    some (Blk.fix (D.arr IntKind.u8 (16 : Nat) (pdI (flW W) (W.length / (4 : Nat) - (1 : Nat)) iv a x))) = some (Blk.fix (D.arr IntKind.u8 (16 : Nat) (pdI (flW W) (W.length / (4 : Nat) - (1 : Nat)) iv a x))) ∧
    some (Blk.fix (D.arr IntKind.u8 (16 : Nat) [(0 : Int), (0 : Int), (0 : Int), (0 : Int), (0 : Int), (0 : Int), (0 : Int), (0 : Int), (0 : Int), (0 : Int), (0 : Int), (0 : Int), (0 : Int), (0 : Int), (0 : Int), (0 : Int)])) =
    some (Blk.fix (D.arr IntKind.u8 (16 : Nat) (List.replicate ((16 : Nat) - ((15 : Int) - (15 : Int)).toNat) (0 : Int)))) ∧
    True) ∧
    true = true) ∧
    ((15 : Int) - (15 : Int)).toNat ≤ (16 : Nat) ∧ (↑(IntKind.u64.wrap ((IntKind.u64.wrap ((↑a : Int) + IntKind.u64.wrap (↑x : Int))).tdiv (16 : Int))).toNat : Int) = IntKind.u64.wrap ((IntKind.u64.wrap ((↑a : Int) + IntKind.u64.wrap (↑x : Int))).tdiv (16 : Int))) ∧
    ∀ (x_2 : Nat × Nat),
    x_2.fst ≤ (16 : Nat) ∧ (↑x_2.snd : Int) = IntKind.u64.wrap ((IntKind.u64.wrap ((↑a : Int) + IntKind.u64.wrap (↑x : Int))).tdiv (16 : Int)) →
    true = true ∧
    True ∧
    True ∧
    match decide ((15 : Int) - (↑x_2.fst : Int) ≥ (0 : Int)) with
    | true =>
     True ∧
     True ∧
     ((1 : Nat) = (1 : Nat) ∧ (1 : Nat) ≤ (4096 : Nat)) ∧
     (∃ (l : List Int), ∃ (m : List Int), [D.ints IntKind.i64 (dg (ivW iv x_2.snd / (256 : Nat) ^ x_2.fst)), D.ints IntKind.i64 [(256 : Int)]] = [D.ints IntKind.i64 l, D.ints IntKind.i64 m] ∧ (okd l ∧ len1 l) ∧ (okd m ∧ len1 m) ∧ vB (65536 : Nat) m ≠ (0 : Nat)) ∧
     True ∧
     ((0 : Nat) < (2 : Nat) ∧ false = false) ∧
     ((1 : Nat) < (2 : Nat) ∧ false = false) ∧
     True ∧
     True ∧
     True ∧
     True ∧
     (∃ (l : List Int),
     ∃ (i : Int), [D.ints IntKind.i64 (dg (vB (65536 : Nat) (dg (ivW iv x_2.snd / (256 : Nat) ^ x_2.fst)) % vB (65536 : Nat) [(256 : Int)])), D.val (Value.int IntKind.i64 (0 : Int))] = [D.ints IntKind.i64 l, D.val (Value.int IntKind.i64 i)] ∧ lenOk l) ∧
     True ∧
     ((0 : Int) ≤ (15 : Int) - (↑x_2.fst : Int) ∧ (15 : Int) - (↑x_2.fst : Int) < (↑(16 : Nat) : Int) ∧ (16 : Nat) = (16 : Nat) ∧ (1 : Nat) = (1 : Nat)) ∧
     ((((15 : Int) - (↑x_2.fst : Int)).toNat < (16 : Nat) ∧ ([] : List Nat) = [] ∧ true = true) ∧ (1 : Nat) ≠ (0 : Nat) ∧ (1 : Nat) = (1 : Nat) ∧ false = false) ∧
     True ∧
     True ∧
     True ∧
     ((AV.d (D.val (Value.int IntKind.i64 (IntKind.i64.wrap ((15 : Int) - (↑x_2.fst : Int) - (1 : Int))))) =
     AV.d (D.val (Value.int IntKind.i64 ((15 : Int) - (↑((15 : Int) - IntKind.i64.wrap ((15 : Int) - (↑x_2.fst : Int) - (1 : Int))).toNat : Int)))) ∧
     AV.d (D.ints IntKind.i64 (dg (vB (65536 : Nat) (dg (ivW iv x_2.snd / (256 : Nat) ^ x_2.fst)) / vB (65536 : Nat) [(256 : Int)]))) =
     AV.d
     (D.ints IntKind.i64
     (dg (ivW iv (IntKind.u64.wrap ((IntKind.u64.wrap ((↑a : Int) + IntKind.u64.wrap (↑x : Int))).tdiv (16 : Int))).toNat / (256 : Nat) ^ ((15 : Int) - IntKind.i64.wrap ((15 : Int) - (↑x_2.fst : Int) - (1 : Int))).toNat))) ∧
     True) ∧
     (some (Blk.fix (D.arr IntKind.u8 (16 : Nat) iv)) = some (Blk.fix (D.arr IntKind.u8 (16 : Nat) iv)) ∧
     some (Blk.fix (D.arr IntKind.u8 (16 : Nat) (pdI (flW W) (W.length / (4 : Nat) - (1 : Nat)) iv a x))) = some (Blk.fix (D.arr IntKind.u8 (16 : Nat) (pdI (flW W) (W.length / (4 : Nat) - (1 : Nat)) iv a x))) ∧
     some
     (Blk.fix
     (D.arr IntKind.u8 (16 : Nat)
     ((List.replicate ((16 : Nat) - x_2.fst) (0 : Int) ++ (nB (256 : Nat) x_2.fst (ivW iv x_2.snd)).reverseAux []).set ((15 : Int) - (↑x_2.fst : Int)).toNat
     (IntKind.u8.wrap (dig (dg (vB (65536 : Nat) (dg (ivW iv x_2.snd / (256 : Nat) ^ x_2.fst)) % vB (65536 : Nat) [(256 : Int)])) (0 : Int)))))) =
     some
     (Blk.fix
     (D.arr IntKind.u8 (16 : Nat)
     (List.replicate ((16 : Nat) - ((15 : Int) - IntKind.i64.wrap ((15 : Int) - (↑x_2.fst : Int) - (1 : Int))).toNat) (0 : Int) ++
     (nB (256 : Nat) ((15 : Int) - IntKind.i64.wrap ((15 : Int) - (↑x_2.fst : Int) - (1 : Int))).toNat
     (ivW iv (IntKind.u64.wrap ((IntKind.u64.wrap ((↑a : Int) + IntKind.u64.wrap (↑x : Int))).tdiv (16 : Int))).toNat)).reverseAux
     []))) ∧
     True) ∧
     true = true) ∧
     (((15 : Int) - IntKind.i64.wrap ((15 : Int) - (↑x_2.fst : Int) - (1 : Int))).toNat ≤ (16 : Nat) ∧
     (↑(IntKind.u64.wrap ((IntKind.u64.wrap ((↑a : Int) + IntKind.u64.wrap (↑x : Int))).tdiv (16 : Int))).toNat : Int) = IntKind.u64.wrap ((IntKind.u64.wrap ((↑a : Int) + IntKind.u64.wrap (↑x : Int))).tdiv (16 : Int))) ∧
     (16 : Nat) - ((15 : Int) - IntKind.i64.wrap ((15 : Int) - (↑x_2.fst : Int) - (1 : Int))).toNat < (16 : Nat) - x_2.fst
    | false =>
     True ∧
     ((16 : Nat) ≠ (0 : Nat) ∧ (16 : Nat) = (16 : Nat) ∧ true = true) ∧
     (∃ (W_1 : List D),
     ∃ (bx_1 : List Int),
     ∃ (ux_1 : List Int),
     ∃ (b : List Int),
     [(D.st [D.slc (4 : Nat) W, D.arr IntKind.u8 (256 : Nat) bx, D.arr IntKind.u8 (256 : Nat) ux]).ref, D.arr IntKind.u8 (16 : Nat) (List.replicate ((16 : Nat) - x_2.fst) (0 : Int) ++ (nB (256 : Nat) x_2.fst (ivW iv x_2.snd)).reverseAux [])] =
     [(D.st [D.slc (4 : Nat) W_1, D.arr IntKind.u8 (256 : Nat) bx_1, D.arr IntKind.u8 (256 : Nat) ux_1]).ref, D.arr IntKind.u8 (16 : Nat) b] ∧
     okW W_1 ∧ (4 : Nat) ≤ W_1.length ∧ W_1.length ≤ (60 : Nat) ∧ okX bx_1 ux_1 ∧ isB (16 : Nat) b) ∧
     (Sk.arr (16 : Nat) = Sk.arr (16 : Nat) ∧ (16 : Nat) ≠ (0 : Nat) ∧ (16 : Nat) = (16 : Nat) ∧ false = false) ∧
     ((AV.d (D.val (Value.int IntKind.u64 (IntKind.u64.wrap ((IntKind.u64.wrap ((↑a : Int) + IntKind.u64.wrap (↑x : Int))).tdiv (16 : Int))))) = AV.d (D.val (Value.int IntKind.u64 (↑(hvI a ((↑x : Int).toNat + (1 : Nat))) : Int))) ∧ True) ∧
     (some (Blk.fix (D.arr IntKind.u8 (16 : Nat) iv)) = some (Blk.fix (D.arr IntKind.u8 (16 : Nat) iv)) ∧
     some (Blk.fix (D.arr IntKind.u8 (16 : Nat) (enL (flW W) (W.length / (4 : Nat) - (1 : Nat)) (List.replicate ((16 : Nat) - x_2.fst) (0 : Int) ++ (nB (256 : Nat) x_2.fst (ivW iv x_2.snd)).reverseAux [])))) =
     some (Blk.fix (D.arr IntKind.u8 (16 : Nat) (stP (flW W) (W.length / (4 : Nat) - (1 : Nat)) iv a (↑x : Int).toNat))) ∧
     True) ∧
     true = true) ∧
     (↑(↑x : Int).toNat : Int) = (↑x : Int)) ∧
   ∀ (z : Nat),
   (↑z : Int) = (↑x : Int) →
   true = true ∧
   True ∧
   True ∧
   True ∧
   ((0 : Int) ≤ (↑x : Int) ∧ (↑x : Int) < (↑p.length : Int)) ∧
   True ∧
   (16 : Int) ≠ (0 : Int) ∧
   ((0 : Int) ≤ (IntKind.u64.wrap ((↑a : Int) + IntKind.u64.wrap (↑x : Int))).tmod (16 : Int) ∧ (IntKind.u64.wrap ((↑a : Int) + IntKind.u64.wrap (↑x : Int))).tmod (16 : Int) < (↑(16 : Nat) : Int) ∧ (16 : Nat) = (16 : Nat) ∧ (1 : Nat) = (1 : Nat)) ∧
   ((1 : Nat) ≠ (0 : Nat) ∧ (1 : Nat) = (1 : Nat) ∧ false = false) ∧
   True ∧
   ((1 : Nat) = (1 : Nat) ∧ (1 : Nat) ≤ (4096 : Nat)) ∧
   isBytes [ixor IntKind.u8 (p.getD (↑x : Int).toNat (0 : Int)) ((stP (flW W) (W.length / (4 : Nat) - (1 : Nat)) iv a z).getD ((IntKind.u64.wrap ((↑a : Int) + IntKind.u64.wrap (↑x : Int))).tmod (16 : Int)).toNat (0 : Int))] ∧
   (↑((stmL (flW W) (W.length / (4 : Nat) - (1 : Nat)) iv a p x).length + (1 : Nat)) : Int) ≤ (9223372036854775807 : Int) ∧
   True ∧
   True ∧
   True ∧
   ((AV.d (D.val (Value.int IntKind.i64 (IntKind.i64.wrap ((↑x : Int) + (1 : Int))))) = AV.d (D.val (Value.int IntKind.i64 (↑(IntKind.i64.wrap ((↑x : Int) + (1 : Int))).toNat : Int))) ∧
   AV.d (D.str (stmL (flW W) (W.length / (4 : Nat) - (1 : Nat)) iv a p x ++ [ixor IntKind.u8 (p.getD (↑x : Int).toNat (0 : Int)) ((stP (flW W) (W.length / (4 : Nat) - (1 : Nat)) iv a z).getD ((IntKind.u64.wrap ((↑a : Int) + IntKind.u64.wrap (↑x : Int))).tmod (16 : Int)).toNat (0 : Int))])) =
   AV.d (D.str (stmL (flW W) (W.length / (4 : Nat) - (1 : Nat)) iv a p (IntKind.i64.wrap ((↑x : Int) + (1 : Int))).toNat)) ∧
   AV.d (D.val (Value.int IntKind.u64 (↑(hvI a (z + (1 : Nat))) : Int))) = AV.d (D.val (Value.int IntKind.u64 (↑(hvI a (IntKind.i64.wrap ((↑x : Int) + (1 : Int))).toNat) : Int))) ∧ True) ∧
   (some (Blk.fix (D.arr IntKind.u8 (16 : Nat) iv)) = some (Blk.fix (D.arr IntKind.u8 (16 : Nat) iv)) ∧
   some (Blk.fix (D.arr IntKind.u8 (16 : Nat) (stP (flW W) (W.length / (4 : Nat) - (1 : Nat)) iv a z))) = some (Blk.fix (D.arr IntKind.u8 (16 : Nat) (pdI (flW W) (W.length / (4 : Nat) - (1 : Nat)) iv a (IntKind.i64.wrap ((↑x : Int) + (1 : Int))).toNat))) ∧ True) ∧
   true = true) ∧
   (IntKind.i64.wrap ((↑x : Int) + (1 : Int))).toNat ≤ p.length ∧ p.length - (IntKind.i64.wrap ((↑x : Int) + (1 : Int))).toNat < p.length - x
  | false =>
   True ∧
   True ∧
   True ∧
   True ∧
   (match IntKind.u64.wrap ((IntKind.u64.wrap ((↑a : Int) + IntKind.u64.wrap (↑x : Int))).tdiv (16 : Int)) != (↑(hvI a x) : Int) with
   | true =>
    True ∧
    True ∧
    True ∧
    ((1 : Nat) = (1 : Nat) ∧ (1 : Nat) ≤ (4096 : Nat)) ∧
    (∃ (l : List Int), [D.ints IntKind.u64 [IntKind.u64.wrap ((IntKind.u64.wrap ((↑a : Int) + IntKind.u64.wrap (↑x : Int))).tdiv (16 : Int))]] = [D.ints IntKind.u64 l] ∧ okw l ∧ l.length ≤ (100 : Nat)) ∧
    (∃ (l : List Int), ∃ (m : List Int), [D.ints IntKind.i64 (dg (vB (18446744073709551616 : Nat) [IntKind.u64.wrap ((IntKind.u64.wrap ((↑a : Int) + IntKind.u64.wrap (↑x : Int))).tdiv (16 : Int))])), D.ints IntKind.i64 []] = [D.ints IntKind.i64 l, D.ints IntKind.i64 m] ∧ (okd l ∧ lenS l) ∧ okd m ∧ lenS m) ∧
    True ∧
    True ∧
    ((16 : Nat) ≠ (0 : Nat) ∧ (16 : Nat) = (16 : Nat) ∧ true = true) ∧
    True ∧
    (((AV.d (D.val (Value.int IntKind.i64 (0 : Int))) = AV.d (D.val (Value.int IntKind.i64 (↑(Int.toNat (0 : Int)) : Int))) ∧ dg (bv (List.take (Int.toNat (0 : Int)) iv)) = [] ∧ True) ∧
    (some (Blk.fix (D.arr IntKind.u8 (16 : Nat) iv)) = some (Blk.fix (D.arr IntKind.u8 (16 : Nat) iv)) ∧
    some (Blk.fix (D.arr IntKind.u8 (16 : Nat) (pdI (flW W) (W.length / (4 : Nat) - (1 : Nat)) iv a x))) = some (Blk.fix (D.arr IntKind.u8 (16 : Nat) (pdI (flW W) (W.length / (4 : Nat) - (1 : Nat)) iv a x))) ∧ True) ∧
    true = true) ∧
    Int.toNat (0 : Int) ≤ (16 : Nat)) ∧
    ∀ (x_1 : Nat),
    x_1 ≤ (16 : Nat) →
    true = true ∧
    True ∧
    match decide ((↑x_1 : Int) < (16 : Int)) with
    | true =>
     ((0 : Int) ≤ (↑x_1 : Int) ∧ (↑x_1 : Int) < (↑(16 : Nat) : Int) ∧ (16 : Nat) = (16 : Nat) ∧ Ty.int IntKind.u8 = Ty.int IntKind.u8 ∧ (1 : Nat) = (1 : Nat)) ∧
     True ∧
     True ∧
     ((1 : Nat) = (1 : Nat) ∧ (1 : Nat) ≤ (4096 : Nat)) ∧
     (∃ (l : List Int), ∃ (m : List Int), [D.ints IntKind.i64 (dg (bv (List.take x_1 iv))), D.ints IntKind.i64 [(256 : Int)]] = [D.ints IntKind.i64 l, D.ints IntKind.i64 m] ∧ (okd l ∧ lenS l) ∧ okd m ∧ lenS m) ∧
     True ∧
     True ∧
     ((1 : Nat) = (1 : Nat) ∧ (1 : Nat) ≤ (4096 : Nat)) ∧
     (∃ (l : List Int),
     ∃ (m : List Int),
     [D.ints IntKind.i64 (dg (vB (65536 : Nat) (dg (bv (List.take x_1 iv))) * vB (65536 : Nat) [(256 : Int)])), D.ints IntKind.i64 [IntKind.i64.wrap (iv.getD (↑x_1 : Int).toNat (0 : Int))]] = [D.ints IntKind.i64 l, D.ints IntKind.i64 m] ∧ (okd l ∧ lenS l) ∧ okd m ∧ lenS m) ∧
     True ∧
     True ∧
     True ∧
     ((AV.d (D.val (Value.int IntKind.i64 (IntKind.i64.wrap ((↑x_1 : Int) + (1 : Int))))) = AV.d (D.val (Value.int IntKind.i64 (↑(IntKind.i64.wrap ((↑x_1 : Int) + (1 : Int))).toNat : Int))) ∧
     AV.d (D.ints IntKind.i64 (dg (vB (65536 : Nat) (dg (vB (65536 : Nat) (dg (bv (List.take x_1 iv))) * vB (65536 : Nat) [(256 : Int)])) + vB (65536 : Nat) [IntKind.i64.wrap (iv.getD (↑x_1 : Int).toNat (0 : Int))]))) =
     AV.d (D.ints IntKind.i64 (dg (bv (List.take (IntKind.i64.wrap ((↑x_1 : Int) + (1 : Int))).toNat iv)))) ∧
     True) ∧
     (some (Blk.fix (D.arr IntKind.u8 (16 : Nat) iv)) = some (Blk.fix (D.arr IntKind.u8 (16 : Nat) iv)) ∧
     some (Blk.fix (D.arr IntKind.u8 (16 : Nat) (pdI (flW W) (W.length / (4 : Nat) - (1 : Nat)) iv a x))) = some (Blk.fix (D.arr IntKind.u8 (16 : Nat) (pdI (flW W) (W.length / (4 : Nat) - (1 : Nat)) iv a x))) ∧ True) ∧
     true = true) ∧
     (IntKind.i64.wrap ((↑x_1 : Int) + (1 : Int))).toNat ≤ (16 : Nat) ∧ (16 : Nat) - (IntKind.i64.wrap ((↑x_1 : Int) + (1 : Int))).toNat < (16 : Nat) - x_1
    | false =>
     True ∧
     True ∧
     (∃ (l : List Int),
     ∃ (m : List Int),
     [D.ints IntKind.i64 (dg (bv (List.take x_1 iv))), D.ints IntKind.i64 (dg (vB (65536 : Nat) (dg (vB (18446744073709551616 : Nat) [IntKind.u64.wrap ((IntKind.u64.wrap ((↑a : Int) + IntKind.u64.wrap (↑x : Int))).tdiv (16 : Int))])) + vB (65536 : Nat) []))] =
     [D.ints IntKind.i64 l, D.ints IntKind.i64 m] ∧
     (okd l ∧ lenS l) ∧ okd m ∧ lenS m) ∧
     (∃ (n : Int), [D.val (Value.int IntKind.i64 (128 : Int))] = [D.val (Value.int IntKind.i64 n)] ∧ (0 : Int) ≤ n ∧ n ≤ (1048576 : Int)) ∧
     (∃ (l : List Int),
     ∃ (m : List Int),
     [D.ints IntKind.i64 (dg (vB (65536 : Nat) (dg (bv (List.take x_1 iv))) + vB (65536 : Nat) (dg (vB (65536 : Nat) (dg (vB (18446744073709551616 : Nat) [IntKind.u64.wrap ((IntKind.u64.wrap ((↑a : Int) + IntKind.u64.wrap (↑x : Int))).tdiv (16 : Int))])) + vB (65536 : Nat) [])))),
     D.ints IntKind.i64 (dgP (128 : Nat))] =
     [D.ints IntKind.i64 l, D.ints IntKind.i64 m] ∧
     (okd l ∧ len1 l) ∧ (okd m ∧ len1 m) ∧ vB (65536 : Nat) m ≠ (0 : Nat)) ∧
     True ∧
     (True ∧ (16 : Nat) ≠ (0 : Nat)) ∧
     True ∧
     (((AV.d (D.val (Value.int IntKind.i64 (15 : Int))) = AV.d (D.val (Value.int IntKind.i64 ((15 : Int) - (↑((15 : Int) - (15 : Int)).toNat : Int)))) ∧
     AV.d
     (D.ints IntKind.i64
     (dg
     (vB (65536 : Nat)
     (dg (vB (65536 : Nat) (dg (bv (List.take x_1 iv))) + vB (65536 : Nat) (dg (vB (65536 : Nat) (dg (vB (18446744073709551616 : Nat) [IntKind.u64.wrap ((IntKind.u64.wrap ((↑a : Int) + IntKind.u64.wrap (↑x : Int))).tdiv (16 : Int))])) + vB (65536 : Nat) [])))) %
     vB (65536 : Nat) (dgP (128 : Nat))))) =
     AV.d (D.ints IntKind.i64 (dg (ivW iv (IntKind.u64.wrap ((IntKind.u64.wrap ((↑a : Int) + IntKind.u64.wrap (↑x : Int))).tdiv (16 : Int))).toNat / (256 : Nat) ^ ((15 : Int) - (15 : Int)).toNat))) ∧
     True) ∧
     (some (Blk.fix (D.arr IntKind.u8 (16 : Nat) iv)) = some (Blk.fix (D.arr IntKind.u8 (16 : Nat) iv)) ∧
     some (Blk.fix (D.arr IntKind.u8 (16 : Nat) (pdI (flW W) (W.length / (4 : Nat) - (1 : Nat)) iv a x))) = some (Blk.fix (D.arr IntKind.u8 (16 : Nat) (pdI (flW W) (W.length / (4 : Nat) - (1 : Nat)) iv a x))) ∧
     some (Blk.fix (D.arr IntKind.u8 (16 : Nat) [(0 : Int), (0 : Int), (0 : Int), (0 : Int), (0 : Int), (0 : Int), (0 : Int), (0 : Int), (0 : Int), (0 : Int), (0 : Int), (0 : Int), (0 : Int), (0 : Int), (0 : Int), (0 : Int)])) =
     some (Blk.fix (D.arr IntKind.u8 (16 : Nat) (List.replicate ((16 : Nat) - ((15 : Int) - (15 : Int)).toNat) (0 : Int)))) ∧
     True) ∧
     true = true) ∧
     ((15 : Int) - (15 : Int)).toNat ≤ (16 : Nat) ∧ (↑(IntKind.u64.wrap ((IntKind.u64.wrap ((↑a : Int) + IntKind.u64.wrap (↑x : Int))).tdiv (16 : Int))).toNat : Int) = IntKind.u64.wrap ((IntKind.u64.wrap ((↑a : Int) + IntKind.u64.wrap (↑x : Int))).tdiv (16 : Int))) ∧
     ∀ (x_2 : Nat × Nat),
     x_2.fst ≤ (16 : Nat) ∧ (↑x_2.snd : Int) = IntKind.u64.wrap ((IntKind.u64.wrap ((↑a : Int) + IntKind.u64.wrap (↑x : Int))).tdiv (16 : Int)) →
     true = true ∧
     True ∧
     True ∧
     match decide ((15 : Int) - (↑x_2.fst : Int) ≥ (0 : Int)) with
     | true =>
      True ∧
      True ∧
      ((1 : Nat) = (1 : Nat) ∧ (1 : Nat) ≤ (4096 : Nat)) ∧
      (∃ (l : List Int), ∃ (m : List Int), [D.ints IntKind.i64 (dg (ivW iv x_2.snd / (256 : Nat) ^ x_2.fst)), D.ints IntKind.i64 [(256 : Int)]] = [D.ints IntKind.i64 l, D.ints IntKind.i64 m] ∧ (okd l ∧ len1 l) ∧ (okd m ∧ len1 m) ∧ vB (65536 : Nat) m ≠ (0 : Nat)) ∧
      True ∧
      ((0 : Nat) < (2 : Nat) ∧ false = false) ∧
      ((1 : Nat) < (2 : Nat) ∧ false = false) ∧
      True ∧
      True ∧
      True ∧
      True ∧
      (∃ (l : List Int),
      ∃ (i : Int),
      [D.ints IntKind.i64 (dg (vB (65536 : Nat) (dg (ivW iv x_2.snd / (256 : Nat) ^ x_2.fst)) % vB (65536 : Nat) [(256 : Int)])), D.val (Value.int IntKind.i64 (0 : Int))] = [D.ints IntKind.i64 l, D.val (Value.int IntKind.i64 i)] ∧ lenOk l) ∧
      True ∧
      ((0 : Int) ≤ (15 : Int) - (↑x_2.fst : Int) ∧ (15 : Int) - (↑x_2.fst : Int) < (↑(16 : Nat) : Int) ∧ (16 : Nat) = (16 : Nat) ∧ (1 : Nat) = (1 : Nat)) ∧
      ((((15 : Int) - (↑x_2.fst : Int)).toNat < (16 : Nat) ∧ ([] : List Nat) = [] ∧ true = true) ∧ (1 : Nat) ≠ (0 : Nat) ∧ (1 : Nat) = (1 : Nat) ∧ false = false) ∧
      True ∧
      True ∧
      True ∧
      ((AV.d (D.val (Value.int IntKind.i64 (IntKind.i64.wrap ((15 : Int) - (↑x_2.fst : Int) - (1 : Int))))) =
      AV.d (D.val (Value.int IntKind.i64 ((15 : Int) - (↑((15 : Int) - IntKind.i64.wrap ((15 : Int) - (↑x_2.fst : Int) - (1 : Int))).toNat : Int)))) ∧
      AV.d (D.ints IntKind.i64 (dg (vB (65536 : Nat) (dg (ivW iv x_2.snd / (256 : Nat) ^ x_2.fst)) / vB (65536 : Nat) [(256 : Int)]))) =
      AV.d
      (D.ints IntKind.i64
      (dg
      (ivW iv (IntKind.u64.wrap ((IntKind.u64.wrap ((↑a : Int) + IntKind.u64.wrap (↑x : Int))).tdiv (16 : Int))).toNat / (256 : Nat) ^ ((15 : Int) - IntKind.i64.wrap ((15 : Int) - (↑x_2.fst : Int) - (1 : Int))).toNat))) ∧
      True) ∧
      (some (Blk.fix (D.arr IntKind.u8 (16 : Nat) iv)) = some (Blk.fix (D.arr IntKind.u8 (16 : Nat) iv)) ∧
      some (Blk.fix (D.arr IntKind.u8 (16 : Nat) (pdI (flW W) (W.length / (4 : Nat) - (1 : Nat)) iv a x))) = some (Blk.fix (D.arr IntKind.u8 (16 : Nat) (pdI (flW W) (W.length / (4 : Nat) - (1 : Nat)) iv a x))) ∧
      some
      (Blk.fix
      (D.arr IntKind.u8 (16 : Nat)
      ((List.replicate ((16 : Nat) - x_2.fst) (0 : Int) ++ (nB (256 : Nat) x_2.fst (ivW iv x_2.snd)).reverseAux []).set ((15 : Int) - (↑x_2.fst : Int)).toNat
      (IntKind.u8.wrap (dig (dg (vB (65536 : Nat) (dg (ivW iv x_2.snd / (256 : Nat) ^ x_2.fst)) % vB (65536 : Nat) [(256 : Int)])) (0 : Int)))))) =
      some
      (Blk.fix
      (D.arr IntKind.u8 (16 : Nat)
      (List.replicate ((16 : Nat) - ((15 : Int) - IntKind.i64.wrap ((15 : Int) - (↑x_2.fst : Int) - (1 : Int))).toNat) (0 : Int) ++
      (nB (256 : Nat) ((15 : Int) - IntKind.i64.wrap ((15 : Int) - (↑x_2.fst : Int) - (1 : Int))).toNat
      (ivW iv (IntKind.u64.wrap ((IntKind.u64.wrap ((↑a : Int) + IntKind.u64.wrap (↑x : Int))).tdiv (16 : Int))).toNat)).reverseAux
      []))) ∧
      True) ∧
      true = true) ∧
      (((15 : Int) - IntKind.i64.wrap ((15 : Int) - (↑x_2.fst : Int) - (1 : Int))).toNat ≤ (16 : Nat) ∧
      (↑(IntKind.u64.wrap ((IntKind.u64.wrap ((↑a : Int) + IntKind.u64.wrap (↑x : Int))).tdiv (16 : Int))).toNat : Int) = IntKind.u64.wrap ((IntKind.u64.wrap ((↑a : Int) + IntKind.u64.wrap (↑x : Int))).tdiv (16 : Int))) ∧
      (16 : Nat) - ((15 : Int) - IntKind.i64.wrap ((15 : Int) - (↑x_2.fst : Int) - (1 : Int))).toNat < (16 : Nat) - x_2.fst
     | false =>
      True ∧
      ((16 : Nat) ≠ (0 : Nat) ∧ (16 : Nat) = (16 : Nat) ∧ true = true) ∧
      (∃ (W_1 : List D),
      ∃ (bx_1 : List Int),
      ∃ (ux_1 : List Int),
      ∃ (b : List Int),
      [(D.st [D.slc (4 : Nat) W, D.arr IntKind.u8 (256 : Nat) bx, D.arr IntKind.u8 (256 : Nat) ux]).ref, D.arr IntKind.u8 (16 : Nat) (List.replicate ((16 : Nat) - x_2.fst) (0 : Int) ++ (nB (256 : Nat) x_2.fst (ivW iv x_2.snd)).reverseAux [])] =
      [(D.st [D.slc (4 : Nat) W_1, D.arr IntKind.u8 (256 : Nat) bx_1, D.arr IntKind.u8 (256 : Nat) ux_1]).ref, D.arr IntKind.u8 (16 : Nat) b] ∧
      okW W_1 ∧ (4 : Nat) ≤ W_1.length ∧ W_1.length ≤ (60 : Nat) ∧ okX bx_1 ux_1 ∧ isB (16 : Nat) b) ∧
      (Sk.arr (16 : Nat) = Sk.arr (16 : Nat) ∧ (16 : Nat) ≠ (0 : Nat) ∧ (16 : Nat) = (16 : Nat) ∧ false = false) ∧
      ((AV.d (D.val (Value.int IntKind.u64 (IntKind.u64.wrap ((IntKind.u64.wrap ((↑a : Int) + IntKind.u64.wrap (↑x : Int))).tdiv (16 : Int))))) = AV.d (D.val (Value.int IntKind.u64 (↑(hvI a ((↑x : Int).toNat + (1 : Nat))) : Int))) ∧ True) ∧
      (some (Blk.fix (D.arr IntKind.u8 (16 : Nat) iv)) = some (Blk.fix (D.arr IntKind.u8 (16 : Nat) iv)) ∧
      some (Blk.fix (D.arr IntKind.u8 (16 : Nat) (enL (flW W) (W.length / (4 : Nat) - (1 : Nat)) (List.replicate ((16 : Nat) - x_2.fst) (0 : Int) ++ (nB (256 : Nat) x_2.fst (ivW iv x_2.snd)).reverseAux [])))) =
      some (Blk.fix (D.arr IntKind.u8 (16 : Nat) (stP (flW W) (W.length / (4 : Nat) - (1 : Nat)) iv a (↑x : Int).toNat))) ∧
      True) ∧
      true = true) ∧
      (↑(↑x : Int).toNat : Int) = (↑x : Int)
   | false =>
    ((AV.d (D.val (Value.int IntKind.u64 (↑(hvI a x) : Int))) = AV.d (D.val (Value.int IntKind.u64 (↑(hvI a ((↑x : Int).toNat + (1 : Nat))) : Int))) ∧ True) ∧
    (some (Blk.fix (D.arr IntKind.u8 (16 : Nat) iv)) = some (Blk.fix (D.arr IntKind.u8 (16 : Nat) iv)) ∧
    some (Blk.fix (D.arr IntKind.u8 (16 : Nat) (pdI (flW W) (W.length / (4 : Nat) - (1 : Nat)) iv a x))) = some (Blk.fix (D.arr IntKind.u8 (16 : Nat) (stP (flW W) (W.length / (4 : Nat) - (1 : Nat)) iv a (↑x : Int).toNat))) ∧ True) ∧
    true = true) ∧
    (↑(↑x : Int).toNat : Int) = (↑x : Int)) ∧
    ∀ (z : Nat),
    (↑z : Int) = (↑x : Int) →
    true = true ∧
    True ∧
    True ∧
    True ∧
    ((0 : Int) ≤ (↑x : Int) ∧ (↑x : Int) < (↑p.length : Int)) ∧
    True ∧
    (16 : Int) ≠ (0 : Int) ∧
    ((0 : Int) ≤ (IntKind.u64.wrap ((↑a : Int) + IntKind.u64.wrap (↑x : Int))).tmod (16 : Int) ∧ (IntKind.u64.wrap ((↑a : Int) + IntKind.u64.wrap (↑x : Int))).tmod (16 : Int) < (↑(16 : Nat) : Int) ∧ (16 : Nat) = (16 : Nat) ∧ (1 : Nat) = (1 : Nat)) ∧
    ((1 : Nat) ≠ (0 : Nat) ∧ (1 : Nat) = (1 : Nat) ∧ false = false) ∧
    True ∧
    ((1 : Nat) = (1 : Nat) ∧ (1 : Nat) ≤ (4096 : Nat)) ∧
    isBytes [ixor IntKind.u8 (p.getD (↑x : Int).toNat (0 : Int)) ((stP (flW W) (W.length / (4 : Nat) - (1 : Nat)) iv a z).getD ((IntKind.u64.wrap ((↑a : Int) + IntKind.u64.wrap (↑x : Int))).tmod (16 : Int)).toNat (0 : Int))] ∧
    (↑((stmL (flW W) (W.length / (4 : Nat) - (1 : Nat)) iv a p x).length + (1 : Nat)) : Int) ≤ (9223372036854775807 : Int) ∧
    True ∧
    True ∧
    True ∧
    ((AV.d (D.val (Value.int IntKind.i64 (IntKind.i64.wrap ((↑x : Int) + (1 : Int))))) = AV.d (D.val (Value.int IntKind.i64 (↑(IntKind.i64.wrap ((↑x : Int) + (1 : Int))).toNat : Int))) ∧
    AV.d (D.str (stmL (flW W) (W.length / (4 : Nat) - (1 : Nat)) iv a p x ++ [ixor IntKind.u8 (p.getD (↑x : Int).toNat (0 : Int)) ((stP (flW W) (W.length / (4 : Nat) - (1 : Nat)) iv a z).getD ((IntKind.u64.wrap ((↑a : Int) + IntKind.u64.wrap (↑x : Int))).tmod (16 : Int)).toNat (0 : Int))])) =
    AV.d (D.str (stmL (flW W) (W.length / (4 : Nat) - (1 : Nat)) iv a p (IntKind.i64.wrap ((↑x : Int) + (1 : Int))).toNat)) ∧
    AV.d (D.val (Value.int IntKind.u64 (↑(hvI a (z + (1 : Nat))) : Int))) = AV.d (D.val (Value.int IntKind.u64 (↑(hvI a (IntKind.i64.wrap ((↑x : Int) + (1 : Int))).toNat) : Int))) ∧ True) ∧
    (some (Blk.fix (D.arr IntKind.u8 (16 : Nat) iv)) = some (Blk.fix (D.arr IntKind.u8 (16 : Nat) iv)) ∧
    some (Blk.fix (D.arr IntKind.u8 (16 : Nat) (stP (flW W) (W.length / (4 : Nat) - (1 : Nat)) iv a z))) = some (Blk.fix (D.arr IntKind.u8 (16 : Nat) (pdI (flW W) (W.length / (4 : Nat) - (1 : Nat)) iv a (IntKind.i64.wrap ((↑x : Int) + (1 : Int))).toNat))) ∧ True) ∧
    true = true) ∧
    (IntKind.i64.wrap ((↑x : Int) + (1 : Int))).toNat ≤ p.length ∧ p.length - (IntKind.i64.wrap ((↑x : Int) + (1 : Int))).toNat < p.length - x
 | false => True ∧ True ∧ (false = false ∧ True) ∧ D.str (stmL (flW W) (W.length / (4 : Nat) - (1 : Nat)) iv a p x) = F) := by kernel_rfl
end Go.Proofs.Ytnadggcfdakpoaa
/- package mode: plus. -/
namespace Go.Proofs.Ytnadggcfdakpoaa
open Go Go.Vg

theorem rev_take (iv : List Int) (h : iv.length = 16) {k : Nat} (hk : k < 16) : iv.reverse.take (k + 1) = iv.reverse.take k ++ [iv.getD (15 - k) 0] := by
  rw [List.take_succ_eq_append_getElem (by rw [List.length_reverse]; omega), List.getElem_reverse, List.getD_eq_getElem?_getD, List.getElem?_eq_getElem (by omega)]
  simp only [h, Option.getD_some]
theorem plS_succ {iv : List Int} (h : iv.length = 16) (n : Nat) {k : Nat} (hk : k < 16) : plS iv n (k + 1) = plS iv n k + 256 ^ k * ((iv.getD (15 - k) 0).toNat + n / 256 ^ k % 256) := by
  unfold plS
  rw [rev_take iv h hk, vB_append, List.length_take, List.length_reverse, Nat.min_eq_left (by omega), Nat.mod_pow_succ, Nat.mul_add]
  show vB 256 _ + 256 ^ k * ((iv.getD (15 - k) 0).toNat + 256 * 0) + _ = _
  rw [Nat.mul_zero, Nat.add_zero]
  omega
theorem plS_div {iv : List Int} (h : iv.length = 16) (n : Nat) {k : Nat} (hk : k < 16) : plS iv n (k + 1) / 256 ^ k = plS iv n k / 256 ^ k + ((iv.getD (15 - k) 0).toNat + n / 256 ^ k % 256) := by
  rw [plS_succ h n hk, Nat.add_mul_div_left _ _ (Nat.pow_pos (by decide))]
theorem plS_lt {iv : List Int} (h : isB 16 iv) (n : Nat) {k : Nat} (hk : k ≤ 16) : plS iv n k / 256 ^ k < 2 := by
  have h0 : 0 < 256 ^ k := Nat.pow_pos (by decide)
  have h1 := vB_lt (b := 256) (l := iv.reverse.take k) fun y hy => h.1 y (List.mem_reverse.1 (List.mem_of_mem_take hy))
  rw [List.length_take, List.length_reverse, h.2, Nat.min_eq_left hk] at h1
  have h2 := Nat.mod_lt n h0
  rw [Nat.div_lt_iff_lt_mul h0]
  unfold plS
  omega
theorem plI_len {iv : List Int} (h : iv.length = 16) (n : Nat) {k : Nat} (hk : k ≤ 16) : (plI iv n k).length = 16 := by
  unfold plI
  rw [List.length_append, List.length_take, List.length_reverse, nB_length]
  omega
theorem plI_get {iv : List Int} (h : iv.length = 16) (n : Nat) {k : Nat} (hk : k < 16) : (plI iv n k).getD (15 - k) 0 = iv.getD (15 - k) 0 := by
  unfold plI
  rw [List.getD_eq_getElem?_getD, List.getElem?_append_left (by rw [List.length_take]; omega), ← List.getD_eq_getElem?_getD, getD_take (by omega)]
theorem plI_set {iv : List Int} (h : iv.length = 16) (n : Nat) {k : Nat} (hk : k < 16) : (plI iv n k).set (15 - k) ((plS iv n (k + 1) / 256 ^ k % 256 : Nat) : Int) = plI iv n (k + 1) := by
  unfold plI
  rw [nB_push, List.reverse_append, List.reverse_singleton, show 16 - (k + 1) = 15 - k by omega]
  have e : nB 256 k (plS iv n (k + 1)) = nB 256 k (plS iv n k) := by
    rw [plS_succ h n hk, ← nB_mod 256 k (_ + _), Nat.add_mul_mod_self_left, nB_mod]
  rw [e, show 16 - k = (15 - k) + 1 by omega, List.take_succ_eq_append_getElem (by omega), List.append_assoc, List.set_append_right _ _ (by rw [List.length_take]; omega), List.length_take, show 15 - k - min (15 - k) iv.length = 0 by omega]
  rfl
theorem iand255 {a : Nat} (h : a < 18446744073709551616) : iand .u64 (a : Int) 255 = ((a % 256 : Nat) : Int) := by
  rw [← cst 255, iandN .u64 h (by decide)]
  congr 1
  exact Nat.and_two_pow_sub_one_eq_mod a 8
theorem u64id {n : Nat} (h : n < 18446744073709551616) : IntKind.u64.wrap (n : Int) = (n : Int) := by rw [w64]; omega

set_option maxRecDepth 100000 in
theorem m82 : Meets Try.prog 82 sp82 := by
  refine meets_of_owed (C := c74) ⟨tab_ok, fun f s h => by cases h⟩ (by kernel_rfl) (by kernel_rfl : Try.prog.funcs[82]? = some Try.f82) (by kernel_rfl) (by kernel_rfl) (by kernel_rfl) _ ?_
  rintro _ ⟨iv, n, rfl, hiv, hn⟩
  refine ⟨fun _ => rfl, inv82 iv n, ?_⟩
  show owed c74 (inv82 iv n) Try.f82 [b16 iv, u64n n] (b16 (plL iv n))
  rw [vc82]
  have hl := hiv.2
  simp (decide := true) only [eq_self, true_and, and_true, ne_eq, not_false_eq_true, Int.toNat_natCast]
  refine ⟨?_, ?_⟩
  · have e0 : ((15 : Int) - 15).toNat = 0 := rfl
    rw [e0]
    refine ⟨⟨rfl, ?_, ?_⟩, ?_⟩
    · simp [plS, vB, Nat.mod_one]
    · rw [Nat.pow_zero, Nat.div_one]
    · refine b16c ?_
      simp [plI, nB, List.take_of_length_le (Nat.le_of_eq hl)]
  intro k hk
  split
  · rename_i h
    have h := of_decide_eq_true h
    have hk : k < 16 := by omega
    have e1 : ((15 : Int) - (k : Int)) = ((15 - k : Nat) : Int) := by omega
    have e2 : IntKind.i64.wrap (((15 - k : Nat) : Int) - 1) = 15 - ((k + 1 : Nat) : Int) := by rw [wi (by omega) (by omega)]; omega
    have e3 : ((15 : Int) - (15 - ((k + 1 : Nat) : Int))).toNat = k + 1 := by omega
    obtain ⟨b, hb, hb2⟩ := okb_get hiv.1 (i := 15 - k) (by omega)
    have s1 := plS_div hl n hk
    have s2 := plS_lt hiv n (k := k) (by omega)
    rw [hb, Int.toNat_natCast] at s1
    have hd1 : n / 256 ^ k < 18446744073709551616 := Nat.lt_of_le_of_lt (Nat.div_le_self _ _) hn
    have s3 : n / 256 ^ k % 256 < 256 := Nat.mod_lt _ (by decide)
    rw [e1, e2, e3, Int.toNat_natCast, plI_get hl n hk, hb, iand255 hd1, u64id (n := b) (by omega), show ((b : Int) + ((n / 256 ^ k % 256 : Nat) : Int)) = ((b + n / 256 ^ k % 256 : Nat) : Int) from rfl, u64id (n := b + n / 256 ^ k % 256) (by omega),
      show (((plS iv n k / 256 ^ k : Nat) : Int) + ((b + n / 256 ^ k % 256 : Nat) : Int)) = ((plS iv n k / 256 ^ k + (b + n / 256 ^ k % 256) : Nat) : Int) from rfl, u64id (n := plS iv n k / 256 ^ k + (b + n / 256 ^ k % 256)) (by omega), ← s1]
    have f1 : ishr .u64 ((plS iv n (k + 1) / 256 ^ k : Nat) : Int) 8 = ((plS iv n (k + 1) / 256 ^ (k + 1) : Nat) : Int) := by
      rw [← cst 8, ishrN .u64 (by decide), Nat.pow_succ 256 k, ← Nat.div_div_eq_div_mul]
    have f2 : ishr .u64 ((n / 256 ^ k : Nat) : Int) 8 = ((n / 256 ^ (k + 1) : Nat) : Int) := by
      rw [← cst 8, ishrN .u64 (by decide), Nat.pow_succ 256 k, ← Nat.div_div_eq_div_mul]
    have f3 : IntKind.u8.wrap ((plS iv n (k + 1) / 256 ^ k : Nat) : Int) = ((plS iv n (k + 1) / 256 ^ k % 256 : Nat) : Int) := by rw [w8]; omega
    rw [f1, f2, f3, plI_set hl n hk]
    and_intros <;> first | exact True.intro | omega | rfl | decide
  · rename_i h
    have h := of_decide_eq_false h
    have hk : k = 16 := by omega
    subst hk
    have e : plI iv n 16 = plL iv n := by
      unfold plI plL plS bv
      rw [List.take_of_length_le (l := iv.reverse) (by rw [List.length_reverse]; omega), Nat.mod_eq_of_lt (Nat.lt_trans hn (by decide))]
      rfl
    rw [e]
end Go.Proofs.Ytnadggcfdakpoaa
/- package mode: Stream. -/
namespace Go.Proofs.Ytnadggcfdakpoaa
open Go Go.Vg

theorem atW {a x : Nat} (hx : x < 9223372036854775808) : IntKind.u64.wrap ((a : Int) + IntKind.u64.wrap (x : Int)) = ((atN a x : Nat) : Int) := by
  rw [u64id (by omega), w64]
  unfold atN
  omega
theorem td16 (x : Nat) : (x : Int).tdiv 16 = ((x / 16 : Nat) : Int) := by
  rw [Int.tdiv_eq_ediv_of_nonneg (by omega)]
  omega
theorem atN_lt (a x : Nat) : atN a x < 18446744073709551616 := Nat.mod_lt _ (by decide)
theorem atQ (a x : Nat) : IntKind.u64.wrap ((atN a x / 16 : Nat) : Int) = ((atN a x / 16 : Nat) : Int) := u64id (by have := atN_lt a x; omega)
theorem plL_ok (iv : List Int) (n : Nat) : isB 16 (plL iv n) := ⟨fun y hy => nB_ok (by decide) _ _ _ (List.mem_reverse.1 hy), by unfold plL; rw [List.length_reverse, nB_length]⟩
theorem stP_ok {w : List Int} (hw : isB 240 w) (R : Nat) (iv : List Int) (a i : Nat) : isB 16 (stP w R iv a i) := enS_ok hw.1 (plL_ok _ _).1 _ _
theorem z16_ok : isB 16 z16 := ⟨fun y hy => by rw [List.eq_of_mem_replicate hy]; decide, rfl⟩
theorem pdI_ok {w : List Int} (hw : isB 240 w) (R : Nat) (iv : List Int) (a i : Nat) : isB 16 (pdI w R iv a i) := by
  unfold pdI
  split
  · exact z16_ok
  · exact stP_ok hw _ _ _ _
theorem pdI_succ (w : List Int) (R : Nat) (iv : List Int) (a i : Nat) : pdI w R iv a (i + 1) = stP w R iv a i := by
  unfold pdI
  rw [if_neg (by omega), Nat.add_sub_cancel]
/-- The block is the same as long as no new one begins. -/
theorem pdI_same {w : List Int} {R : Nat} {iv : List Int} {a i : Nat} (h0 : i ≠ 0) (h : atN a (i - 1) / 16 = atN a i / 16) : pdI w R iv a i = stP w R iv a i := by
  unfold pdI stP
  rw [if_neg h0, h]
theorem at_same {a i : Nat} (h0 : i ≠ 0) (h : atN a i % 16 ≠ 0) : atN a (i - 1) / 16 = atN a i / 16 := by
  unfold atN at *
  omega
theorem stmL_len (w : List Int) (R : Nat) (iv : List Int) (a : Nat) (p : List Int) (n : Nat) : (stmL w R iv a p n).length = n := by simp [stmL]
theorem stmL_succ (w : List Int) (R : Nat) (iv : List Int) (a : Nat) (p : List Int) (n : Nat) : stmL w R iv a p (n + 1) = stmL w R iv a p n ++ [ixor .u8 (p.getD n 0) ((stP w R iv a n).getD (atN a n % 16) 0)] := by
  unfold stmL
  rw [List.range_succ, List.map_append, List.map_singleton]
theorem stm_set {w : List Int} {R : Nat} {iv : List Int} {a : Nat} {p : List Int} {n : Nat} (h : n < p.length) :
    (stmL w R iv a p n ++ List.replicate (p.length - n) 0).set (0 + n) (ixor .u8 (p.getD n 0) ((stP w R iv a n).getD (atN a n % 16) 0)) = stmL w R iv a p (n + 1) ++ List.replicate (p.length - (n + 1)) 0 := by
  rw [Nat.zero_add, List.set_append_right _ _ (by rw [stmL_len]; exact Nat.le_refl _), stmL_len, Nat.sub_self, stmL_succ, show p.length - n = (p.length - (n + 1)) + 1 by omega, List.replicate_succ, List.set_cons_zero, List.append_assoc]
  rfl
theorem ar16 {n : Nat} {a b : List Int} (h : a = b) : some (Blk.fix (.arr .u8 n a)) = some (Blk.fix (.arr .u8 n b)) := by rw [h]

set_option maxRecDepth 100000 in
theorem m21 : Meets Try.prog 21 sp21 := by
  refine meets_of_owed (C := c21) ⟨tab_ok, lkS_ok ⟨m82, m25, trivial⟩⟩ (by kernel_rfl) (by kernel_rfl : Try.prog.funcs[21]? = some Try.f21) (by kernel_rfl) (by kernel_rfl) (by kernel_rfl) _ ?_
  rintro _ ⟨w, R, iv, a, p, rfl, hw, hR, hiv, ha, hp, hlp⟩
  refine ⟨(by intro h; cases h), inv21 w R iv a p, ?_⟩
  show owed c21 (inv21 w R iv a p) Try.f21 [keyD w ((R : Nat) : Int), b16 iv, u64n a, .ints .u8 p] (.ints .u8 (stmL w R iv a p p.length))
  rw [vc21]
  have hlp : p.length ≤ 140737488351232 := hlp
  simp (decide := true) only [eq_self, true_and, and_true, ne_eq, not_false_eq_true, Int.toNat_natCast]
  refine ⟨⟨by omega, by omega⟩, ?_, ?_⟩
  · and_intros <;> first | exact True.intro | omega | rfl | decide
  intro x hx
  split
  · rename_i h
    have h := of_decide_eq_true h
    have hx : x < p.length := by omega
    have hst := stP_ok hw R iv a
    rw [atW (by omega), td16, atQ, tm16]
    have hk := atN_lt a x
    have hq : IntKind.i64.wrap ((x : Int) + 1) = ((x + 1 : Nat) : Int) := by rw [wi (by omega) (by omega)]; rfl
    have hbe : (((x : Int) == 0) = true → x = 0) ∧ (((x : Int) == 0) = false → x ≠ 0) := by
      constructor
      · intro h; have := eq_of_beq h; omega
      · intro h h2; subst h2; exact absurd h (by decide)
    have tail : ∀ z : Nat, (z : Int) = (x : Int) → (stmL w R iv a p x ++ List.replicate (p.length - x) 0).set (0 + x) (ixor IntKind.u8 (p.getD x 0) ((stP w R iv a z).getD (atN a x % 16) 0)) = stmL w R iv a p (x + 1) ++ List.replicate (p.length - (x + 1)) 0 := by
      intro z hz
      obtain rfl : z = x := by omega
      exact stm_set hx
    simp only [Int.toNat_natCast, hq, pdI_succ]
    split
    · and_intros <;> first | exact True.intro | exact ⟨iv, atN a x / 16, rfl, hiv, by omega⟩ | exact ⟨w, R, _, rfl, hw, plL_ok _ _, hR⟩ | skip
      all_goals first | omega | rfl | decide | skip
      intro z hz
      obtain rfl : z = x := by omega
      rw [stm_set hx]
      and_intros <;> first | exact True.intro | omega | rfl | decide
    · rename_i h0
      have h0 := hbe.2 h0
      refine ⟨⟨by omega, by omega⟩, ?_, ?_⟩
      · split
        · and_intros <;> first | exact True.intro | exact ⟨iv, atN a x / 16, rfl, hiv, by omega⟩ | exact ⟨w, R, _, rfl, hw, plL_ok _ _, hR⟩ | omega | rfl
        · rename_i h1
          have h1 : atN a x % 16 ≠ 0 := by
            intro h2; rw [h2] at h1; exact absurd h1 (by decide)
          have h3 := b16c (pdI_same (w := w) (R := R) (iv := iv) h0 (at_same h0 h1))
          and_intros <;> first | exact True.intro | exact h3 | omega | rfl
      intro z hz
      obtain rfl : z = x := by omega
      rw [stm_set hx]
      and_intros <;> first | exact True.intro | omega | rfl | decide
  · rename_i h
    have h := of_decide_eq_false h
    have hx : x = p.length := by omega
    subst hx
    rw [Nat.sub_self]
    have e := List.take_of_length_le (Nat.le_of_eq (stmL_len w R iv a p p.length))
    and_intros <;> first | exact True.intro | omega | rfl | (simp [e]; done) | decide
end Go.Proofs.Ytnadggcfdakpoaa
/- The reference's Streamed. -/
namespace Go.Proofs.Ytnadggcfdakpoaa
open Go Go.Vg

theorem bv_lt {l : List Int} (h : okb l) : bv l < 256 ^ l.length := by
  have := vB_lt (b := 256) (l := l.reverse) fun y hy => h y (List.mem_reverse.1 hy)
  rwa [List.length_reverse] at this
theorem bv_push {l : List Int} {j : Nat} (h : j < l.length) : bv (l.take (j + 1)) = bv (l.take j) * 256 + (l.getD j 0).toNat := by
  unfold bv
  rw [List.take_succ_eq_append_getElem h, List.reverse_append, List.reverse_singleton, List.singleton_append, vB, List.getD_eq_getElem?_getD, List.getElem?_eq_getElem h]
  show (l[j]).toNat + 256 * _ = _ * 256 + (l[j]).toNat
  omega
theorem bv_take_lt {iv : List Int} (h : isB 16 iv) {j : Nat} (hj : j ≤ 16) : bv (iv.take j) < 256 ^ 16 := by
  refine Nat.lt_of_lt_of_le (bv_lt fun y hy => h.1 y (List.mem_of_mem_take hy)) (Nat.pow_le_pow_right (by decide) ?_)
  rw [List.length_take]; omega
theorem lenN {n : Nat} (h : n < 65536 ^ 20) : okd (dg n) ∧ lenS (dg n) ∧ len1 (dg n) ∧ lenOk (dg n) :=
  ⟨dg_ok _, (len_ok (k := 20) h (by decide)).1, Nat.le_trans (dg_len 20 _ h) (by decide), (len_ok (k := 20) h (by decide)).2⟩
theorem one_ok {x : Int} (h : 0 ≤ x ∧ x < 65536) : okd [x] ∧ lenS [x] ∧ len1 [x] := by
  refine ⟨?_, by unfold lenS; rw [List.length_singleton]; decide, by unfold len1; rw [List.length_singleton]; decide⟩
  intro y hy
  obtain rfl := List.mem_singleton.1 hy
  exact h
theorem vD_one (x : Int) : vD [x] = x.toNat := by
  show x.toNat + 65536 * 0 = _
  omega
theorem vu_one (x : Int) : vB 18446744073709551616 [x] = x.toNat := by
  show x.toNat + 18446744073709551616 * 0 = _
  omega
theorem vD_dgP (n : Nat) : vD (dgP n) = 2 ^ n := by
  have e : dgP n = dg (2 ^ n) := opq_eq _
  rw [e]
  exact vl_dg _
theorem rev_set (k W : Nat) (h : k < 16) : (List.replicate (16 - k) 0 ++ (nB 256 k W).reverse).set (15 - k) ((W / 256 ^ k % 256 : Nat) : Int) = List.replicate (16 - (k + 1)) 0 ++ (nB 256 (k + 1) W).reverse := by
  rw [nB_push, List.reverse_append, List.reverse_singleton, show 16 - k = (15 - k) + 1 by omega, show 16 - (k + 1) = 15 - k by omega, List.replicate_succ', List.append_assoc, List.set_append_right _ _ (by rw [List.length_replicate]; exact Nat.le_refl _), List.length_replicate, Nat.sub_self]
  rfl
theorem hvI_succ (a i : Nat) : hvI a (i + 1) = atN a i / 16 := by
  unfold hvI
  rw [if_neg (by omega), Nat.add_sub_cancel]
theorem ivW_dig (iv : List Int) (n k : Nat) : dig (dg (ivW iv n / 256 ^ k % 256)) 0 = ((ivW iv n / 256 ^ k % 256 : Nat) : Int) := by
  have := dig_nat (dg_ok (ivW iv n / 256 ^ k % 256)) 0
  rw [vl_dg, Nat.pow_zero, Nat.div_one, Nat.mod_eq_of_lt (Nat.lt_trans (Nat.mod_lt _ (by decide)) (by decide))] at this
  exact this
theorem ivW_pl (iv : List Int) (n : Nat) : (nB 256 16 (ivW iv n)).reverse = plL iv n := by
  unfold ivW plL
  rw [← nB_mod 256 16 (bv iv + n)]

theorem fork2 (c1 c2 : Bool) {A B T : Prop} (hA : A) (hB : c1 = false → c2 = false → B) (hT : T) : match (generalizing := false) c1 with
    | true => A ∧ T
    | false => (match (generalizing := false) c2 with
      | true => A
      | false => B) ∧ T := by
  cases c1
  · cases c2
    · exact ⟨hB rfl rfl, hT⟩
    · exact ⟨hA, hT⟩
  · exact ⟨hA, hT⟩

set_option maxHeartbeats 1000000 in
set_option maxRecDepth 100000 in
theorem m22 : Meets Try.prog 22 sp22 := by
  refine meets_of_owed (C := c22) ⟨tab_ok, lkS_ok ⟨m83, m63, m64, m66, m84, m73, m74, m26, trivial⟩⟩ (by kernel_rfl) (by kernel_rfl : Try.prog.funcs[22]? = some Try.f22) (by kernel_rfl) (by kernel_rfl) (by kernel_rfl) _ ?_
  rintro _ ⟨W, bx, ux, iv, a, p, rfl, hW, hW4, hW60, hX, hiv, ha, hp, hlp⟩
  refine ⟨fun _ => rfl, inv22 (flW W) (W.length / 4 - 1) iv a p, ?_⟩
  show owed c22 (inv22 (flW W) (W.length / 4 - 1) iv a p) Try.f22 [.ref (cipD W bx ux), b16 iv, u64n a, .str p] (.str (stmL (flW W) (W.length / 4 - 1) iv a p p.length))
  rw [vc22]
  have hlp : p.length ≤ 140737488351232 := hlp
  simp (decide := true) only [eq_self, true_and, and_true, ne_eq, not_false_eq_true, Int.toNat_natCast]
  refine ⟨?_, ?_⟩
  · and_intros <;> first | exact True.intro | omega | rfl | decide
  intro x hx
  split
  · rename_i h
    have h := of_decide_eq_true h
    have hx : x < p.length := by omega
    rw [atW (by omega), td16, atQ, tm16]
    have hk := atN_lt a x
    have hq : IntKind.i64.wrap ((x : Int) + 1) = ((x + 1 : Nat) : Int) := by rw [wi (by omega) (by omega)]; rfl
    simp only [Int.toNat_natCast, hq, pdI_succ, hvI_succ]
    refine fork2 _ _ ?_ ?_ ?_
    · generalize hK : atN a x / 16 = K
      have hK2 : K < 18446744073709551616 := by omega
      have k1 : okw [(K : Int)] := by
        intro y hy
        obtain rfl := List.mem_singleton.1 hy
        omega
      have k2 := lenN (n := K) (Nat.lt_trans hK2 (by decide))
      have k3 := one_ok (x := 256) (by decide)
      have n0 : okd ([] : List Int) ∧ lenS ([] : List Int) := ⟨fun y hy => (by cases hy), by unfold lenS; decide⟩
      have p16 : (256 : Nat) ^ 16 = 340282366920938463463374607431768211456 := rfl
      simp only [vl_dg, vu_one, vD_one, vD_dgP, Int.toNat_natCast, show vB 65536 ([] : List Int) = 0 from rfl, Nat.add_zero]
      refine ⟨⟨_, rfl, k1, by rw [List.length_singleton]; decide⟩, ⟨_, _, rfl, ⟨k2.1, k2.2.1⟩, n0⟩, ⟨rfl, rfl⟩, ?_⟩
      intro j hj
      have b1 := bv_take_lt hiv hj
      have c1 := lenN (n := bv (iv.take j)) (Nat.lt_trans b1 (by decide))
      split
      · rename_i h
        have h := of_decide_eq_true h
        have hj : j < 16 := by omega
        obtain ⟨b, hb, hb2⟩ := okb_get hiv.1 (i := j) (by rw [hiv.2]; exact hj)
        have e1 : IntKind.i64.wrap ((j : Int) + 1) = ((j + 1 : Nat) : Int) := by rw [wi (by omega) (by omega)]; rfl
        have e2 : IntKind.i64.wrap (b : Int) = (b : Int) := wi (by omega) (by omega)
        have e3 := bv_push (l := iv) (j := j) (by rw [hiv.2]; exact hj)
        rw [hb] at e3
        rw [hb, e1, e2, Int.toNat_natCast, Int.toNat_natCast, e3, Int.toNat_natCast]
        have c2 := lenN (n := bv (iv.take j) * 256) (by rw [p16] at b1; exact Nat.lt_trans (Nat.mul_lt_mul_of_pos_right b1 (by decide)) (by decide))
        have c3 := one_ok (x := (b : Int)) (by omega)
        exact ⟨⟨by omega, by omega⟩, ⟨_, _, rfl, ⟨c1.1, c1.2.1⟩, k3.1, k3.2.1⟩, ⟨_, _, rfl, ⟨c2.1, c2.2.1⟩, c3.1, c3.2.1⟩, ⟨rfl, rfl⟩, by omega, by omega⟩
      · rename_i h
        have h := of_decide_eq_false h
        have hj : j = 16 := by omega
        subst hj
        have ei : iv.take 16 = iv := List.take_of_length_le (Nat.le_of_eq hiv.2)
        rw [ei] at b1 c1 ⊢
        have c2 := lenN (n := bv iv + K) (by rw [p16] at b1; exact Nat.lt_trans (Nat.add_lt_add b1 hK2) (by decide))
        have eP : dgP 128 = dg (2 ^ 128) := opq_eq _
        have c4 := lenN (n := 2 ^ 128) (by decide)
        rw [← eP] at c4
        have e0 : ((15 : Int) - 15).toNat = 0 := rfl
        have e2 : (2 : Nat) ^ 128 = 340282366920938463463374607431768211456 := rfl
        refine ⟨⟨_, _, rfl, ⟨c1.1, c1.2.1⟩, k2.1, k2.2.1⟩, ⟨_, rfl, by omega, by omega⟩, ⟨_, _, rfl, ⟨c2.1, c2.2.2.1⟩, ⟨c4.1, c4.2.2.1⟩, (by show vD (dgP 128) ≠ 0; rw [vD_dgP]; decide)⟩, ?_, ?_⟩
        · rw [e0, Nat.pow_zero, Nat.div_one, e2]
          and_intros <;> first | exact True.intro | omega | rfl | decide
        rintro ⟨t, n⟩ ⟨ht, hn⟩
        have hn : n = K := by omega
        subst hn
        have ht : t ≤ 16 := ht
        have w1 : ivW iv n < 340282366920938463463374607431768211456 := Nat.mod_lt _ (by decide)
        have w2 : ivW iv n / 256 ^ t < 340282366920938463463374607431768211456 := Nat.lt_of_le_of_lt (Nat.div_le_self _ _) w1
        have c5 := lenN (n := ivW iv n / 256 ^ t) (Nat.lt_trans w2 (by decide))
        have c6 := lenN (n := ivW iv n / 256 ^ t % 256) (Nat.lt_trans (Nat.mod_lt _ (by decide)) (by decide))
        simp only []
        split
        · rename_i h
          have h := of_decide_eq_true h
          have ht : t < 16 := by omega
          have d1 : ((15 : Int) - (t : Int)) = ((15 - t : Nat) : Int) := by omega
          have d2 : IntKind.i64.wrap (((15 - t : Nat) : Int) - 1) = 15 - ((t + 1 : Nat) : Int) := by rw [wi (by omega) (by omega)]; omega
          have d3 : ((15 : Int) - (15 - ((t + 1 : Nat) : Int))).toNat = t + 1 := by omega
          have d4 : ∀ l : List Int, l.reverseAux [] = l.reverse := fun _ => rfl
          have d5 := ivW_dig iv n t
          have d6 : ivW iv n / 256 ^ t / 256 = ivW iv n / 256 ^ (t + 1) := by rw [Nat.pow_succ 256 t, ← Nat.div_div_eq_div_mul]
          have d7 : Int.toNat 256 = 256 := rfl
          rw [d1, d2, d3, d4, d4, Int.toNat_natCast, d7, d5, d6, wN8, Nat.mod_mod, rev_set t (ivW iv n) ht]
          refine ⟨⟨_, _, rfl, ⟨c5.1, c5.2.2.1⟩, ⟨k3.1, k3.2.2⟩, (by decide)⟩, ⟨_, _, rfl, c6.2.2.2⟩, ⟨by omega, by omega⟩, by omega, ⟨⟨rfl, rfl⟩, rfl⟩, ⟨by omega, trivial⟩, by omega⟩
        · rename_i h
          have h := of_decide_eq_false h
          have ht : t = 16 := by omega
          subst ht
          have d4 : ∀ l : List Int, l.reverseAux [] = l.reverse := fun _ => rfl
          rw [d4, Nat.sub_self]
          have d5 : List.replicate 0 (0 : Int) ++ (nB 256 16 (ivW iv n)).reverse = plL iv n := by rw [ivW_pl]; rfl
          rw [d5, ← hK]
          have d6 := plL_ok iv (atN a x / 16)
          and_intros <;> first | exact True.intro | exact ⟨W, bx, ux, _, rfl, hW, hW4, hW60, hX, d6⟩ | omega | rfl | decide
    · intro h1 h2
      have h1 : x ≠ 0 := by
        intro h; subst h; exact absurd h1 (by decide)
      have h2 : atN a (x - 1) / 16 = atN a x / 16 := by
        have h3 : (((atN a x / 16 : Nat) : Int) != ((hvI a x : Nat) : Int)) = false := h2
        have h4 := bne_eq_false_iff_eq.1 h3
        have e : hvI a x = atN a (x - 1) / 16 := by unfold hvI; rw [if_neg h1]
        rw [e] at h4
        omega
      have e : hvI a x = atN a x / 16 := by unfold hvI; rw [if_neg h1, h2]
      rw [e, pdI_same h1 h2]
      exact ⟨rfl, rfl⟩
    · intro z hz
      obtain rfl : z = x := by omega
      have hwb := flW_ok hW
      have g1 := okb_g hp z
      have g2 := okb_g (enS_ok hwb (plL_ok iv (atN a z / 16)).1 (W.length / 4 - 1) (W.length / 4 - 1)).1 (atN a z % 16)
      have g3 := ixor_ok g1 g2
      have g4 : isBytes [ixor IntKind.u8 (p.getD z 0) ((stP (flW W) (W.length / 4 - 1) iv a z).getD (atN a z % 16) 0)] := by
        intro y hy
        obtain rfl := List.mem_singleton.1 hy
        exact g3
      rw [← stmL_succ, stmL_len]
      and_intros <;> first | exact True.intro | exact g4 | omega | rfl | decide
  · rename_i h
    have h := of_decide_eq_false h
    have hx : x = p.length := by omega
    subst hx
    and_intros <;> first | exact True.intro | omega | rfl | decide
end Go.Proofs.Ytnadggcfdakpoaa
