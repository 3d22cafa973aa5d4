/- ModeStreams: the law. -/
import Derived.Test.YtnadggcfdakpoaaZb13
namespace Go.Proofs.Ytnadggcfdakpoaa
open Go Go.Vg

noncomputable def c4 : Ctx := ⟨tab, lkS [(19, sp19), (20, sp20), (21, sp21), (22, sp22)], [], []⟩
noncomputable def c4b : Ctx := ⟨tab, lkS [(19, sp19), (20, sp20b), (21, sp21), (22, sp22)], [], []⟩
--KEEP List.replicate HXor.hXor Go.Vg.eqB Go.Vg.opq boxP Go.Vg.gm Go.Vg.gpw Go.Vg.giv Go.Vg.rl8 Go.Vg.gbx Go.Vg.gux Go.Vg.gcl Go.Vg.gce Go.Vg.gub Go.Vg.gia Go.Vg.boxL Go.Vg.gax Go.Vg.gan Go.Vg.gsb Go.Vg.clm Go.Vg.red pwL okb sbI suI selL s4L adK colL eaL shL usL trL rowL adR mxR flW okW isB z16 enS enL deS deL okX shR usR Go.Vg.chunks z240 prL trn tuL wdL fwS fwL okN kexW kexR kexE boxU bv plL plS plI atN stP pdI stmL hvI ivW lenP
set_option maxRecDepth 100000 in
theorem ok22  (d : D)  :
    (OkT tab 8 22 d) = (
 ∃ (z : Int), d = D.val (Value.int IntKind.u64 z) ∧ (0 : Int) ≤ z ∧ z ≤ IntKind.u64.max) := by kernel_rfl
set_option maxRecDepth 100000 in
theorem vc4  (key iv : List Int) (a : Nat) (p : List Int) (F : D)  :
    (owed c4 (fun _ => none) Try.f4 [.ints .u8 key, b16 iv, u64n a, .ints .u8 p] F) = (
 (True ∧ false = false) ∧
 True ∧
 True ∧
 (∃ (key_1 : List Int), [D.ints IntKind.u8 key] = [D.ints IntKind.u8 key_1] ∧ okb key_1 ∧ key_1.length ≤ (140737488351232 : Nat)) ∧
 True ∧
 ((0 : Nat) < (2 : Nat) ∧ false = false) ∧
 ((1 : Nat) < (2 : Nat) ∧ false = false) ∧
 (True ∧ (241 : Nat) ≠ (0 : Nat)) ∧
 (Sk.st [Sk.arr (240 : Nat), Sk.one] = Sk.st [Sk.arr (240 : Nat), Sk.one] ∧ (241 : Nat) ≠ (0 : Nat) ∧ (241 : Nat) = (241 : Nat) ∧ false = false) ∧
 True ∧
 True ∧
 isBytes key ∧
 ((∃ (key_1 : List Int), [D.str key] = [D.str key_1] ∧ okb key_1 ∧ okN key_1) ∧ True) ∧
 True ∧
 True ∧
 ((0 : Nat) < (1 : Nat) ∧ false = false) ∧
 True ∧
 True ∧
 True ∧
 True ∧
 ((241 : Nat) ≠ (0 : Nat) ∧ (241 : Nat) = (241 : Nat) ∧ true = true) ∧
 ((16 : Nat) ≠ (0 : Nat) ∧ (16 : Nat) = (16 : Nat) ∧ true = true) ∧
 True ∧
 True ∧
 (∃ (w : List Int),
 ∃ (R : Nat),
 ∃ (iv_1 : List Int),
 ∃ (a_1 : Nat),
 ∃ (p_1 : List Int),
 [D.st [D.arr IntKind.u8 (240 : Nat) (kexW key), D.val (Value.int IntKind.i64 (kexR key))], D.arr IntKind.u8 (16 : Nat) iv, D.val (Value.int IntKind.u64 (↑a : Int)), D.ints IntKind.u8 p] =
 [D.st [D.arr IntKind.u8 (240 : Nat) w, D.val (Value.int IntKind.i64 (↑R : Int))], D.arr IntKind.u8 (16 : Nat) iv_1, D.val (Value.int IntKind.u64 (↑a_1 : Int)), D.ints IntKind.u8 p_1] ∧
 isB (240 : Nat) w ∧ R ≤ (14 : Nat) ∧ isB (16 : Nat) iv_1 ∧ a_1 < (18446744073709551616 : Nat) ∧ okb p_1 ∧ lenP p_1) ∧
 isBytes (stmL (kexW key) (kexR key).toNat iv (↑a : Int).toNat p p.length) ∧
 True ∧
 ((16 : Nat) ≠ (0 : Nat) ∧ (16 : Nat) = (16 : Nat) ∧ true = true) ∧
 True ∧
 True ∧
 isBytes p ∧
 (∃ (W : List D),
 ∃ (bx : List Int),
 ∃ (ux : List Int),
 ∃ (iv_1 : List Int),
 ∃ (a_1 : Nat),
 ∃ (p_1 : List Int),
 [(D.st [D.slc (4 : Nat) (chunks IntKind.u8 (4 : Nat) ((4 : Nat) * (key.length / (4 : Nat) + (7 : Nat))) (fwL (key.length / (4 : Nat)) key)), D.arr IntKind.u8 (256 : Nat) boxP, D.arr IntKind.u8 (256 : Nat) boxU]).ref, D.arr IntKind.u8 (16 : Nat) iv, D.val (Value.int IntKind.u64 (↑a : Int)), D.str p] =
 [(D.st [D.slc (4 : Nat) W, D.arr IntKind.u8 (256 : Nat) bx, D.arr IntKind.u8 (256 : Nat) ux]).ref, D.arr IntKind.u8 (16 : Nat) iv_1, D.val (Value.int IntKind.u64 (↑a_1 : Int)), D.str p_1] ∧
 okW W ∧ (4 : Nat) ≤ W.length ∧ W.length ≤ (60 : Nat) ∧ okX bx ux ∧ isB (16 : Nat) iv_1 ∧ a_1 < (18446744073709551616 : Nat) ∧ okb p_1 ∧ lenP p_1) ∧
 True ∧
 True ∧
 (false = false ∧ True) ∧
 D.val
 (Value.bool
 (eqB (stmL (kexW key) (kexR key).toNat iv (↑a : Int).toNat p p.length)
 (stmL (flW (chunks IntKind.u8 (4 : Nat) ((4 : Nat) * (key.length / (4 : Nat) + (7 : Nat))) (fwL (key.length / (4 : Nat)) key))) ((chunks IntKind.u8 (4 : Nat) ((4 : Nat) * (key.length / (4 : Nat) + (7 : Nat))) (fwL (key.length / (4 : Nat)) key)).length / (4 : Nat) - (1 : Nat)) iv (↑a : Int).toNat p p.length))) =
 F) := by kernel_rfl
set_option maxRecDepth 100000 in
theorem vc4b  (key iv : List Int) (a : Nat) (p : List Int) (F : D)  :
    (owed c4b (fun _ => none) Try.f4 [.ints .u8 key, b16 iv, u64n a, .ints .u8 p] F) = (
 (True ∧ false = false) ∧
 True ∧
 True ∧
 (∃ (key_1 : List Int), [D.ints IntKind.u8 key] = [D.ints IntKind.u8 key_1] ∧ okb key_1 ∧ key_1.length ≤ (140737488351232 : Nat)) ∧
 True ∧
 ((0 : Nat) < (2 : Nat) ∧ false = false) ∧
 ((1 : Nat) < (2 : Nat) ∧ false = false) ∧
 (True ∧ (241 : Nat) ≠ (0 : Nat)) ∧
 (Sk.st [Sk.arr (240 : Nat), Sk.one] = Sk.st [Sk.arr (240 : Nat), Sk.one] ∧ (241 : Nat) ≠ (0 : Nat) ∧ (241 : Nat) = (241 : Nat) ∧ false = false) ∧
 True ∧ True ∧ isBytes key ∧ (∃ (key_1 : List Int), [D.str key] = [D.str key_1] ∧ okb key_1 ∧ ¬okN key_1 ∧ key_1.length ≤ (140737488351232 : Nat)) ∧ True ∧ ((0 : Nat) < (2 : Nat) ∧ false = false) ∧ ((1 : Nat) < (2 : Nat) ∧ false = false) ∧ True ∧ True ∧ True ∧ True ∧ True ∧ True ∧ True ∧ True ∧ (false = false ∧ True) ∧ D.val (Value.bool (kexE key == (1 : Int))) = F) := by kernel_rfl
theorem stmL_congr {w v : List Int} {R : Nat} (h : ∀ m, m < 16 * (R + 1) → w.getD m 0 = v.getD m 0) (iv : List Int) (a : Nat) (p : List Int) (n : Nat) : stmL w R iv a p n = stmL v R iv a p n := by
  unfold stmL stP
  refine List.map_congr_left fun i _ => ?_
  rw [enL_congr h]
theorem okbArg {l : List Int} {z : Int} (a1 : ∀ x ∈ l, 0 ≤ x ∧ x ≤ IntKind.u8.max) (a3 : (l.length : Int) ≤ z) (hz : z ≤ 140737488351232) : okb l ∧ l.length ≤ 140737488351232 := by
  have e : IntKind.u8.max = 255 := rfl
  exact ⟨fun x hx => by have := a1 x hx; omega, by omega⟩
theorem args4 {ds : List D} (h : (lawSpec tab Try.f4.params.toList).pre ds) : ∃ key iv a p, ds = [.ints .u8 key, b16 iv, u64n a, .ints .u8 p] ∧ (okb key ∧ key.length ≤ 140737488351232) ∧ isB 16 iv ∧ a < 18446744073709551616 ∧ okb p ∧ lenP p := by
  have h : OkAll tab 8 [25, 38, 22, 25] ds := h
  match ds, h with
  | [x, y, z, w], h =>
    have h1 := h.1
    have h2 := h.2.1
    have h3 := h.2.2.1
    have h4 := h.2.2.2.1
    rw [ok25] at h1 h4
    rw [ok38] at h2
    rw [ok22] at h3
    obtain ⟨key, rfl, a1, _, a3⟩ := h1
    obtain ⟨b, rfl, b1, b2⟩ := h2
    obtain ⟨n, rfl, c1, c2⟩ := h3
    obtain ⟨p, rfl, d1, _, d3⟩ := h4
    have e : IntKind.u8.max = 255 := rfl
    have e2 : IntKind.u64.max = 18446744073709551615 := rfl
    obtain ⟨n, rfl⟩ : ∃ m : Nat, n = (m : Int) := ⟨n.toNat, by omega⟩
    exact ⟨key, b, n, p, rfl, ⟨fun x hx => by have := a1 x hx; omega, by omega⟩, ⟨fun x hx => by have := b2 x hx; omega, b1⟩, by omega, fun x hx => by have := d1 x hx; omega, by unfold lenP; omega⟩
  | _ :: _ :: _ :: _ :: _ :: _, h => cases h.2.2.2.2
  | [_, _, _], h => cases h.2.2.2
  | [_, _], h => cases h.2.2
  | [_], h => cases h.2

def pre4 : List D → Prop := fun ds => ∃ key iv a p, ds = [.ints .u8 key, b16 iv, u64n a, .ints .u8 p] ∧ (okb key ∧ key.length ≤ 140737488351232) ∧ (isB 16 iv ∧ a < 18446744073709551616 ∧ okb p ∧ lenP p) ∧ okN key
def pre4b : List D → Prop := fun ds => ∃ key iv a p, ds = [.ints .u8 key, b16 iv, u64n a, .ints .u8 p] ∧ (okb key ∧ key.length ≤ 140737488351232) ∧ (isB 16 iv ∧ a < 18446744073709551616 ∧ okb p ∧ lenP p) ∧ ¬ okN key
set_option maxRecDepth 100000 in
theorem m4b : Meets Try.prog 4 ⟨pre4b, (lawSpec tab Try.f4.params.toList).f, (lawSpec tab Try.f4.params.toList).flat, (lawSpec tab Try.f4.params.toList).ps⟩ := by
  refine meets_of_owed (C := c4b) ⟨tab_ok, lkS_ok ⟨m19, m20b, m21, m22, trivial⟩⟩ (by kernel_rfl) (by kernel_rfl : Try.prog.funcs[4]? = some Try.f4) (by kernel_rfl) (by kernel_rfl) (by kernel_rfl) _ ?_
  rintro _ ⟨key, iv, a, p, rfl, ⟨hk, hl⟩, hh, hN⟩
  refine ⟨fun _ => rfl, fun _ => none, ?_⟩
  show owed c4b (fun _ => none) Try.f4 [.ints .u8 key, b16 iv, u64n a, .ints .u8 p] (.val (.bool true))
  rw [vc4b]
  have e : kexE key = 1 := by unfold kexE; rw [if_neg hN]
  rw [e]
  and_intros <;> first | exact True.intro | exact ⟨_, rfl, hk, hl⟩ | exact ⟨_, rfl, hk, hN, hl⟩ | exact hk | rfl | decide
set_option maxRecDepth 100000 in
theorem m4a : Meets Try.prog 4 ⟨pre4, (lawSpec tab Try.f4.params.toList).f, (lawSpec tab Try.f4.params.toList).flat, (lawSpec tab Try.f4.params.toList).ps⟩ := by
  refine meets_of_owed (C := c4) ⟨tab_ok, lkS_ok ⟨m19, m20, m21, m22, trivial⟩⟩ (by kernel_rfl) (by kernel_rfl : Try.prog.funcs[4]? = some Try.f4) (by kernel_rfl) (by kernel_rfl) (by kernel_rfl) _ ?_
  rintro _ ⟨key, iv, a, p, rfl, ⟨hk, hl⟩, ⟨hiv, ha, hp, hlp⟩, hN⟩
  refine ⟨fun _ => rfl, fun _ => none, ?_⟩
  show owed c4 (fun _ => none) Try.f4 [.ints .u8 key, b16 iv, u64n a, .ints .u8 p] (.val (.bool true))
  rw [vc4]
  have hn48 : key.length / 4 = 4 ∨ key.length / 4 = 6 ∨ key.length / 4 = 8 := by unfold okN at hN; omega
  have eR : kexR key = ((key.length / 4 + 6 : Nat) : Int) := by unfold kexR; rw [if_pos hN]
  have eW : kexW key = fwL (key.length / 4) key := by unfold kexW; rw [if_pos hN]
  rw [eR, eW]
  generalize key.length / 4 = n at hn48 ⊢
  have hfw := fw_ok hk n
  generalize fwL n key = fw at hfw ⊢
  have hW := okW_ch hfw (c := 4 * (n + 7)) (by omega)
  have hx := okX_box
  have hc : ∀ m, m < 16 * (n + 6 + 1) → (flW (chunks .u8 4 (4 * (n + 7)) fw)).getD m 0 = fw.getD m 0 := fun m hm => flW_ch hfw (by omega) (by omega)
  have ee := stmL_congr hc iv a p p.length
  have er : 4 * (n + 7) / 4 - 1 = n + 6 := by omega
  have hs : isBytes (stmL fw (n + 6) iv a p p.length) := by
    intro y hy
    obtain ⟨i, hi, rfl⟩ := List.mem_map.1 hy
    exact ixor_ok (okb_g hp i) (okb_g (stP_ok hfw _ iv a i).1 _)
  simp only [Int.toNat_natCast, ch_len, er, ee, eqB_refl]
  have hWl : (chunks .u8 4 (4 * (n + 7)) fw).length = 4 * (n + 7) := ch_len _ _ _ _
  and_intros <;> first | exact True.intro | exact ⟨_, rfl, hk, hl⟩ | exact ⟨_, rfl, hk, hN⟩ | exact hk | exact hp | exact hs | exact ⟨fw, n + 6, iv, a, p, rfl, hfw, by omega, hiv, ha, hp, hlp⟩ | exact ⟨_, _, _, iv, a, p, rfl, hW, by omega, by omega, hx, hiv, ha, hp, hlp⟩ | rfl | decide

theorem m4 : Meets Try.prog 4 (lawSpec tab Try.f4.params.toList) := by
  refine meets_or pre4 pre4b m4a m4b ?_
  intro ds hds
  obtain ⟨key, iv, a, p, rfl, h1, h2⟩ := args4 hds
  by_cases hN : okN key
  · exact .inl ⟨key, iv, a, p, rfl, h1, h2, hN⟩
  · exact .inr ⟨key, iv, a, p, rfl, h1, h2, hN⟩

end Go.Proofs.Ytnadggcfdakpoaa
