/- The ring of package ring: Out and its helpers meet. -/
import Derived.Test.YtkicjckhkefnpaaZb11
namespace Go.Proofs.Ytkicjckhkefnpaa
open Go Go.Vg

set_option exponentiation.threshold 2000

theorem nB_isN (v : Nat) : isN (nB 18446744073709551616 4 v) := ⟨nB_okw 4 v, nB_length _ _ _⟩
theorem nB_is8 (v : Nat) : is8 (nB 18446744073709551616 8 v) := ⟨nB_okw 8 v, nB_length _ _ _⟩
theorem wv_nB8 (v : Nat) : vB 18446744073709551616 (nB 18446744073709551616 8 v) = v % 2 ^ 512 := vB_nB _ _ _
theorem vB_zpad (l : List Int) : vB 18446744073709551616 (l ++ [0, 0, 0, 0]) = wv l := by
  rw [vB_append]
  show vB _ l + _ * (0 + _ * (0 + _ * (0 + _ * (0 + _ * 0)))) = _
  simp
theorem pad_is8 {l : List Int} (h : isN l) : is8 (l ++ [0, 0, 0, 0]) := ⟨fun x hx => by
  rcases List.mem_append.1 hx with h1 | h1
  · exact h.1 x h1
  · simp at h1; subst h1; exact ⟨by decide, by decide⟩, by simp [h.2]⟩

set_option maxRecDepth 100000 in
theorem m80 : Meets Try.prog 80 sp80 := by
  refine meets_of_owed (C := c76) ⟨tab_ok, fun f s h => by cases h⟩ (by kernel_rfl) (by kernel_rfl : Try.prog.funcs[80]? = some Try.f80) (by kernel_rfl) (by kernel_rfl) (by kernel_rfl) _ ?_
  rintro _ ⟨l, rfl, hl⟩
  obtain ⟨a, b, c, d, e, f, g, i, rfl⟩ := eight hl
  refine ⟨fun _ => rfl, fun _ => none, ?_⟩
  show owed c76 (fun _ => none) Try.f80 [num8 [a, b, c, d, e, f, g, i]] (num4 [e, f, g, i])
  rw [vc80]
  and_intros <;> first | decide | rfl

set_option maxRecDepth 100000 in
theorem m26 : Meets Try.prog 26 sp26 := by
  refine meets_of_owed (C := c76) ⟨tab_ok, fun f s h => by cases h⟩ (by kernel_rfl) (by kernel_rfl : Try.prog.funcs[26]? = some Try.f26) (by kernel_rfl) (by kernel_rfl) (by kernel_rfl) _ ?_
  rintro _ ⟨l, rfl, hl⟩
  refine ⟨fun _ => rfl, fun _ => none, ?_⟩
  show owed c76 (fun _ => none) Try.f26 [.ref (ringD l)] (num4 l)
  rw [vc26]
  simp (decide := true) only [eq_self, true_and, and_true, ne_eq, not_false_eq_true, Int.toNat_natCast]

set_option maxRecDepth 100000 in
theorem m74 : Meets Try.prog 74 sp74 := by
  refine meets_of_owed (C := c74) ⟨tab_ok, lkS_ok ⟨m92, m83, m69, trivial⟩⟩ (by kernel_rfl) (by kernel_rfl : Try.prog.funcs[74]? = some Try.f74) (by kernel_rfl) (by kernel_rfl) (by kernel_rfl) _ ?_
  rintro _ ⟨l, a, rfl, hl, ha⟩
  refine ⟨fun _ => rfl, fun _ => none, ?_⟩
  show owed c74 (fun _ => none) Try.f74 [.ref (ringD l), num4 a] (num4 (nB 18446744073709551616 4 (wv a % wv l)))
  rw [vc74]
  have h1 := hl.2.2
  simp (decide := true) only [eq_self, true_and, and_true, ne_eq, not_false_eq_true, Int.toNat_natCast]
  refine ⟨⟨a, l, rfl, ha, hl.1⟩, ?_⟩
  split
  · rename_i h
    have h := of_decide_eq_true h
    have hlt : wv a < wv l := by
      unfold cmpN at h
      split at h
      · assumption
      · split at h <;> omega
    rw [Nat.mod_eq_of_lt hlt]
    have := nB_vB (b := 18446744073709551616) ha.1
    rw [ha.2] at this
    exact congrArg _ this.symm
  · have e : dvr (vB 18446744073709551616 (a ++ [0, 0, 0, 0])) (wv l) = wv a % wv l := by
      unfold dvr
      rw [if_neg (by omega), vB_zpad]
    refine ⟨⟨a, _, rfl, ha.2, rfl⟩, ⟨_, l, rfl, pad_is8 ha, hl.1⟩, ?_⟩
    exact congrArg (fun v => num4 (nB 18446744073709551616 4 v)) e

set_option maxRecDepth 100000 in
theorem m33 : Meets Try.prog 33 sp33 := by
  refine meets_of_owed (C := c33) ⟨tab_ok, lkS_ok ⟨m78, m79, m80, m75, m74, trivial⟩⟩ (by kernel_rfl) (by kernel_rfl : Try.prog.funcs[33]? = some Try.f33) (by kernel_rfl) (by kernel_rfl) (by kernel_rfl) _ ?_
  rintro _ ⟨l, t, rfl, hl, ht⟩
  refine ⟨fun _ => rfl, inv33 l t, ?_⟩
  show owed c33 (inv33 l t) Try.f33 [.ref (ringD l), num8 t] (num4 (nB 18446744073709551616 4 (redc (wv t) (wv l))))
  rw [vc33]
  simp (decide := true) only [eq_self, true_and, and_true, ne_eq, not_false_eq_true, Int.toNat_natCast]
  refine ⟨⟨by and_intros <;> first | rfl | trivial, outI_start ht⟩, ?_⟩
  rintro ⟨i, o, L⟩ ⟨hi, hI⟩
  simp only at hi hI ⊢
  split
  · rename_i h
    have h := of_decide_eq_true h
    have hi4 : i < 4 := by omega
    obtain ⟨a, ea, ha⟩ := okw_get hI.ok (i := i) (by have := hI.len; omega)
    have ek : IntKind.u64.wrap (L.getD i 0 * ((rgI (vB 18446744073709551616 l) : Nat) : Int)) = ((a * rgI (wv l) % 18446744073709551616 : Nat) : Int) := by
      rw [ea, w64, ← Int.natCast_mul]
      exact (Int.natCast_emod _ _).symm
    simp only [ek, Int.toNat_natCast]
    generalize hk : a * rgI (wv l) % 18446744073709551616 = k
    have hkB : k < 18446744073709551616 := by rw [← hk]; exact Nat.mod_lt _ (by decide)
    refine ⟨by omega, ⟨by and_intros <;> first | rfl | trivial, outJ_start hI⟩, ?_⟩
    rintro ⟨j, c, L1⟩ ⟨hj, hJ⟩
    simp only at hj hJ ⊢
    split
    · rename_i h2
      have h2 := of_decide_eq_true h2
      obtain ⟨b, q, eb, eq, hb, hq, hS⟩ := outJ_step hl.1 hJ hi4 (by omega) hkB
      have e1 : IntKind.i64.wrap ((i : Int) + (j : Int)) = ((i + j : Nat) : Int) := by rw [wi (by omega) (by omega)]; omega
      have e2 : IntKind.i64.wrap ((j : Int) + 1) = ((j + 1 : Nat) : Int) := by rw [wi (by omega) (by omega)]; omega
      have hc := hJ.car
      obtain ⟨s1, s2, s3⟩ := step_eq (k * b) q c (sq_leB hkB hb) hq hc
      have l1 : mulL k b < 18446744073709551616 := Nat.mod_lt _ (by decide)
      have l2 : adl (mulL k b) q 0 < 18446744073709551616 := Nat.mod_lt _ (by decide)
      have g1 : adl (adl (mulL k b) q 0) c 0 = stL k b q c := s1
      have g2 : mulH k b + adc (mulL k b) q 0 + adc (adl (mulL k b) q 0) c 0 = stH k b q c := s2
      have g3 : stH k b q c < 18446744073709551616 := s3
      have g4 : IntKind.u64.wrap (IntKind.u64.wrap (((mulH k b : Nat) : Int) + ((adc (mulL k b) q 0 : Nat) : Int)) + ((adc (adl (mulL k b) q 0) c 0 : Nat) : Int)) = ((stH k b q c : Nat) : Int) := by
        rw [← Int.natCast_add, wB (by omega), ← Int.natCast_add, wB (by omega), g2]
      simp only [e1, e2, Int.toNat_natCast, eb, eq, g1, g4]
      have p1 : ∃ x y : Nat, [u64n k, u64n b] = [u64n x, u64n y] ∧ x < 18446744073709551616 ∧ y < 18446744073709551616 := ⟨k, b, rfl, hkB, hb⟩
      have p2 : ∃ x y z : Nat, [u64n (mulL k b), u64n q, u64n 0] = [u64n x, u64n y, u64n z] ∧ x < 18446744073709551616 ∧ y < 18446744073709551616 ∧ z ≤ 1 := ⟨_, q, 0, rfl, l1, hq, by decide⟩
      have p3 : ∃ x y z : Nat, [u64n (adl (mulL k b) q 0), u64n c, u64n 0] = [u64n x, u64n y, u64n z] ∧ x < 18446744073709551616 ∧ y < 18446744073709551616 ∧ z ≤ 1 := ⟨_, c, 0, rfl, l2, hc, by decide⟩
      and_intros <;> first | exact p1 | exact p2 | exact p3 | exact hS | omega | rfl | trivial
    · rename_i h2
      have h2 := of_decide_eq_false h2
      obtain rfl : j = 4 := by omega
      have e1 : IntKind.i64.wrap ((i : Int) + 4) = ((i + 4 : Nat) : Int) := by rw [wi (by omega) (by omega)]; omega
      simp only [e1, Int.toNat_natCast]
      refine ⟨⟨by and_intros <;> first | rfl | trivial, outK_start hJ hi4⟩, ?_⟩
      rintro ⟨j2, c2, L2⟩ hK
      simp only at hK ⊢
      split
      · rename_i h3
        have h3 := of_decide_eq_true h3
        obtain ⟨q, eq, hq, hS⟩ := outK_step hK (by omega)
        have hc2 := hK.car
        have e2 : IntKind.i64.wrap ((j2 : Int) + 1) = ((j2 + 1 : Nat) : Int) := by rw [wi (by omega) (by omega)]; omega
        simp only [e2, Int.toNat_natCast, eq]
        have p3 : ∃ x y z : Nat, [u64n q, u64n c2, u64n 0] = [u64n x, u64n y, u64n z] ∧ x < 18446744073709551616 ∧ y < 18446744073709551616 ∧ z ≤ 1 := ⟨_, c2, 0, rfl, hq, hc2, by decide⟩
        and_intros <;> first | exact p3 | exact hS | omega | rfl | trivial
      · rename_i h3
        have h3 := of_decide_eq_false h3
        obtain rfl : j2 = 8 := by have := hK.le; omega
        have hN := out_next hl ht hI hi4 ea (by rw [hk]; exact hJ) hK
        have ho := out_o hl ht hN (by omega)
        have e2 : IntKind.i64.wrap ((i : Int) + 1) = ((i + 1 : Nat) : Int) := by rw [wi (by omega) (by omega)]; omega
        have e3 : IntKind.u64.wrap ((o : Int) + (c2 : Int)) = ((o + c2 : Nat) : Int) := by rw [← Int.natCast_add, wB (by omega)]
        simp only [e2, e3, Int.toNat_natCast]
        and_intros <;> first | exact hN | omega | rfl | trivial
  · rename_i h
    have h := of_decide_eq_false h
    obtain rfl : i = 4 := by omega
    obtain ⟨hN, hz, hp⟩ := out_end hl ht hI
    refine ⟨⟨L, rfl, hI.len⟩, ?_⟩
    split
    · rename_i h2
      have h2 := of_decide_eq_true h2
      have e := hp (by omega)
      refine ⟨⟨_, l, rfl, hN, hl.1⟩, ⟨l, _, rfl, hl, nB_isN _⟩, ?_⟩
      rw [wv_nB, Nat.mod_eq_of_lt (show dif (vB 18446744073709551616 (List.drop 4 L)) (vB 18446744073709551616 l) < 2 ^ 256 from Nat.mod_lt _ (by decide))]
      exact congrArg (fun v => num4 (nB 18446744073709551616 4 v)) e
    · rename_i h2
      have h2 := of_decide_eq_false h2
      have e := hz (by omega)
      refine ⟨⟨l, _, rfl, hl, hN⟩, ?_⟩
      exact congrArg (fun v => num4 (nB 18446744073709551616 4 v)) e

set_option maxRecDepth 100000 in
theorem m36 : Meets Try.prog 36 sp36 := by
  refine meets_of_owed (C := c36) ⟨tab_ok, lkS_ok ⟨m70, m33, trivial⟩⟩ (by kernel_rfl) (by kernel_rfl : Try.prog.funcs[36]? = some Try.f36) (by kernel_rfl) (by kernel_rfl) (by kernel_rfl) _ ?_
  rintro _ ⟨l, a, rfl, hl, ha⟩
  refine ⟨fun _ => rfl, fun _ => none, ?_⟩
  show owed c36 (fun _ => none) Try.f36 [.ref (ringD l), num4 a] (num4 (nB 18446744073709551616 4 (inM (wv a) (wv l))))
  rw [vc36]
  simp (decide := true) only [eq_self, true_and, and_true, ne_eq, not_false_eq_true, Int.toNat_natCast]
  have hA := wv_lt ha.1 ha.2
  have hM := wv_lt hl.1.1 hl.1.2
  have h1 := hl.2.2
  have hs : wv (rgS (wv l)) = 2 ^ 512 % wv l := by
    unfold rgS wv
    rw [wv_nB, Nat.mod_eq_of_lt]
    exact Nat.lt_trans (Nat.mod_lt _ (show 0 < vB 18446744073709551616 l from Nat.lt_trans (by decide) h1)) hM
  refine ⟨⟨a, _, rfl, ha, nB_isN _⟩, ⟨l, _, rfl, hl, nB_is8 _⟩, ?_⟩
  refine congrArg (fun v => num4 (nB 18446744073709551616 4 v)) ?_
  show redc (vB 18446744073709551616 (nB 18446744073709551616 8 (wv a * wv (rgS (wv l))))) (wv l) = wv a * 2 ^ 256 % wv l
  rw [hs, wv_nB8]
  have hmul : wv a * (2 ^ 512 % wv l) < 2 ^ 512 := by
    have h3 : 2 ^ 512 % wv l < 2 ^ 256 := Nat.lt_trans (Nat.mod_lt _ (by omega)) hM
    exact Nat.lt_of_lt_of_le (Nat.mul_lt_mul'' hA h3) (by rw [← Nat.pow_add]; exact Nat.le_refl _)
  rw [Nat.mod_eq_of_lt hmul]
  refine (redc_eq (y := wv a * 2 ^ 256 % wv l) h1 hM hl.2.1 (Nat.mod_lt _ (show 0 < wv l by omega)) ?_).symm
  rw [mm, mm2, Nat.mul_assoc, ← Nat.pow_add]

end Go.Proofs.Ytkicjckhkefnpaa
/- The ring of package ring: what its methods owe. -/
namespace Go.Proofs.Ytkicjckhkefnpaa
open Go Go.Vg

def powN (A N M : Nat) : Nat := A ^ N % M
def pwO (A N M i : Nat) : Nat := A ^ (N % 2 ^ i) % M
def pwA (A M i : Nat) : Nat := A ^ (2 ^ i) % M
def pwR (A N M k : Nat) : Nat := A ^ (N / 2 ^ k) * 2 ^ 256 % M
def sbM (A B M : Nat) : Nat := (A % M + M - B % M) % M
abbrev rgW (f : Nat → Nat → Nat → Nat) (ds : List D) : D := num4 (nB 18446744073709551616 4 (f (wv (arrOf (ds.getD 1 default))) (wv (arrOf (ds.getD 2 default))) (wv (mdOf (ds.headD default)))))
def rgP (ds : List D) : Prop := ∃ l a b, ds = [.ref (ringD l), num4 a, num4 b] ∧ rgOk l ∧ isN a ∧ isN b
def adM (A B M : Nat) : Nat := (A + B) % M
def mlM (A B M : Nat) : Nat := A * B % M
def sp27 : Go.Vg.Spec := ⟨fun ds => ∃ l a b, ds = [.ref (ringD l), num4 a, num4 b] ∧ rgOk l ∧ isN a ∧ isN b, fun ds => rgW adM ds, true, [51, 27, 27]⟩
def sp29 : Go.Vg.Spec := ⟨fun ds => ∃ l a b, ds = [.ref (ringD l), num4 a, num4 b] ∧ rgOk l ∧ isN a ∧ isN b, fun ds => rgW sbM ds, true, [51, 27, 27]⟩
def sp31 : Go.Vg.Spec := ⟨fun ds => ∃ l a b, ds = [.ref (ringD l), num4 a, num4 b] ∧ rgOk l ∧ isN a ∧ isN b, fun ds => rgW mlM ds, true, [51, 27, 27]⟩
def sp34 : Go.Vg.Spec := ⟨fun ds => ∃ l a b, ds = [.ref (ringD l), num4 a, num4 b] ∧ rgOk l ∧ isN a ∧ isN b, fun ds => rgW powN ds, true, [51, 27, 27]⟩
def n256 (n : Nat) : Prop := n < 2 ^ 256
noncomputable def sp35 : Go.Vg.Spec := ⟨fun ds => ∃ a n m, ds = [dgs (dg a), dgs (dg n), dgs (dg m)] ∧ n256 a ∧ n256 n ∧ n256 m ∧ 0 < m, fun ds => dgs (dg (powN (vD (intsOf (ds.headD default))) (vD (intsOf (ds.getD 1 default))) (vD (intsOf (ds.getD 2 default))))), false, [33, 33, 33]⟩
def sp39 : Go.Vg.Spec := ⟨fun ds => ∃ l, ds = [num8 l] ∧ okw l ∧ l.length = 8, fun ds => dgs (dg (vB 18446744073709551616 (arrOf (ds.headD default)))), false, [50]⟩
noncomputable def sp21 : Go.Vg.Spec := ⟨fun ds => ∃ l, ds = [num4 l] ∧ rgOk l, fun ds => .tup [ringD (arrOf (ds.headD default)), i64 0], true, [27, 8000000]⟩
def rgNo (l : List Int) : Prop := isN l ∧ (wv l % 2 = 0 ∨ wv l = 1)
def sp21b : Go.Vg.Spec := ⟨fun ds => ∃ l, ds = [num4 l] ∧ rgNo l, fun _ => .tup [.val (.pointer none), i64 1], true, [27]⟩
def refOf : D → List Int
  | .ref (.ints _ l) => l
  | _ => []
def sp23 : Go.Vg.Spec := ⟨fun ds => ∃ x k, ds = [dgs x, .ref (dgs k)] ∧ (okd x ∧ len1 x) ∧ (okd k ∧ len1 k) ∧ 0 < vD k ∧ n256 (vD k), fun ds => num4 (nB 18446744073709551616 4 (vD (intsOf (ds.headD default)) % vD (refOf (ds.getD 1 default)))), true, [33, 0]⟩
noncomputable def c27 : Ctx := ⟨tab, lkS [(74, sp74), (73, sp73), (75, sp75)], [], []⟩
noncomputable def c31 : Ctx := ⟨tab, lkS [(36, sp36), (70, sp70), (33, sp33)], [], []⟩
noncomputable def c34 : Ctx := ⟨tab, lkS [(36, sp36), (81, sp81), (70, sp70), (33, sp33), (82, sp82), (83, sp83)], [], [300014, 300015]⟩
noncomputable def c21 : Ctx := ⟨tab, lkS [(69, sp69), (70, sp70)], [], []⟩
noncomputable def c35 : Ctx := ⟨tab, lkS [(25, sp25), (84, sp84), (32, sp32)], [], []⟩
noncomputable def c39 : Ctx := ⟨tab, lkS [(57, sp57)], [], []⟩
noncomputable def c23 : Ctx := ⟨tab, lkS [(25, sp25), (24, sp24)], [], []⟩
structure NwI (m i x : Nat) : Prop where
  le : i ≤ 5
  lt : x < 18446744073709551616
  val : (2 : Int) ^ (min 64 (3 * 2 ^ i)) ∣ (m : Int) * (x : Int) - 1
def m0 (l : List Int) : Nat := (l.getD 0 0).toNat
def inv21 (l : List Int) : Nat → Option Inv
  | 5 => some ⟨Nat × Nat, fun x => [(20, .d (i64 x.1)), (4, .d (u64n x.2))], fun _ => [], fun s => ((slotN s 20).toNat, (slotN s 4).toNat), fun _ x => NwI (m0 l) x.1 x.2, fun x => 5 - x.1⟩
  | _ => none
def inv34 (l a n : List Int) : Nat → Option Inv
  | 3 => some ⟨Nat, fun k => [(9, .d (i64 ((k : Int) - 1)))], fun k => [(8, .fix (n4 (pwR (wv a) (wv n) (wv l) k)))], fun s => (slotN s 9 + 1).toNat, fun _ k => k ≤ bl2 (wv n), fun k => k⟩
  | _ => none
def inv35 (a n m : Nat) : Nat → Option Inv
  | 4 => some ⟨Nat, fun i => [(22, .d (i64 i)), (7, .d (dgs (dg (pwO a n m i)))), (0, .d (dgs (dg (pwA a m i))))], fun _ => [], fun s => (slotN s 22).toNat, fun _ i => i ≤ 16 * (dg n).length, fun i => 16 * (dg n).length - i⟩
  | _ => none
--KEEP Nat.gcd Go.Vg.eqB Go.Vg.vB Go.Vg.nB Go.Vg.okd Go.Vg.okw Go.Vg.dg Go.Vg.dig Go.Vg.trimL lenOk lenS len1 sbd sbb dif bor cmpN shf i64ok subL dvq dvr dve sbD adl adc mulL mulH stL stH smN smC addL addK TimI TimJ isN invN ivX ivE bl2 bitN rgO rgS rgI rgOk is8 redc OutI OutJ OutK powN pwO pwA pwR sbM adM mlM n256 rgNo m0 inM NwI
set_option maxRecDepth 100000 in
theorem vc27  (l a b : List Int) (F : D)  :
    (owed c27 (fun _ => none) Try.f27 [.ref (ringD l), num4 a, num4 b] F) = (
 (True ∧ false = false) ∧
   (True ∧ false = false) ∧
    (True ∧ (4 : Nat) ≠ (0 : Nat)) ∧
     True ∧
      ((4 : Nat) ≠ (0 : Nat) ∧ (4 : Nat) = (4 : Nat) ∧ true = true) ∧
       (∃ (l_1 : List Int),
         ∃ (a_1 : List Int),
          [(D.st [D.arr IntKind.u64 (4 : Nat) l, D.arr IntKind.u64 (4 : Nat) (rgO (vB (18446744073709551616 : Nat) l)), D.arr IntKind.u64 (4 : Nat) (rgS (vB (18446744073709551616 : Nat) l)), D.val (Value.int IntKind.u64 (↑(rgI (vB (18446744073709551616 : Nat) l)) : Int))]).ref, D.arr IntKind.u64 (4 : Nat) a] =
            [(D.st [D.arr IntKind.u64 (4 : Nat) l_1, D.arr IntKind.u64 (4 : Nat) (rgO (vB (18446744073709551616 : Nat) l_1)), D.arr IntKind.u64 (4 : Nat) (rgS (vB (18446744073709551616 : Nat) l_1)), D.val (Value.int IntKind.u64 (↑(rgI (vB (18446744073709551616 : Nat) l_1)) : Int))]).ref, D.arr IntKind.u64 (4 : Nat) a_1] ∧
           rgOk l_1 ∧ isN a_1) ∧
        True ∧
         ((4 : Nat) ≠ (0 : Nat) ∧ (4 : Nat) = (4 : Nat) ∧ true = true) ∧
          (∃ (l_1 : List Int),
            ∃ (a : List Int),
             [(D.st [D.arr IntKind.u64 (4 : Nat) l, D.arr IntKind.u64 (4 : Nat) (rgO (vB (18446744073709551616 : Nat) l)), D.arr IntKind.u64 (4 : Nat) (rgS (vB (18446744073709551616 : Nat) l)), D.val (Value.int IntKind.u64 (↑(rgI (vB (18446744073709551616 : Nat) l)) : Int))]).ref, D.arr IntKind.u64 (4 : Nat) b] =
               [(D.st [D.arr IntKind.u64 (4 : Nat) l_1, D.arr IntKind.u64 (4 : Nat) (rgO (vB (18446744073709551616 : Nat) l_1)), D.arr IntKind.u64 (4 : Nat) (rgS (vB (18446744073709551616 : Nat) l_1)), D.val (Value.int IntKind.u64 (↑(rgI (vB (18446744073709551616 : Nat) l_1)) : Int))]).ref, D.arr IntKind.u64 (4 : Nat) a] ∧
              rgOk l_1 ∧ isN a) ∧
           (∃ (l_1 : List Int),
             ∃ (m : List Int),
              [D.arr IntKind.u64 (4 : Nat) (nB (18446744073709551616 : Nat) (4 : Nat) (vB (18446744073709551616 : Nat) a % vB (18446744073709551616 : Nat) l)), D.arr IntKind.u64 (4 : Nat) (nB (18446744073709551616 : Nat) (4 : Nat) (vB (18446744073709551616 : Nat) b % vB (18446744073709551616 : Nat) l))] = [D.arr IntKind.u64 (4 : Nat) l_1, D.arr IntKind.u64 (4 : Nat) m] ∧
               isN l_1 ∧ isN m) ∧
            True ∧
             ((0 : Nat) < (2 : Nat) ∧ false = false) ∧
              ((1 : Nat) < (2 : Nat) ∧ false = false) ∧
               (True ∧ (4 : Nat) ≠ (0 : Nat)) ∧
                (Sk.arr (4 : Nat) = Sk.arr (4 : Nat) ∧ (4 : Nat) ≠ (0 : Nat) ∧ (4 : Nat) = (4 : Nat) ∧ false = false) ∧
                 True ∧
                  ((4 : Nat) ≠ (0 : Nat) ∧ (4 : Nat) = (4 : Nat) ∧ true = true) ∧
                   True ∧
                    True ∧
                     (Sk.st [Sk.arr (4 : Nat), Sk.arr (4 : Nat), Sk.arr (4 : Nat), Sk.one] = Sk.st [Sk.arr (4 : Nat), Sk.arr (4 : Nat), Sk.arr (4 : Nat), Sk.one] ∧ (0 : Nat) < (4 : Nat)) ∧
                      ((4 : Nat) ≠ (0 : Nat) ∧ (4 : Nat) = (4 : Nat) ∧ true = true) ∧
                       (∃ (l_1 : List Int),
                         ∃ (m : List Int),
                          [D.arr IntKind.u64 (4 : Nat)
                              (nB (18446744073709551616 : Nat) (4 : Nat)
                               (smN (vB (18446744073709551616 : Nat) (nB (18446744073709551616 : Nat) (4 : Nat) (vB (18446744073709551616 : Nat) a % vB (18446744073709551616 : Nat) l))) (vB (18446744073709551616 : Nat) (nB (18446744073709551616 : Nat) (4 : Nat) (vB (18446744073709551616 : Nat) b % vB (18446744073709551616 : Nat) l))))),
                             D.arr IntKind.u64 (4 : Nat) l] =
                            [D.arr IntKind.u64 (4 : Nat) l_1, D.arr IntKind.u64 (4 : Nat) m] ∧
                           (okw l_1 ∧ l_1.length = (4 : Nat)) ∧ okw m ∧ m.length = (4 : Nat)) ∧
                        True ∧
                         ((0 : Nat) < (2 : Nat) ∧ false = false) ∧
                          ((1 : Nat) < (2 : Nat) ∧ false = false) ∧
                           (True ∧ (4 : Nat) ≠ (0 : Nat)) ∧
                            (Sk.arr (4 : Nat) = Sk.arr (4 : Nat) ∧ (4 : Nat) ≠ (0 : Nat) ∧ (4 : Nat) = (4 : Nat) ∧ false = false) ∧
                             True ∧
                              True ∧
                               True ∧
                                True ∧
                                 match
                                  (↑(smC (vB (18446744073709551616 : Nat) (nB (18446744073709551616 : Nat) (4 : Nat) (vB (18446744073709551616 : Nat) a % vB (18446744073709551616 : Nat) l))) (vB (18446744073709551616 : Nat) (nB (18446744073709551616 : Nat) (4 : Nat) (vB (18446744073709551616 : Nat) b % vB (18446744073709551616 : Nat) l)))) : Int) == (1 : Int) with
                                 | true =>
                                  True ∧
                                   ((4 : Nat) ≠ (0 : Nat) ∧ (4 : Nat) = (4 : Nat) ∧ true = true) ∧
                                    (Sk.arr (4 : Nat) = Sk.arr (4 : Nat) ∧ (4 : Nat) ≠ (0 : Nat) ∧ (4 : Nat) = (4 : Nat) ∧ false = false) ∧
                                     (((4 : Nat) ≠ (0 : Nat) ∧ (4 : Nat) = (4 : Nat) ∧ true = true) ∧ True) ∧
                                      D.arr IntKind.u64 (4 : Nat)
                                        (nB (18446744073709551616 : Nat) (4 : Nat)
                                         (dif
                                          (vB (18446744073709551616 : Nat)
                                           (nB (18446744073709551616 : Nat) (4 : Nat)
                                            (smN (vB (18446744073709551616 : Nat) (nB (18446744073709551616 : Nat) (4 : Nat) (vB (18446744073709551616 : Nat) a % vB (18446744073709551616 : Nat) l))) (vB (18446744073709551616 : Nat) (nB (18446744073709551616 : Nat) (4 : Nat) (vB (18446744073709551616 : Nat) b % vB (18446744073709551616 : Nat) l))))))
                                          (vB (18446744073709551616 : Nat) l))) =
                                       F
                                 | false =>
                                  True ∧
                                   True ∧
                                    True ∧
                                     match
                                      (↑(bor
                                          (vB (18446744073709551616 : Nat)
                                           (nB (18446744073709551616 : Nat) (4 : Nat)
                                            (smN (vB (18446744073709551616 : Nat) (nB (18446744073709551616 : Nat) (4 : Nat) (vB (18446744073709551616 : Nat) a % vB (18446744073709551616 : Nat) l))) (vB (18446744073709551616 : Nat) (nB (18446744073709551616 : Nat) (4 : Nat) (vB (18446744073709551616 : Nat) b % vB (18446744073709551616 : Nat) l))))))
                                          (vB (18446744073709551616 : Nat) l)) :
                                        Int) ==
                                       (0 : Int) with
                                     | true =>
                                      ((4 : Nat) ≠ (0 : Nat) ∧ (4 : Nat) = (4 : Nat) ∧ true = true) ∧
                                       (Sk.arr (4 : Nat) = Sk.arr (4 : Nat) ∧ (4 : Nat) ≠ (0 : Nat) ∧ (4 : Nat) = (4 : Nat) ∧ false = false) ∧
                                        (((4 : Nat) ≠ (0 : Nat) ∧ (4 : Nat) = (4 : Nat) ∧ true = true) ∧ True) ∧
                                         D.arr IntKind.u64 (4 : Nat)
                                           (nB (18446744073709551616 : Nat) (4 : Nat)
                                            (dif
                                             (vB (18446744073709551616 : Nat)
                                              (nB (18446744073709551616 : Nat) (4 : Nat)
                                               (smN (vB (18446744073709551616 : Nat) (nB (18446744073709551616 : Nat) (4 : Nat) (vB (18446744073709551616 : Nat) a % vB (18446744073709551616 : Nat) l))) (vB (18446744073709551616 : Nat) (nB (18446744073709551616 : Nat) (4 : Nat) (vB (18446744073709551616 : Nat) b % vB (18446744073709551616 : Nat) l))))))
                                             (vB (18446744073709551616 : Nat) l))) =
                                          F
                                     | false =>
                                      ((4 : Nat) ≠ (0 : Nat) ∧ (4 : Nat) = (4 : Nat) ∧ true = true) ∧
                                       (Sk.arr (4 : Nat) = Sk.arr (4 : Nat) ∧ (4 : Nat) ≠ (0 : Nat) ∧ (4 : Nat) = (4 : Nat) ∧ false = false) ∧
                                        (((4 : Nat) ≠ (0 : Nat) ∧ (4 : Nat) = (4 : Nat) ∧ true = true) ∧ True) ∧
                                         D.arr IntKind.u64 (4 : Nat)
                                           (nB (18446744073709551616 : Nat) (4 : Nat)
                                            (smN (vB (18446744073709551616 : Nat) (nB (18446744073709551616 : Nat) (4 : Nat) (vB (18446744073709551616 : Nat) a % vB (18446744073709551616 : Nat) l))) (vB (18446744073709551616 : Nat) (nB (18446744073709551616 : Nat) (4 : Nat) (vB (18446744073709551616 : Nat) b % vB (18446744073709551616 : Nat) l))))) =
                                          F) := by kernel_rfl
set_option maxRecDepth 100000 in
theorem vc29  (l a b : List Int) (F : D)  :
    (owed c27 (fun _ => none) Try.f29 [.ref (ringD l), num4 a, num4 b] F) = (
 (True ∧ false = false) ∧
   (True ∧ false = false) ∧
    (True ∧ (4 : Nat) ≠ (0 : Nat)) ∧
     True ∧
      ((4 : Nat) ≠ (0 : Nat) ∧ (4 : Nat) = (4 : Nat) ∧ true = true) ∧
       (∃ (l_1 : List Int),
         ∃ (a_1 : List Int),
          [(D.st [D.arr IntKind.u64 (4 : Nat) l, D.arr IntKind.u64 (4 : Nat) (rgO (vB (18446744073709551616 : Nat) l)), D.arr IntKind.u64 (4 : Nat) (rgS (vB (18446744073709551616 : Nat) l)), D.val (Value.int IntKind.u64 (↑(rgI (vB (18446744073709551616 : Nat) l)) : Int))]).ref, D.arr IntKind.u64 (4 : Nat) a] =
            [(D.st [D.arr IntKind.u64 (4 : Nat) l_1, D.arr IntKind.u64 (4 : Nat) (rgO (vB (18446744073709551616 : Nat) l_1)), D.arr IntKind.u64 (4 : Nat) (rgS (vB (18446744073709551616 : Nat) l_1)), D.val (Value.int IntKind.u64 (↑(rgI (vB (18446744073709551616 : Nat) l_1)) : Int))]).ref, D.arr IntKind.u64 (4 : Nat) a_1] ∧
           rgOk l_1 ∧ isN a_1) ∧
        True ∧
         ((4 : Nat) ≠ (0 : Nat) ∧ (4 : Nat) = (4 : Nat) ∧ true = true) ∧
          (∃ (l_1 : List Int),
            ∃ (a : List Int),
             [(D.st [D.arr IntKind.u64 (4 : Nat) l, D.arr IntKind.u64 (4 : Nat) (rgO (vB (18446744073709551616 : Nat) l)), D.arr IntKind.u64 (4 : Nat) (rgS (vB (18446744073709551616 : Nat) l)), D.val (Value.int IntKind.u64 (↑(rgI (vB (18446744073709551616 : Nat) l)) : Int))]).ref, D.arr IntKind.u64 (4 : Nat) b] =
               [(D.st [D.arr IntKind.u64 (4 : Nat) l_1, D.arr IntKind.u64 (4 : Nat) (rgO (vB (18446744073709551616 : Nat) l_1)), D.arr IntKind.u64 (4 : Nat) (rgS (vB (18446744073709551616 : Nat) l_1)), D.val (Value.int IntKind.u64 (↑(rgI (vB (18446744073709551616 : Nat) l_1)) : Int))]).ref, D.arr IntKind.u64 (4 : Nat) a] ∧
              rgOk l_1 ∧ isN a) ∧
           (∃ (l_1 : List Int),
             ∃ (m : List Int),
              [D.arr IntKind.u64 (4 : Nat) (nB (18446744073709551616 : Nat) (4 : Nat) (vB (18446744073709551616 : Nat) a % vB (18446744073709551616 : Nat) l)), D.arr IntKind.u64 (4 : Nat) (nB (18446744073709551616 : Nat) (4 : Nat) (vB (18446744073709551616 : Nat) b % vB (18446744073709551616 : Nat) l))] = [D.arr IntKind.u64 (4 : Nat) l_1, D.arr IntKind.u64 (4 : Nat) m] ∧
               (okw l_1 ∧ l_1.length = (4 : Nat)) ∧ okw m ∧ m.length = (4 : Nat)) ∧
            True ∧
             ((0 : Nat) < (2 : Nat) ∧ false = false) ∧
              ((1 : Nat) < (2 : Nat) ∧ false = false) ∧
               (True ∧ (4 : Nat) ≠ (0 : Nat)) ∧
                (Sk.arr (4 : Nat) = Sk.arr (4 : Nat) ∧ (4 : Nat) ≠ (0 : Nat) ∧ (4 : Nat) = (4 : Nat) ∧ false = false) ∧
                 True ∧
                  True ∧
                   True ∧
                    match (↑(bor (vB (18446744073709551616 : Nat) (nB (18446744073709551616 : Nat) (4 : Nat) (vB (18446744073709551616 : Nat) a % vB (18446744073709551616 : Nat) l))) (vB (18446744073709551616 : Nat) (nB (18446744073709551616 : Nat) (4 : Nat) (vB (18446744073709551616 : Nat) b % vB (18446744073709551616 : Nat) l)))) : Int) == (1 : Int) with
                    | true =>
                     ((4 : Nat) ≠ (0 : Nat) ∧ (4 : Nat) = (4 : Nat) ∧ true = true) ∧
                      True ∧
                       True ∧
                        (Sk.st [Sk.arr (4 : Nat), Sk.arr (4 : Nat), Sk.arr (4 : Nat), Sk.one] = Sk.st [Sk.arr (4 : Nat), Sk.arr (4 : Nat), Sk.arr (4 : Nat), Sk.one] ∧ (0 : Nat) < (4 : Nat)) ∧
                         ((4 : Nat) ≠ (0 : Nat) ∧ (4 : Nat) = (4 : Nat) ∧ true = true) ∧
                          (∃ (l_1 : List Int),
                            ∃ (m : List Int),
                             [D.arr IntKind.u64 (4 : Nat)
                                 (nB (18446744073709551616 : Nat) (4 : Nat)
                                  (dif (vB (18446744073709551616 : Nat) (nB (18446744073709551616 : Nat) (4 : Nat) (vB (18446744073709551616 : Nat) a % vB (18446744073709551616 : Nat) l))) (vB (18446744073709551616 : Nat) (nB (18446744073709551616 : Nat) (4 : Nat) (vB (18446744073709551616 : Nat) b % vB (18446744073709551616 : Nat) l))))),
                                D.arr IntKind.u64 (4 : Nat) l] =
                               [D.arr IntKind.u64 (4 : Nat) l_1, D.arr IntKind.u64 (4 : Nat) m] ∧
                              isN l_1 ∧ isN m) ∧
                           True ∧
                            ((0 : Nat) < (2 : Nat) ∧ false = false) ∧
                             ((1 : Nat) < (2 : Nat) ∧ false = false) ∧
                              (Sk.arr (4 : Nat) = Sk.arr (4 : Nat) ∧ (4 : Nat) ≠ (0 : Nat) ∧ (4 : Nat) = (4 : Nat) ∧ false = false) ∧
                               ((4 : Nat) ≠ (0 : Nat) ∧ (4 : Nat) = (4 : Nat) ∧ true = true) ∧
                                (Sk.arr (4 : Nat) = Sk.arr (4 : Nat) ∧ (4 : Nat) ≠ (0 : Nat) ∧ (4 : Nat) = (4 : Nat) ∧ false = false) ∧
                                 (((4 : Nat) ≠ (0 : Nat) ∧ (4 : Nat) = (4 : Nat) ∧ true = true) ∧ True) ∧
                                  D.arr IntKind.u64 (4 : Nat)
                                    (nB (18446744073709551616 : Nat) (4 : Nat)
                                     (smN
                                      (vB (18446744073709551616 : Nat)
                                       (nB (18446744073709551616 : Nat) (4 : Nat)
                                        (dif (vB (18446744073709551616 : Nat) (nB (18446744073709551616 : Nat) (4 : Nat) (vB (18446744073709551616 : Nat) a % vB (18446744073709551616 : Nat) l))) (vB (18446744073709551616 : Nat) (nB (18446744073709551616 : Nat) (4 : Nat) (vB (18446744073709551616 : Nat) b % vB (18446744073709551616 : Nat) l))))))
                                      (vB (18446744073709551616 : Nat) l))) =
                                   F
                    | false =>
                     ((4 : Nat) ≠ (0 : Nat) ∧ (4 : Nat) = (4 : Nat) ∧ true = true) ∧
                      (Sk.arr (4 : Nat) = Sk.arr (4 : Nat) ∧ (4 : Nat) ≠ (0 : Nat) ∧ (4 : Nat) = (4 : Nat) ∧ false = false) ∧
                       (((4 : Nat) ≠ (0 : Nat) ∧ (4 : Nat) = (4 : Nat) ∧ true = true) ∧ True) ∧
                        D.arr IntKind.u64 (4 : Nat)
                          (nB (18446744073709551616 : Nat) (4 : Nat)
                           (dif (vB (18446744073709551616 : Nat) (nB (18446744073709551616 : Nat) (4 : Nat) (vB (18446744073709551616 : Nat) a % vB (18446744073709551616 : Nat) l))) (vB (18446744073709551616 : Nat) (nB (18446744073709551616 : Nat) (4 : Nat) (vB (18446744073709551616 : Nat) b % vB (18446744073709551616 : Nat) l))))) =
                         F) := by kernel_rfl
set_option maxRecDepth 100000 in
theorem vc31  (l a b : List Int) (F : D)  :
    (owed c31 (fun _ => none) Try.f31 [.ref (ringD l), num4 a, num4 b] F) = (
 (True ∧ false = false) ∧
   (True ∧ false = false) ∧
    (True ∧ (4 : Nat) ≠ (0 : Nat)) ∧
     True ∧
      True ∧
       ((4 : Nat) ≠ (0 : Nat) ∧ (4 : Nat) = (4 : Nat) ∧ true = true) ∧
        (∃ (l_1 : List Int),
          ∃ (a_1 : List Int),
           [(D.st [D.arr IntKind.u64 (4 : Nat) l, D.arr IntKind.u64 (4 : Nat) (rgO (vB (18446744073709551616 : Nat) l)), D.arr IntKind.u64 (4 : Nat) (rgS (vB (18446744073709551616 : Nat) l)), D.val (Value.int IntKind.u64 (↑(rgI (vB (18446744073709551616 : Nat) l)) : Int))]).ref, D.arr IntKind.u64 (4 : Nat) a] =
             [(D.st [D.arr IntKind.u64 (4 : Nat) l_1, D.arr IntKind.u64 (4 : Nat) (rgO (vB (18446744073709551616 : Nat) l_1)), D.arr IntKind.u64 (4 : Nat) (rgS (vB (18446744073709551616 : Nat) l_1)), D.val (Value.int IntKind.u64 (↑(rgI (vB (18446744073709551616 : Nat) l_1)) : Int))]).ref, D.arr IntKind.u64 (4 : Nat) a_1] ∧
            rgOk l_1 ∧ isN a_1) ∧
         ((4 : Nat) ≠ (0 : Nat) ∧ (4 : Nat) = (4 : Nat) ∧ true = true) ∧
          (∃ (l_1 : List Int), ∃ (m : List Int), [D.arr IntKind.u64 (4 : Nat) (nB (18446744073709551616 : Nat) (4 : Nat) (inM (vB (18446744073709551616 : Nat) a) (vB (18446744073709551616 : Nat) l))), D.arr IntKind.u64 (4 : Nat) b] = [D.arr IntKind.u64 (4 : Nat) l_1, D.arr IntKind.u64 (4 : Nat) m] ∧ isN l_1 ∧ isN m) ∧
           (∃ (l_1 : List Int),
             ∃ (t : List Int),
              [(D.st [D.arr IntKind.u64 (4 : Nat) l, D.arr IntKind.u64 (4 : Nat) (rgO (vB (18446744073709551616 : Nat) l)), D.arr IntKind.u64 (4 : Nat) (rgS (vB (18446744073709551616 : Nat) l)), D.val (Value.int IntKind.u64 (↑(rgI (vB (18446744073709551616 : Nat) l)) : Int))]).ref,
                 D.arr IntKind.u64 (8 : Nat) (nB (18446744073709551616 : Nat) (8 : Nat) (vB (18446744073709551616 : Nat) (nB (18446744073709551616 : Nat) (4 : Nat) (inM (vB (18446744073709551616 : Nat) a) (vB (18446744073709551616 : Nat) l))) * vB (18446744073709551616 : Nat) b))] =
                [(D.st [D.arr IntKind.u64 (4 : Nat) l_1, D.arr IntKind.u64 (4 : Nat) (rgO (vB (18446744073709551616 : Nat) l_1)), D.arr IntKind.u64 (4 : Nat) (rgS (vB (18446744073709551616 : Nat) l_1)), D.val (Value.int IntKind.u64 (↑(rgI (vB (18446744073709551616 : Nat) l_1)) : Int))]).ref, D.arr IntKind.u64 (8 : Nat) t] ∧
               rgOk l_1 ∧ is8 t) ∧
            (Sk.arr (4 : Nat) = Sk.arr (4 : Nat) ∧ (4 : Nat) ≠ (0 : Nat) ∧ (4 : Nat) = (4 : Nat) ∧ false = false) ∧
             (((4 : Nat) ≠ (0 : Nat) ∧ (4 : Nat) = (4 : Nat) ∧ true = true) ∧ True) ∧
              D.arr IntKind.u64 (4 : Nat)
                (nB (18446744073709551616 : Nat) (4 : Nat) (redc (vB (18446744073709551616 : Nat) (nB (18446744073709551616 : Nat) (8 : Nat) (vB (18446744073709551616 : Nat) (nB (18446744073709551616 : Nat) (4 : Nat) (inM (vB (18446744073709551616 : Nat) a) (vB (18446744073709551616 : Nat) l))) * vB (18446744073709551616 : Nat) b))) (vB (18446744073709551616 : Nat) l))) =
               F) := by kernel_rfl
set_option maxRecDepth 100000 in
theorem vc34  (l a b : List Int) (F : D)  :
    (owed c34 (inv34 l a b) Try.f34 [.ref (ringD l), num4 a, num4 b] F) = (
 (True ∧ false = false) ∧
   (True ∧ false = false) ∧
    (True ∧ (4 : Nat) ≠ (0 : Nat)) ∧
     True ∧
      ((4 : Nat) ≠ (0 : Nat) ∧ (4 : Nat) = (4 : Nat) ∧ true = true) ∧
       (∃ (l_1 : List Int),
         ∃ (a_1 : List Int),
          [(D.st [D.arr IntKind.u64 (4 : Nat) l, D.arr IntKind.u64 (4 : Nat) (rgO (vB (18446744073709551616 : Nat) l)), D.arr IntKind.u64 (4 : Nat) (rgS (vB (18446744073709551616 : Nat) l)), D.val (Value.int IntKind.u64 (↑(rgI (vB (18446744073709551616 : Nat) l)) : Int))]).ref, D.arr IntKind.u64 (4 : Nat) a] =
            [(D.st [D.arr IntKind.u64 (4 : Nat) l_1, D.arr IntKind.u64 (4 : Nat) (rgO (vB (18446744073709551616 : Nat) l_1)), D.arr IntKind.u64 (4 : Nat) (rgS (vB (18446744073709551616 : Nat) l_1)), D.val (Value.int IntKind.u64 (↑(rgI (vB (18446744073709551616 : Nat) l_1)) : Int))]).ref, D.arr IntKind.u64 (4 : Nat) a_1] ∧
           rgOk l_1 ∧ isN a_1) ∧
        True ∧
         True ∧
          (Sk.st [Sk.arr (4 : Nat), Sk.arr (4 : Nat), Sk.arr (4 : Nat), Sk.one] = Sk.st [Sk.arr (4 : Nat), Sk.arr (4 : Nat), Sk.arr (4 : Nat), Sk.one] ∧ (1 : Nat) < (4 : Nat)) ∧
           ((4 : Nat) ≠ (0 : Nat) ∧ (4 : Nat) = (4 : Nat) ∧ true = true) ∧
            (True ∧ (4 : Nat) ≠ (0 : Nat)) ∧
             (True ∧ (4 : Nat) ≠ (0 : Nat)) ∧
              (Sk.arr (4 : Nat) = Sk.arr (4 : Nat) ∧ (4 : Nat) ≠ (0 : Nat) ∧ (4 : Nat) = (4 : Nat) ∧ false = false) ∧
               (Sk.arr (4 : Nat) = Sk.arr (4 : Nat) ∧ (4 : Nat) ≠ (0 : Nat) ∧ (4 : Nat) = (4 : Nat) ∧ false = false) ∧
                ((4 : Nat) ≠ (0 : Nat) ∧ (4 : Nat) = (4 : Nat) ∧ true = true) ∧
                 (∃ (l : List Int), [D.arr IntKind.u64 (4 : Nat) b] = [D.arr IntKind.u64 (4 : Nat) l] ∧ isN l) ∧
                  True ∧
                   True ∧
                    (((AV.d (D.val (Value.int IntKind.i64 (IntKind.i64.wrap ((↑(bl2 (vB (18446744073709551616 : Nat) b)) : Int) - (1 : Int))))) = AV.d (D.val (Value.int IntKind.i64 ((↑(IntKind.i64.wrap ((↑(bl2 (vB (18446744073709551616 : Nat) b)) : Int) - (1 : Int)) + (1 : Int)).toNat : Int) - (1 : Int)))) ∧ True) ∧
                       (some (Blk.fix (D.arr IntKind.u64 (4 : Nat) a)) = some (Blk.fix (D.arr IntKind.u64 (4 : Nat) a)) ∧
                         some (Blk.fix (D.arr IntKind.u64 (4 : Nat) b)) = some (Blk.fix (D.arr IntKind.u64 (4 : Nat) b)) ∧
                          some (Blk.fix (D.arr IntKind.u64 (4 : Nat) [(0 : Int), (0 : Int), (0 : Int), (0 : Int)])) = some (Blk.fix (D.arr IntKind.u64 (4 : Nat) [(0 : Int), (0 : Int), (0 : Int), (0 : Int)])) ∧
                           some (Blk.fix (D.arr IntKind.u64 (4 : Nat) (nB (18446744073709551616 : Nat) (4 : Nat) (inM (vB (18446744073709551616 : Nat) a) (vB (18446744073709551616 : Nat) l))))) = some (Blk.fix (D.arr IntKind.u64 (4 : Nat) (nB (18446744073709551616 : Nat) (4 : Nat) (inM (vB (18446744073709551616 : Nat) a) (vB (18446744073709551616 : Nat) l))))) ∧
                            some (Blk.fix (D.arr IntKind.u64 (4 : Nat) (rgO (vB (18446744073709551616 : Nat) l)))) =
                              some (Blk.fix (D.arr IntKind.u64 (4 : Nat) (nB (18446744073709551616 : Nat) (4 : Nat) (pwR (vB (18446744073709551616 : Nat) a) (vB (18446744073709551616 : Nat) b) (vB (18446744073709551616 : Nat) l) (IntKind.i64.wrap ((↑(bl2 (vB (18446744073709551616 : Nat) b)) : Int) - (1 : Int)) + (1 : Int)).toNat)))) ∧
                             True) ∧
                        true = true) ∧
                      (IntKind.i64.wrap ((↑(bl2 (vB (18446744073709551616 : Nat) b)) : Int) - (1 : Int)) + (1 : Int)).toNat ≤ bl2 (vB (18446744073709551616 : Nat) b)) ∧
                     ∀ (x : Nat),
                      x ≤ bl2 (vB (18446744073709551616 : Nat) b) →
                       true = true ∧
                        True ∧
                         True ∧
                          match decide ((↑x : Int) - (1 : Int) ≥ (0 : Int)) with
                          | true =>
                           True ∧
                            ((4 : Nat) ≠ (0 : Nat) ∧ (4 : Nat) = (4 : Nat) ∧ true = true) ∧
                             ((4 : Nat) ≠ (0 : Nat) ∧ (4 : Nat) = (4 : Nat) ∧ true = true) ∧
                              (∃ (l_1 : List Int),
                                ∃ (m : List Int),
                                 [D.arr IntKind.u64 (4 : Nat) (nB (18446744073709551616 : Nat) (4 : Nat) (pwR (vB (18446744073709551616 : Nat) a) (vB (18446744073709551616 : Nat) b) (vB (18446744073709551616 : Nat) l) x)),
                                    D.arr IntKind.u64 (4 : Nat) (nB (18446744073709551616 : Nat) (4 : Nat) (pwR (vB (18446744073709551616 : Nat) a) (vB (18446744073709551616 : Nat) b) (vB (18446744073709551616 : Nat) l) x))] =
                                   [D.arr IntKind.u64 (4 : Nat) l_1, D.arr IntKind.u64 (4 : Nat) m] ∧
                                  isN l_1 ∧ isN m) ∧
                               (∃ (l_1 : List Int),
                                 ∃ (t : List Int),
                                  [(D.st [D.arr IntKind.u64 (4 : Nat) l, D.arr IntKind.u64 (4 : Nat) (rgO (vB (18446744073709551616 : Nat) l)), D.arr IntKind.u64 (4 : Nat) (rgS (vB (18446744073709551616 : Nat) l)), D.val (Value.int IntKind.u64 (↑(rgI (vB (18446744073709551616 : Nat) l)) : Int))]).ref,
                                     D.arr IntKind.u64 (8 : Nat)
                                      (nB (18446744073709551616 : Nat) (8 : Nat)
                                       (vB (18446744073709551616 : Nat) (nB (18446744073709551616 : Nat) (4 : Nat) (pwR (vB (18446744073709551616 : Nat) a) (vB (18446744073709551616 : Nat) b) (vB (18446744073709551616 : Nat) l) x)) *
                                        vB (18446744073709551616 : Nat) (nB (18446744073709551616 : Nat) (4 : Nat) (pwR (vB (18446744073709551616 : Nat) a) (vB (18446744073709551616 : Nat) b) (vB (18446744073709551616 : Nat) l) x))))] =
                                    [(D.st [D.arr IntKind.u64 (4 : Nat) l_1, D.arr IntKind.u64 (4 : Nat) (rgO (vB (18446744073709551616 : Nat) l_1)), D.arr IntKind.u64 (4 : Nat) (rgS (vB (18446744073709551616 : Nat) l_1)), D.val (Value.int IntKind.u64 (↑(rgI (vB (18446744073709551616 : Nat) l_1)) : Int))]).ref, D.arr IntKind.u64 (8 : Nat) t] ∧
                                   rgOk l_1 ∧ is8 t) ∧
                                (Sk.arr (4 : Nat) = Sk.arr (4 : Nat) ∧ (4 : Nat) ≠ (0 : Nat) ∧ (4 : Nat) = (4 : Nat) ∧ false = false) ∧
                                 ((4 : Nat) ≠ (0 : Nat) ∧ (4 : Nat) = (4 : Nat) ∧ true = true) ∧
                                  True ∧
                                   (∃ (l : List Int), ∃ (i : Int), [D.arr IntKind.u64 (4 : Nat) b, D.val (Value.int IntKind.i64 ((↑x : Int) - (1 : Int)))] = [D.arr IntKind.u64 (4 : Nat) l, D.val (Value.int IntKind.i64 i)] ∧ isN l ∧ i64ok i) ∧
                                    True ∧
                                     match (↑(bitN (vB (18446744073709551616 : Nat) b) ((↑x : Int) - (1 : Int))) : Int) == (1 : Int) with
                                     | true =>
                                      True ∧
                                       ((4 : Nat) ≠ (0 : Nat) ∧ (4 : Nat) = (4 : Nat) ∧ true = true) ∧
                                        ((4 : Nat) ≠ (0 : Nat) ∧ (4 : Nat) = (4 : Nat) ∧ true = true) ∧
                                         (∃ (l_1 : List Int),
                                           ∃ (m : List Int),
                                            [D.arr IntKind.u64 (4 : Nat)
                                                (nB (18446744073709551616 : Nat) (4 : Nat)
                                                 (redc
                                                  (vB (18446744073709551616 : Nat)
                                                   (nB (18446744073709551616 : Nat) (8 : Nat)
                                                    (vB (18446744073709551616 : Nat) (nB (18446744073709551616 : Nat) (4 : Nat) (pwR (vB (18446744073709551616 : Nat) a) (vB (18446744073709551616 : Nat) b) (vB (18446744073709551616 : Nat) l) x)) *
                                                     vB (18446744073709551616 : Nat) (nB (18446744073709551616 : Nat) (4 : Nat) (pwR (vB (18446744073709551616 : Nat) a) (vB (18446744073709551616 : Nat) b) (vB (18446744073709551616 : Nat) l) x)))))
                                                  (vB (18446744073709551616 : Nat) l))),
                                               D.arr IntKind.u64 (4 : Nat) (nB (18446744073709551616 : Nat) (4 : Nat) (inM (vB (18446744073709551616 : Nat) a) (vB (18446744073709551616 : Nat) l)))] =
                                              [D.arr IntKind.u64 (4 : Nat) l_1, D.arr IntKind.u64 (4 : Nat) m] ∧
                                             isN l_1 ∧ isN m) ∧
                                          (∃ (l_1 : List Int),
                                            ∃ (t : List Int),
                                             [(D.st [D.arr IntKind.u64 (4 : Nat) l, D.arr IntKind.u64 (4 : Nat) (rgO (vB (18446744073709551616 : Nat) l)), D.arr IntKind.u64 (4 : Nat) (rgS (vB (18446744073709551616 : Nat) l)), D.val (Value.int IntKind.u64 (↑(rgI (vB (18446744073709551616 : Nat) l)) : Int))]).ref,
                                                D.arr IntKind.u64 (8 : Nat)
                                                 (nB (18446744073709551616 : Nat) (8 : Nat)
                                                  (vB (18446744073709551616 : Nat)
                                                    (nB (18446744073709551616 : Nat) (4 : Nat)
                                                     (redc
                                                      (vB (18446744073709551616 : Nat)
                                                       (nB (18446744073709551616 : Nat) (8 : Nat)
                                                        (vB (18446744073709551616 : Nat) (nB (18446744073709551616 : Nat) (4 : Nat) (pwR (vB (18446744073709551616 : Nat) a) (vB (18446744073709551616 : Nat) b) (vB (18446744073709551616 : Nat) l) x)) *
                                                         vB (18446744073709551616 : Nat) (nB (18446744073709551616 : Nat) (4 : Nat) (pwR (vB (18446744073709551616 : Nat) a) (vB (18446744073709551616 : Nat) b) (vB (18446744073709551616 : Nat) l) x)))))
                                                      (vB (18446744073709551616 : Nat) l))) *
                                                   vB (18446744073709551616 : Nat) (nB (18446744073709551616 : Nat) (4 : Nat) (inM (vB (18446744073709551616 : Nat) a) (vB (18446744073709551616 : Nat) l)))))] =
                                               [(D.st [D.arr IntKind.u64 (4 : Nat) l_1, D.arr IntKind.u64 (4 : Nat) (rgO (vB (18446744073709551616 : Nat) l_1)), D.arr IntKind.u64 (4 : Nat) (rgS (vB (18446744073709551616 : Nat) l_1)), D.val (Value.int IntKind.u64 (↑(rgI (vB (18446744073709551616 : Nat) l_1)) : Int))]).ref,
                                                D.arr IntKind.u64 (8 : Nat) t] ∧
                                              rgOk l_1 ∧ is8 t) ∧
                                           (Sk.arr (4 : Nat) = Sk.arr (4 : Nat) ∧ (4 : Nat) ≠ (0 : Nat) ∧ (4 : Nat) = (4 : Nat) ∧ false = false) ∧
                                            True ∧
                                             True ∧
                                              True ∧
                                               ((AV.d (D.val (Value.int IntKind.i64 (IntKind.i64.wrap ((↑x : Int) - (1 : Int) - (1 : Int))))) = AV.d (D.val (Value.int IntKind.i64 ((↑(IntKind.i64.wrap ((↑x : Int) - (1 : Int) - (1 : Int)) + (1 : Int)).toNat : Int) - (1 : Int)))) ∧ True) ∧
                                                 (some (Blk.fix (D.arr IntKind.u64 (4 : Nat) a)) = some (Blk.fix (D.arr IntKind.u64 (4 : Nat) a)) ∧
                                                   some (Blk.fix (D.arr IntKind.u64 (4 : Nat) b)) = some (Blk.fix (D.arr IntKind.u64 (4 : Nat) b)) ∧
                                                    some (Blk.fix (D.arr IntKind.u64 (4 : Nat) [(0 : Int), (0 : Int), (0 : Int), (0 : Int)])) = some (Blk.fix (D.arr IntKind.u64 (4 : Nat) [(0 : Int), (0 : Int), (0 : Int), (0 : Int)])) ∧
                                                     some (Blk.fix (D.arr IntKind.u64 (4 : Nat) (nB (18446744073709551616 : Nat) (4 : Nat) (inM (vB (18446744073709551616 : Nat) a) (vB (18446744073709551616 : Nat) l))))) =
                                                       some (Blk.fix (D.arr IntKind.u64 (4 : Nat) (nB (18446744073709551616 : Nat) (4 : Nat) (inM (vB (18446744073709551616 : Nat) a) (vB (18446744073709551616 : Nat) l))))) ∧
                                                      some
                                                         (Blk.fix
                                                          (D.arr IntKind.u64 (4 : Nat)
                                                           (nB (18446744073709551616 : Nat) (4 : Nat)
                                                            (redc
                                                             (vB (18446744073709551616 : Nat)
                                                              (nB (18446744073709551616 : Nat) (8 : Nat)
                                                               (vB (18446744073709551616 : Nat)
                                                                 (nB (18446744073709551616 : Nat) (4 : Nat)
                                                                  (redc
                                                                   (vB (18446744073709551616 : Nat)
                                                                    (nB (18446744073709551616 : Nat) (8 : Nat)
                                                                     (vB (18446744073709551616 : Nat) (nB (18446744073709551616 : Nat) (4 : Nat) (pwR (vB (18446744073709551616 : Nat) a) (vB (18446744073709551616 : Nat) b) (vB (18446744073709551616 : Nat) l) x)) *
                                                                      vB (18446744073709551616 : Nat) (nB (18446744073709551616 : Nat) (4 : Nat) (pwR (vB (18446744073709551616 : Nat) a) (vB (18446744073709551616 : Nat) b) (vB (18446744073709551616 : Nat) l) x)))))
                                                                   (vB (18446744073709551616 : Nat) l))) *
                                                                vB (18446744073709551616 : Nat) (nB (18446744073709551616 : Nat) (4 : Nat) (inM (vB (18446744073709551616 : Nat) a) (vB (18446744073709551616 : Nat) l))))))
                                                             (vB (18446744073709551616 : Nat) l))))) =
                                                        some (Blk.fix (D.arr IntKind.u64 (4 : Nat) (nB (18446744073709551616 : Nat) (4 : Nat) (pwR (vB (18446744073709551616 : Nat) a) (vB (18446744073709551616 : Nat) b) (vB (18446744073709551616 : Nat) l) (IntKind.i64.wrap ((↑x : Int) - (1 : Int) - (1 : Int)) + (1 : Int)).toNat)))) ∧
                                                       True) ∧
                                                  true = true) ∧
                                                (IntKind.i64.wrap ((↑x : Int) - (1 : Int) - (1 : Int)) + (1 : Int)).toNat ≤ bl2 (vB (18446744073709551616 : Nat) b) ∧ (IntKind.i64.wrap ((↑x : Int) - (1 : Int) - (1 : Int)) + (1 : Int)).toNat < x
                                     | false =>
                                      True ∧
                                       True ∧
                                        True ∧
                                         ((AV.d (D.val (Value.int IntKind.i64 (IntKind.i64.wrap ((↑x : Int) - (1 : Int) - (1 : Int))))) = AV.d (D.val (Value.int IntKind.i64 ((↑(IntKind.i64.wrap ((↑x : Int) - (1 : Int) - (1 : Int)) + (1 : Int)).toNat : Int) - (1 : Int)))) ∧ True) ∧
                                           (some (Blk.fix (D.arr IntKind.u64 (4 : Nat) a)) = some (Blk.fix (D.arr IntKind.u64 (4 : Nat) a)) ∧
                                             some (Blk.fix (D.arr IntKind.u64 (4 : Nat) b)) = some (Blk.fix (D.arr IntKind.u64 (4 : Nat) b)) ∧
                                              some (Blk.fix (D.arr IntKind.u64 (4 : Nat) [(0 : Int), (0 : Int), (0 : Int), (0 : Int)])) = some (Blk.fix (D.arr IntKind.u64 (4 : Nat) [(0 : Int), (0 : Int), (0 : Int), (0 : Int)])) ∧
                                               some (Blk.fix (D.arr IntKind.u64 (4 : Nat) (nB (18446744073709551616 : Nat) (4 : Nat) (inM (vB (18446744073709551616 : Nat) a) (vB (18446744073709551616 : Nat) l))))) =
                                                 some (Blk.fix (D.arr IntKind.u64 (4 : Nat) (nB (18446744073709551616 : Nat) (4 : Nat) (inM (vB (18446744073709551616 : Nat) a) (vB (18446744073709551616 : Nat) l))))) ∧
                                                some
                                                   (Blk.fix
                                                    (D.arr IntKind.u64 (4 : Nat)
                                                     (nB (18446744073709551616 : Nat) (4 : Nat)
                                                      (redc
                                                       (vB (18446744073709551616 : Nat)
                                                        (nB (18446744073709551616 : Nat) (8 : Nat)
                                                         (vB (18446744073709551616 : Nat) (nB (18446744073709551616 : Nat) (4 : Nat) (pwR (vB (18446744073709551616 : Nat) a) (vB (18446744073709551616 : Nat) b) (vB (18446744073709551616 : Nat) l) x)) *
                                                          vB (18446744073709551616 : Nat) (nB (18446744073709551616 : Nat) (4 : Nat) (pwR (vB (18446744073709551616 : Nat) a) (vB (18446744073709551616 : Nat) b) (vB (18446744073709551616 : Nat) l) x)))))
                                                       (vB (18446744073709551616 : Nat) l))))) =
                                                  some (Blk.fix (D.arr IntKind.u64 (4 : Nat) (nB (18446744073709551616 : Nat) (4 : Nat) (pwR (vB (18446744073709551616 : Nat) a) (vB (18446744073709551616 : Nat) b) (vB (18446744073709551616 : Nat) l) (IntKind.i64.wrap ((↑x : Int) - (1 : Int) - (1 : Int)) + (1 : Int)).toNat)))) ∧
                                                 True) ∧
                                            true = true) ∧
                                          (IntKind.i64.wrap ((↑x : Int) - (1 : Int) - (1 : Int)) + (1 : Int)).toNat ≤ bl2 (vB (18446744073709551616 : Nat) b) ∧ (IntKind.i64.wrap ((↑x : Int) - (1 : Int) - (1 : Int)) + (1 : Int)).toNat < x
                          | false =>
                           True ∧
                            ((4 : Nat) ≠ (0 : Nat) ∧ (4 : Nat) = (4 : Nat) ∧ true = true) ∧
                             ((1 : Nat) = (1 : Nat) ∧ True) ∧
                              (∃ (l_1 : List Int),
                                ∃ (m : List Int),
                                 [D.arr IntKind.u64 (4 : Nat) (nB (18446744073709551616 : Nat) (4 : Nat) (pwR (vB (18446744073709551616 : Nat) a) (vB (18446744073709551616 : Nat) b) (vB (18446744073709551616 : Nat) l) x)), D.arr IntKind.u64 (4 : Nat) [(0 : Int), (0 : Int), (0 : Int), (0 : Int)]] = [D.arr IntKind.u64 (4 : Nat) l_1, D.arr IntKind.u64 (4 : Nat) m] ∧
                                  l_1.length = (4 : Nat) ∧ m.length = (4 : Nat)) ∧
                               (∃ (l_1 : List Int),
                                 ∃ (t : List Int),
                                  [(D.st [D.arr IntKind.u64 (4 : Nat) l, D.arr IntKind.u64 (4 : Nat) (rgO (vB (18446744073709551616 : Nat) l)), D.arr IntKind.u64 (4 : Nat) (rgS (vB (18446744073709551616 : Nat) l)), D.val (Value.int IntKind.u64 (↑(rgI (vB (18446744073709551616 : Nat) l)) : Int))]).ref,
                                     D.arr IntKind.u64 (8 : Nat) (nB (18446744073709551616 : Nat) (4 : Nat) (pwR (vB (18446744073709551616 : Nat) a) (vB (18446744073709551616 : Nat) b) (vB (18446744073709551616 : Nat) l) x) ++ [(0 : Int), (0 : Int), (0 : Int), (0 : Int)])] =
                                    [(D.st [D.arr IntKind.u64 (4 : Nat) l_1, D.arr IntKind.u64 (4 : Nat) (rgO (vB (18446744073709551616 : Nat) l_1)), D.arr IntKind.u64 (4 : Nat) (rgS (vB (18446744073709551616 : Nat) l_1)), D.val (Value.int IntKind.u64 (↑(rgI (vB (18446744073709551616 : Nat) l_1)) : Int))]).ref, D.arr IntKind.u64 (8 : Nat) t] ∧
                                   rgOk l_1 ∧ is8 t) ∧
                                (Sk.arr (4 : Nat) = Sk.arr (4 : Nat) ∧ (4 : Nat) ≠ (0 : Nat) ∧ (4 : Nat) = (4 : Nat) ∧ false = false) ∧
                                 (((4 : Nat) ≠ (0 : Nat) ∧ (4 : Nat) = (4 : Nat) ∧ true = true) ∧ True) ∧
                                  D.arr IntKind.u64 (4 : Nat)
                                    (nB (18446744073709551616 : Nat) (4 : Nat) (redc (vB (18446744073709551616 : Nat) (nB (18446744073709551616 : Nat) (4 : Nat) (pwR (vB (18446744073709551616 : Nat) a) (vB (18446744073709551616 : Nat) b) (vB (18446744073709551616 : Nat) l) x) ++ [(0 : Int), (0 : Int), (0 : Int), (0 : Int)])) (vB (18446744073709551616 : Nat) l))) =
                                   F) := by kernel_rfl
set_option maxRecDepth 100000 in
theorem vc35  (a n m : Nat) (F : D)  :
    (owed c35 (inv35 a n m) Try.f35 [dgs (dg a), dgs (dg n), dgs (dg m)] F) = (
 True ∧
   ((1 : Nat) = (1 : Nat) ∧ (1 : Nat) ≤ (4096 : Nat)) ∧
    True ∧
     (∃ (l : List Int), ∃ (m_1 : List Int), [D.ints IntKind.i64 [(1 : Int)], D.ints IntKind.i64 (dg m)] = [D.ints IntKind.i64 l, D.ints IntKind.i64 m_1] ∧ (okd l ∧ len1 l) ∧ (okd m_1 ∧ len1 m_1) ∧ vB (65536 : Nat) m_1 ≠ (0 : Nat)) ∧
      True ∧
       True ∧
        True ∧
         (∃ (l : List Int), ∃ (m_1 : List Int), [D.ints IntKind.i64 (dg a), D.ints IntKind.i64 (dg m)] = [D.ints IntKind.i64 l, D.ints IntKind.i64 m_1] ∧ (okd l ∧ len1 l) ∧ (okd m_1 ∧ len1 m_1) ∧ vB (65536 : Nat) m_1 ≠ (0 : Nat)) ∧
          True ∧
           True ∧
            True ∧
             True ∧
              True ∧
               (∃ (l : List Int), ∃ (n_1 : Int), [D.ints IntKind.i64 (dg n), D.val (Value.int IntKind.i64 (IntKind.i64.wrap ((16 : Int) * (↑(dg n).length : Int))))] = [D.ints IntKind.i64 l, D.val (Value.int IntKind.i64 n_1)] ∧ okd l ∧ lenOk l ∧ (0 : Int) ≤ n_1 ∧ n_1 ≤ (16777216 : Int)) ∧
                True ∧
                 True ∧
                  (((AV.d (D.val (Value.int IntKind.i64 (0 : Int))) = AV.d (D.val (Value.int IntKind.i64 (↑(Int.toNat (0 : Int)) : Int))) ∧
                      AV.d (D.ints IntKind.i64 (dg (vB (65536 : Nat) [(1 : Int)] % vB (65536 : Nat) (dg m)))) = AV.d (D.ints IntKind.i64 (dg (pwO a n m (Int.toNat (0 : Int))))) ∧ AV.d (D.ints IntKind.i64 (dg (vB (65536 : Nat) (dg a) % vB (65536 : Nat) (dg m)))) = AV.d (D.ints IntKind.i64 (dg (pwA a m (Int.toNat (0 : Int))))) ∧ True) ∧
                     True ∧ true = true) ∧
                    Int.toNat (0 : Int) ≤ (16 : Nat) * (dg n).length) ∧
                   ∀ (x : Nat),
                    x ≤ (16 : Nat) * (dg n).length →
                     true = true ∧
                      True ∧
                       match decide ((↑x : Int) < (↑(nB (2 : Nat) (IntKind.i64.wrap ((16 : Int) * (↑(dg n).length : Int))).toNat (vB (65536 : Nat) (dg n))).length : Int)) with
                       | true =>
                        ((0 : Int) ≤ (↑x : Int) ∧ (↑x : Int) < (↑(nB (2 : Nat) (IntKind.i64.wrap ((16 : Int) * (↑(dg n).length : Int))).toNat (vB (65536 : Nat) (dg n))).length : Int) ∧ (1 : Nat) = (1 : Nat)) ∧
                         ((1 : Nat) ≠ (0 : Nat) ∧ (1 : Nat) = (1 : Nat) ∧ false = false) ∧
                          True ∧
                           True ∧
                            True ∧
                             match (nB (2 : Nat) (IntKind.i64.wrap ((16 : Int) * (↑(dg n).length : Int))).toNat (vB (65536 : Nat) (dg n))).getD (↑x : Int).toNat (0 : Int) == (1 : Int) with
                             | true =>
                              True ∧
                               True ∧
                                (∃ (l : List Int), ∃ (m_1 : List Int), [D.ints IntKind.i64 (dg (pwO a n m x)), D.ints IntKind.i64 (dg (pwA a m x))] = [D.ints IntKind.i64 l, D.ints IntKind.i64 m_1] ∧ (okd l ∧ lenS l) ∧ okd m_1 ∧ lenS m_1) ∧
                                 True ∧
                                  (∃ (l : List Int), ∃ (m_1 : List Int), [D.ints IntKind.i64 (dg (vB (65536 : Nat) (dg (pwO a n m x)) * vB (65536 : Nat) (dg (pwA a m x)))), D.ints IntKind.i64 (dg m)] = [D.ints IntKind.i64 l, D.ints IntKind.i64 m_1] ∧ (okd l ∧ len1 l) ∧ (okd m_1 ∧ len1 m_1) ∧ vB (65536 : Nat) m_1 ≠ (0 : Nat)) ∧
                                   True ∧
                                    True ∧
                                     True ∧
                                      (∃ (l : List Int), ∃ (m_1 : List Int), [D.ints IntKind.i64 (dg (pwA a m x)), D.ints IntKind.i64 (dg (pwA a m x))] = [D.ints IntKind.i64 l, D.ints IntKind.i64 m_1] ∧ (okd l ∧ lenS l) ∧ okd m_1 ∧ lenS m_1) ∧
                                       True ∧
                                        (∃ (l : List Int), ∃ (m_1 : List Int), [D.ints IntKind.i64 (dg (vB (65536 : Nat) (dg (pwA a m x)) * vB (65536 : Nat) (dg (pwA a m x)))), D.ints IntKind.i64 (dg m)] = [D.ints IntKind.i64 l, D.ints IntKind.i64 m_1] ∧ (okd l ∧ len1 l) ∧ (okd m_1 ∧ len1 m_1) ∧ vB (65536 : Nat) m_1 ≠ (0 : Nat)) ∧
                                         True ∧
                                          True ∧
                                           True ∧
                                            ((AV.d (D.val (Value.int IntKind.i64 (IntKind.i64.wrap ((↑x : Int) + (1 : Int))))) = AV.d (D.val (Value.int IntKind.i64 (↑(IntKind.i64.wrap ((↑x : Int) + (1 : Int))).toNat : Int))) ∧
                                               AV.d (D.ints IntKind.i64 (dg (vB (65536 : Nat) (dg (vB (65536 : Nat) (dg (pwO a n m x)) * vB (65536 : Nat) (dg (pwA a m x)))) % vB (65536 : Nat) (dg m)))) = AV.d (D.ints IntKind.i64 (dg (pwO a n m (IntKind.i64.wrap ((↑x : Int) + (1 : Int))).toNat))) ∧
                                                AV.d (D.ints IntKind.i64 (dg (vB (65536 : Nat) (dg (vB (65536 : Nat) (dg (pwA a m x)) * vB (65536 : Nat) (dg (pwA a m x)))) % vB (65536 : Nat) (dg m)))) = AV.d (D.ints IntKind.i64 (dg (pwA a m (IntKind.i64.wrap ((↑x : Int) + (1 : Int))).toNat))) ∧ True) ∧
                                              True ∧ true = true) ∧
                                             (IntKind.i64.wrap ((↑x : Int) + (1 : Int))).toNat ≤ (16 : Nat) * (dg n).length ∧ (16 : Nat) * (dg n).length - (IntKind.i64.wrap ((↑x : Int) + (1 : Int))).toNat < (16 : Nat) * (dg n).length - x
                             | false =>
                              True ∧
                               True ∧
                                (∃ (l : List Int), ∃ (m_1 : List Int), [D.ints IntKind.i64 (dg (pwA a m x)), D.ints IntKind.i64 (dg (pwA a m x))] = [D.ints IntKind.i64 l, D.ints IntKind.i64 m_1] ∧ (okd l ∧ lenS l) ∧ okd m_1 ∧ lenS m_1) ∧
                                 True ∧
                                  (∃ (l : List Int), ∃ (m_1 : List Int), [D.ints IntKind.i64 (dg (vB (65536 : Nat) (dg (pwA a m x)) * vB (65536 : Nat) (dg (pwA a m x)))), D.ints IntKind.i64 (dg m)] = [D.ints IntKind.i64 l, D.ints IntKind.i64 m_1] ∧ (okd l ∧ len1 l) ∧ (okd m_1 ∧ len1 m_1) ∧ vB (65536 : Nat) m_1 ≠ (0 : Nat)) ∧
                                   True ∧
                                    True ∧
                                     True ∧
                                      ((AV.d (D.val (Value.int IntKind.i64 (IntKind.i64.wrap ((↑x : Int) + (1 : Int))))) = AV.d (D.val (Value.int IntKind.i64 (↑(IntKind.i64.wrap ((↑x : Int) + (1 : Int))).toNat : Int))) ∧
                                         AV.d (D.ints IntKind.i64 (dg (pwO a n m x))) = AV.d (D.ints IntKind.i64 (dg (pwO a n m (IntKind.i64.wrap ((↑x : Int) + (1 : Int))).toNat))) ∧
                                          AV.d (D.ints IntKind.i64 (dg (vB (65536 : Nat) (dg (vB (65536 : Nat) (dg (pwA a m x)) * vB (65536 : Nat) (dg (pwA a m x)))) % vB (65536 : Nat) (dg m)))) = AV.d (D.ints IntKind.i64 (dg (pwA a m (IntKind.i64.wrap ((↑x : Int) + (1 : Int))).toNat))) ∧ True) ∧
                                        True ∧ true = true) ∧
                                       (IntKind.i64.wrap ((↑x : Int) + (1 : Int))).toNat ≤ (16 : Nat) * (dg n).length ∧ (16 : Nat) * (dg n).length - (IntKind.i64.wrap ((↑x : Int) + (1 : Int))).toNat < (16 : Nat) * (dg n).length - x
                       | false => True ∧ True ∧ (false = false ∧ True) ∧ D.ints IntKind.i64 (dg (pwO a n m x)) = F) := by kernel_rfl
set_option maxRecDepth 100000 in
theorem vc39  (l : List Int) (F : D)  :
    (owed c39 (fun _ => none) Try.f39 [num8 l] F) = (
 (True ∧ false = false) ∧
   True ∧
    ((0 : Int) ≤ (0 : Int) ∧ (0 : Int) < (↑(8 : Nat) : Int) ∧ (8 : Nat) = (8 : Nat) ∧ (1 : Nat) = (1 : Nat)) ∧
     ((1 : Nat) ≠ (0 : Nat) ∧ (1 : Nat) = (1 : Nat) ∧ false = false) ∧
      ((0 : Int) ≤ (1 : Int) ∧ (1 : Int) < (↑(8 : Nat) : Int) ∧ (8 : Nat) = (8 : Nat) ∧ (1 : Nat) = (1 : Nat)) ∧
       ((1 : Nat) ≠ (0 : Nat) ∧ (1 : Nat) = (1 : Nat) ∧ false = false) ∧
        ((0 : Int) ≤ (2 : Int) ∧ (2 : Int) < (↑(8 : Nat) : Int) ∧ (8 : Nat) = (8 : Nat) ∧ (1 : Nat) = (1 : Nat)) ∧
         ((1 : Nat) ≠ (0 : Nat) ∧ (1 : Nat) = (1 : Nat) ∧ false = false) ∧
          ((0 : Int) ≤ (3 : Int) ∧ (3 : Int) < (↑(8 : Nat) : Int) ∧ (8 : Nat) = (8 : Nat) ∧ (1 : Nat) = (1 : Nat)) ∧
           ((1 : Nat) ≠ (0 : Nat) ∧ (1 : Nat) = (1 : Nat) ∧ false = false) ∧
            ((0 : Int) ≤ (4 : Int) ∧ (4 : Int) < (↑(8 : Nat) : Int) ∧ (8 : Nat) = (8 : Nat) ∧ (1 : Nat) = (1 : Nat)) ∧
             ((1 : Nat) ≠ (0 : Nat) ∧ (1 : Nat) = (1 : Nat) ∧ false = false) ∧
              ((0 : Int) ≤ (5 : Int) ∧ (5 : Int) < (↑(8 : Nat) : Int) ∧ (8 : Nat) = (8 : Nat) ∧ (1 : Nat) = (1 : Nat)) ∧
               ((1 : Nat) ≠ (0 : Nat) ∧ (1 : Nat) = (1 : Nat) ∧ false = false) ∧
                ((0 : Int) ≤ (6 : Int) ∧ (6 : Int) < (↑(8 : Nat) : Int) ∧ (8 : Nat) = (8 : Nat) ∧ (1 : Nat) = (1 : Nat)) ∧
                 ((1 : Nat) ≠ (0 : Nat) ∧ (1 : Nat) = (1 : Nat) ∧ false = false) ∧
                  ((0 : Int) ≤ (7 : Int) ∧ (7 : Int) < (↑(8 : Nat) : Int) ∧ (8 : Nat) = (8 : Nat) ∧ (1 : Nat) = (1 : Nat)) ∧
                   ((1 : Nat) ≠ (0 : Nat) ∧ (1 : Nat) = (1 : Nat) ∧ false = false) ∧
                    ((1 : Nat) = (1 : Nat) ∧ (8 : Nat) ≤ (4096 : Nat)) ∧
                     (∃ (l_1 : List Int), [D.ints IntKind.u64 [l.getD (0 : Nat) (0 : Int), l.getD (1 : Nat) (0 : Int), l.getD (2 : Nat) (0 : Int), l.getD (3 : Nat) (0 : Int), l.getD (4 : Nat) (0 : Int), l.getD (5 : Nat) (0 : Int), l.getD (6 : Nat) (0 : Int), l.getD (7 : Nat) (0 : Int)]] = [D.ints IntKind.u64 l_1] ∧ okw l_1 ∧ l_1.length ≤ (100 : Nat)) ∧
                      True ∧ (false = false ∧ True) ∧ D.ints IntKind.i64 (dg (vB (18446744073709551616 : Nat) [l.getD (0 : Nat) (0 : Int), l.getD (1 : Nat) (0 : Int), l.getD (2 : Nat) (0 : Int), l.getD (3 : Nat) (0 : Int), l.getD (4 : Nat) (0 : Int), l.getD (5 : Nat) (0 : Int), l.getD (6 : Nat) (0 : Int), l.getD (7 : Nat) (0 : Int)])) = F) := by kernel_rfl
set_option maxRecDepth 100000 in
theorem vc21  (l : List Int) (F : D)  :
    (owedNew c21 (inv21 l) Try.f21 [num4 l] F) = (
 (True ∧ false = false) ∧
   True ∧
    True ∧
     ((0 : Int) ≤ (0 : Int) ∧ (0 : Int) < (↑(4 : Nat) : Int) ∧ (4 : Nat) = (4 : Nat) ∧ (1 : Nat) = (1 : Nat)) ∧
      ((1 : Nat) ≠ (0 : Nat) ∧ (1 : Nat) = (1 : Nat) ∧ false = false) ∧
       True ∧
        True ∧
         True ∧
          match iand IntKind.u64 (l.getD (0 : Nat) (0 : Int)) (1 : Int) == (0 : Int) with
          | true => True ∧ True ∧ True ∧ False
          | false =>
           ((4 : Nat) ≠ (0 : Nat) ∧ (4 : Nat) = (4 : Nat) ∧ true = true) ∧
            ((1 : Nat) = (1 : Nat) ∧ false = false ∧ ((0 : Nat) < (4 : Nat) ∧ ([] : List Nat) = [] ∧ true = true) ∧ True) ∧
             (IntKind.u64 = IntKind.u64 ∧ IntKind.u64 = IntKind.u64 ∧ (4 : Nat) = (4 : Nat) ∧ (4 : Nat) = (4 : Nat) ∧ (1 : Nat) = (1 : Nat)) ∧
              True ∧
               match eqB l [(1 : Int), (0 : Int), (0 : Int), (0 : Int)] with
               | true => True ∧ True ∧ False
               | false =>
                ((0 : Int) ≤ (0 : Int) ∧ (0 : Int) < (↑(4 : Nat) : Int) ∧ (4 : Nat) = (4 : Nat) ∧ (1 : Nat) = (1 : Nat)) ∧
                 ((1 : Nat) ≠ (0 : Nat) ∧ (1 : Nat) = (1 : Nat) ∧ false = false) ∧
                  True ∧
                   True ∧
                    (((AV.d (D.val (Value.int IntKind.i64 (0 : Int))) = AV.d (D.val (Value.int IntKind.i64 (↑(0 : Nat) : Int))) ∧ AV.d (D.val (Value.int IntKind.u64 (l.getD (0 : Nat) (0 : Int)))) = AV.d (D.val (Value.int IntKind.u64 (↑(l.getD (0 : Nat) (0 : Int)).toNat : Int))) ∧ True) ∧
                       (some (Blk.fix (D.arr IntKind.u64 (4 : Nat) l)) = some (Blk.fix (D.arr IntKind.u64 (4 : Nat) l)) ∧ True) ∧ true = true) ∧
                      NwI (m0 l) (0 : Nat) (l.getD (0 : Nat) (0 : Int)).toNat) ∧
                     ∀ (x : Nat × Nat),
                      NwI (m0 l) x.fst x.snd →
                       true = true ∧
                        True ∧
                         match decide ((↑x.fst : Int) < (5 : Int)) with
                         | true =>
                          True ∧
                           ((0 : Int) ≤ (0 : Int) ∧ (0 : Int) < (↑(4 : Nat) : Int) ∧ (4 : Nat) = (4 : Nat) ∧ (1 : Nat) = (1 : Nat)) ∧
                            ((1 : Nat) ≠ (0 : Nat) ∧ (1 : Nat) = (1 : Nat) ∧ false = false) ∧
                             True ∧
                              True ∧
                               True ∧
                                True ∧
                                 True ∧
                                  True ∧
                                   True ∧
                                    ((AV.d (D.val (Value.int IntKind.i64 (IntKind.i64.wrap ((↑x.fst : Int) + (1 : Int))))) = AV.d (D.val (Value.int IntKind.i64 (↑(IntKind.i64.wrap ((↑x.fst : Int) + (1 : Int))).toNat : Int))) ∧
                                       AV.d (D.val (Value.int IntKind.u64 (IntKind.u64.wrap ((↑x.snd : Int) * IntKind.u64.wrap ((2 : Int) - IntKind.u64.wrap (l.getD (0 : Nat) (0 : Int) * (↑x.snd : Int))))))) =
                                         AV.d (D.val (Value.int IntKind.u64 (↑(IntKind.u64.wrap ((↑x.snd : Int) * IntKind.u64.wrap ((2 : Int) - IntKind.u64.wrap (l.getD (0 : Nat) (0 : Int) * (↑x.snd : Int))))).toNat : Int))) ∧
                                        True) ∧
                                      (some (Blk.fix (D.arr IntKind.u64 (4 : Nat) l)) = some (Blk.fix (D.arr IntKind.u64 (4 : Nat) l)) ∧ True) ∧ true = true) ∧
                                     NwI (m0 l) (IntKind.i64.wrap ((↑x.fst : Int) + (1 : Int))).toNat (IntKind.u64.wrap ((↑x.snd : Int) * IntKind.u64.wrap ((2 : Int) - IntKind.u64.wrap (l.getD (0 : Nat) (0 : Int) * (↑x.snd : Int))))).toNat ∧ (5 : Nat) - (IntKind.i64.wrap ((↑x.fst : Int) + (1 : Int))).toNat < (5 : Nat) - x.fst
                         | false =>
                          ((1 : Nat) = (1 : Nat) ∧ false = false ∧ ((4 : Nat) < (8 : Nat) ∧ ([] : List Nat) = [] ∧ true = true) ∧ True) ∧
                           ((4 : Nat) ≠ (0 : Nat) ∧ (4 : Nat) = (4 : Nat) ∧ true = true) ∧
                            (∃ (a : List Int), ∃ (m : List Int), [D.arr IntKind.u64 (8 : Nat) [(0 : Int), (0 : Int), (0 : Int), (0 : Int), (1 : Int), (0 : Int), (0 : Int), (0 : Int)], D.arr IntKind.u64 (4 : Nat) l] = [D.arr IntKind.u64 (8 : Nat) a, D.arr IntKind.u64 (4 : Nat) m] ∧ (okw a ∧ a.length = (8 : Nat)) ∧ okw m ∧ m.length = (4 : Nat)) ∧
                             True ∧
                              ((0 : Nat) < (2 : Nat) ∧ false = false) ∧
                               ((1 : Nat) < (2 : Nat) ∧ false = false) ∧
                                (True ∧ (4 : Nat) ≠ (0 : Nat)) ∧
                                 (Sk.arr (4 : Nat) = Sk.arr (4 : Nat) ∧ (4 : Nat) ≠ (0 : Nat) ∧ (4 : Nat) = (4 : Nat) ∧ false = false) ∧
                                  True ∧
                                   ((4 : Nat) ≠ (0 : Nat) ∧ (4 : Nat) = (4 : Nat) ∧ true = true) ∧
                                    ((4 : Nat) ≠ (0 : Nat) ∧ (4 : Nat) = (4 : Nat) ∧ true = true) ∧
                                     (∃ (l_1 : List Int),
                                       ∃ (m : List Int),
                                        [D.arr IntKind.u64 (4 : Nat) (nB (18446744073709551616 : Nat) (4 : Nat) (dvr (vB (18446744073709551616 : Nat) [(0 : Int), (0 : Int), (0 : Int), (0 : Int), (1 : Int), (0 : Int), (0 : Int), (0 : Int)]) (vB (18446744073709551616 : Nat) l))),
                                           D.arr IntKind.u64 (4 : Nat) (nB (18446744073709551616 : Nat) (4 : Nat) (dvr (vB (18446744073709551616 : Nat) [(0 : Int), (0 : Int), (0 : Int), (0 : Int), (1 : Int), (0 : Int), (0 : Int), (0 : Int)]) (vB (18446744073709551616 : Nat) l)))] =
                                          [D.arr IntKind.u64 (4 : Nat) l_1, D.arr IntKind.u64 (4 : Nat) m] ∧
                                         isN l_1 ∧ isN m) ∧
                                      ((4 : Nat) ≠ (0 : Nat) ∧ (4 : Nat) = (4 : Nat) ∧ true = true) ∧
                                       (∃ (a : List Int),
                                         ∃ (m : List Int),
                                          [D.arr IntKind.u64 (8 : Nat)
                                              (nB (18446744073709551616 : Nat) (8 : Nat)
                                               (vB (18446744073709551616 : Nat) (nB (18446744073709551616 : Nat) (4 : Nat) (dvr (vB (18446744073709551616 : Nat) [(0 : Int), (0 : Int), (0 : Int), (0 : Int), (1 : Int), (0 : Int), (0 : Int), (0 : Int)]) (vB (18446744073709551616 : Nat) l))) *
                                                vB (18446744073709551616 : Nat) (nB (18446744073709551616 : Nat) (4 : Nat) (dvr (vB (18446744073709551616 : Nat) [(0 : Int), (0 : Int), (0 : Int), (0 : Int), (1 : Int), (0 : Int), (0 : Int), (0 : Int)]) (vB (18446744073709551616 : Nat) l))))),
                                             D.arr IntKind.u64 (4 : Nat) l] =
                                            [D.arr IntKind.u64 (8 : Nat) a, D.arr IntKind.u64 (4 : Nat) m] ∧
                                           (okw a ∧ a.length = (8 : Nat)) ∧ okw m ∧ m.length = (4 : Nat)) ∧
                                        True ∧
                                         ((0 : Nat) < (2 : Nat) ∧ false = false) ∧
                                          ((1 : Nat) < (2 : Nat) ∧ false = false) ∧
                                           (True ∧ (4 : Nat) ≠ (0 : Nat)) ∧
                                            (Sk.arr (4 : Nat) = Sk.arr (4 : Nat) ∧ (4 : Nat) ≠ (0 : Nat) ∧ (4 : Nat) = (4 : Nat) ∧ false = false) ∧
                                             True ∧
                                              ((4 : Nat) ≠ (0 : Nat) ∧ (4 : Nat) = (4 : Nat) ∧ true = true) ∧
                                               ((4 : Nat) ≠ (0 : Nat) ∧ (4 : Nat) = (4 : Nat) ∧ true = true) ∧
                                                ((4 : Nat) ≠ (0 : Nat) ∧ (4 : Nat) = (4 : Nat) ∧ true = true) ∧
                                                 True ∧
                                                  True ∧
                                                   (false = false ∧
                                                     ((0 : Nat) < (4 : Nat) ∧ Sk.arr (4 : Nat) = Sk.arr (4 : Nat)) ∧ false = false ∧ ((1 : Nat) < (4 : Nat) ∧ Sk.arr (4 : Nat) = Sk.arr (4 : Nat)) ∧ false = false ∧ ((2 : Nat) < (4 : Nat) ∧ Sk.arr (4 : Nat) = Sk.arr (4 : Nat)) ∧ false = false ∧ ((3 : Nat) < (4 : Nat) ∧ Sk.one = Sk.one) ∧ True) ∧
                                                    (True ∧ false = false) ∧
                                                     True ∧
                                                      True ∧
                                                       (false = false ∧ True) ∧
                                                        True ∧
                                                         D.tup
                                                           [D.st
                                                             [D.arr IntKind.u64 (4 : Nat) l, D.arr IntKind.u64 (4 : Nat) (nB (18446744073709551616 : Nat) (4 : Nat) (dvr (vB (18446744073709551616 : Nat) [(0 : Int), (0 : Int), (0 : Int), (0 : Int), (1 : Int), (0 : Int), (0 : Int), (0 : Int)]) (vB (18446744073709551616 : Nat) l))),
                                                              D.arr IntKind.u64 (4 : Nat)
                                                               (nB (18446744073709551616 : Nat) (4 : Nat)
                                                                (dvr
                                                                 (vB (18446744073709551616 : Nat)
                                                                  (nB (18446744073709551616 : Nat) (8 : Nat)
                                                                   (vB (18446744073709551616 : Nat) (nB (18446744073709551616 : Nat) (4 : Nat) (dvr (vB (18446744073709551616 : Nat) [(0 : Int), (0 : Int), (0 : Int), (0 : Int), (1 : Int), (0 : Int), (0 : Int), (0 : Int)]) (vB (18446744073709551616 : Nat) l))) *
                                                                    vB (18446744073709551616 : Nat) (nB (18446744073709551616 : Nat) (4 : Nat) (dvr (vB (18446744073709551616 : Nat) [(0 : Int), (0 : Int), (0 : Int), (0 : Int), (1 : Int), (0 : Int), (0 : Int), (0 : Int)]) (vB (18446744073709551616 : Nat) l))))))
                                                                 (vB (18446744073709551616 : Nat) l))),
                                                              D.val (Value.int IntKind.u64 (IntKind.u64.wrap ((0 : Int) - (↑x.snd : Int))))],
                                                            D.val (Value.int IntKind.i64 (0 : Int))] =
                                                          F) := by kernel_rfl
set_option maxRecDepth 100000 in
theorem vc21b  (l : List Int) (F : D)  :
    (owed c21 (inv21 l) Try.f21 [num4 l] F) = (
 (True ∧ false = false) ∧
   True ∧
    True ∧
     ((0 : Int) ≤ (0 : Int) ∧ (0 : Int) < (↑(4 : Nat) : Int) ∧ (4 : Nat) = (4 : Nat) ∧ (1 : Nat) = (1 : Nat)) ∧
      ((1 : Nat) ≠ (0 : Nat) ∧ (1 : Nat) = (1 : Nat) ∧ false = false) ∧
       True ∧
        True ∧
         True ∧
          match iand IntKind.u64 (l.getD (0 : Nat) (0 : Int)) (1 : Int) == (0 : Int) with
          | true => True ∧ True ∧ True ∧ (false = false ∧ false = false ∧ True) ∧ D.tup [D.val (Value.pointer none), D.val (Value.int IntKind.i64 (1 : Int))] = F
          | false =>
           ((4 : Nat) ≠ (0 : Nat) ∧ (4 : Nat) = (4 : Nat) ∧ true = true) ∧
            ((1 : Nat) = (1 : Nat) ∧ false = false ∧ ((0 : Nat) < (4 : Nat) ∧ ([] : List Nat) = [] ∧ true = true) ∧ True) ∧
             (IntKind.u64 = IntKind.u64 ∧ IntKind.u64 = IntKind.u64 ∧ (4 : Nat) = (4 : Nat) ∧ (4 : Nat) = (4 : Nat) ∧ (1 : Nat) = (1 : Nat)) ∧
              True ∧
               match eqB l [(1 : Int), (0 : Int), (0 : Int), (0 : Int)] with
               | true => True ∧ True ∧ (false = false ∧ false = false ∧ True) ∧ D.tup [D.val (Value.pointer none), D.val (Value.int IntKind.i64 (1 : Int))] = F
               | false =>
                ((0 : Int) ≤ (0 : Int) ∧ (0 : Int) < (↑(4 : Nat) : Int) ∧ (4 : Nat) = (4 : Nat) ∧ (1 : Nat) = (1 : Nat)) ∧
                 ((1 : Nat) ≠ (0 : Nat) ∧ (1 : Nat) = (1 : Nat) ∧ false = false) ∧
                  True ∧
                   True ∧
                    (((AV.d (D.val (Value.int IntKind.i64 (0 : Int))) = AV.d (D.val (Value.int IntKind.i64 (↑(0 : Nat) : Int))) ∧ AV.d (D.val (Value.int IntKind.u64 (l.getD (0 : Nat) (0 : Int)))) = AV.d (D.val (Value.int IntKind.u64 (↑(l.getD (0 : Nat) (0 : Int)).toNat : Int))) ∧ True) ∧
                       (some (Blk.fix (D.arr IntKind.u64 (4 : Nat) l)) = some (Blk.fix (D.arr IntKind.u64 (4 : Nat) l)) ∧ True) ∧ true = true) ∧
                      NwI (m0 l) (0 : Nat) (l.getD (0 : Nat) (0 : Int)).toNat) ∧
                     ∀ (x : Nat × Nat),
                      NwI (m0 l) x.fst x.snd →
                       true = true ∧
                        True ∧
                         match decide ((↑x.fst : Int) < (5 : Int)) with
                         | true =>
                          True ∧
                           ((0 : Int) ≤ (0 : Int) ∧ (0 : Int) < (↑(4 : Nat) : Int) ∧ (4 : Nat) = (4 : Nat) ∧ (1 : Nat) = (1 : Nat)) ∧
                            ((1 : Nat) ≠ (0 : Nat) ∧ (1 : Nat) = (1 : Nat) ∧ false = false) ∧
                             True ∧
                              True ∧
                               True ∧
                                True ∧
                                 True ∧
                                  True ∧
                                   True ∧
                                    ((AV.d (D.val (Value.int IntKind.i64 (IntKind.i64.wrap ((↑x.fst : Int) + (1 : Int))))) = AV.d (D.val (Value.int IntKind.i64 (↑(IntKind.i64.wrap ((↑x.fst : Int) + (1 : Int))).toNat : Int))) ∧
                                       AV.d (D.val (Value.int IntKind.u64 (IntKind.u64.wrap ((↑x.snd : Int) * IntKind.u64.wrap ((2 : Int) - IntKind.u64.wrap (l.getD (0 : Nat) (0 : Int) * (↑x.snd : Int))))))) =
                                         AV.d (D.val (Value.int IntKind.u64 (↑(IntKind.u64.wrap ((↑x.snd : Int) * IntKind.u64.wrap ((2 : Int) - IntKind.u64.wrap (l.getD (0 : Nat) (0 : Int) * (↑x.snd : Int))))).toNat : Int))) ∧
                                        True) ∧
                                      (some (Blk.fix (D.arr IntKind.u64 (4 : Nat) l)) = some (Blk.fix (D.arr IntKind.u64 (4 : Nat) l)) ∧ True) ∧ true = true) ∧
                                     NwI (m0 l) (IntKind.i64.wrap ((↑x.fst : Int) + (1 : Int))).toNat (IntKind.u64.wrap ((↑x.snd : Int) * IntKind.u64.wrap ((2 : Int) - IntKind.u64.wrap (l.getD (0 : Nat) (0 : Int) * (↑x.snd : Int))))).toNat ∧ (5 : Nat) - (IntKind.i64.wrap ((↑x.fst : Int) + (1 : Int))).toNat < (5 : Nat) - x.fst
                         | false =>
                          ((1 : Nat) = (1 : Nat) ∧ false = false ∧ ((4 : Nat) < (8 : Nat) ∧ ([] : List Nat) = [] ∧ true = true) ∧ True) ∧
                           ((4 : Nat) ≠ (0 : Nat) ∧ (4 : Nat) = (4 : Nat) ∧ true = true) ∧
                            (∃ (a : List Int), ∃ (m : List Int), [D.arr IntKind.u64 (8 : Nat) [(0 : Int), (0 : Int), (0 : Int), (0 : Int), (1 : Int), (0 : Int), (0 : Int), (0 : Int)], D.arr IntKind.u64 (4 : Nat) l] = [D.arr IntKind.u64 (8 : Nat) a, D.arr IntKind.u64 (4 : Nat) m] ∧ (okw a ∧ a.length = (8 : Nat)) ∧ okw m ∧ m.length = (4 : Nat)) ∧
                             True ∧
                              ((0 : Nat) < (2 : Nat) ∧ false = false) ∧
                               ((1 : Nat) < (2 : Nat) ∧ false = false) ∧
                                (True ∧ (4 : Nat) ≠ (0 : Nat)) ∧
                                 (Sk.arr (4 : Nat) = Sk.arr (4 : Nat) ∧ (4 : Nat) ≠ (0 : Nat) ∧ (4 : Nat) = (4 : Nat) ∧ false = false) ∧
                                  True ∧
                                   ((4 : Nat) ≠ (0 : Nat) ∧ (4 : Nat) = (4 : Nat) ∧ true = true) ∧
                                    ((4 : Nat) ≠ (0 : Nat) ∧ (4 : Nat) = (4 : Nat) ∧ true = true) ∧
                                     (∃ (l_1 : List Int),
                                       ∃ (m : List Int),
                                        [D.arr IntKind.u64 (4 : Nat) (nB (18446744073709551616 : Nat) (4 : Nat) (dvr (vB (18446744073709551616 : Nat) [(0 : Int), (0 : Int), (0 : Int), (0 : Int), (1 : Int), (0 : Int), (0 : Int), (0 : Int)]) (vB (18446744073709551616 : Nat) l))),
                                           D.arr IntKind.u64 (4 : Nat) (nB (18446744073709551616 : Nat) (4 : Nat) (dvr (vB (18446744073709551616 : Nat) [(0 : Int), (0 : Int), (0 : Int), (0 : Int), (1 : Int), (0 : Int), (0 : Int), (0 : Int)]) (vB (18446744073709551616 : Nat) l)))] =
                                          [D.arr IntKind.u64 (4 : Nat) l_1, D.arr IntKind.u64 (4 : Nat) m] ∧
                                         isN l_1 ∧ isN m) ∧
                                      ((4 : Nat) ≠ (0 : Nat) ∧ (4 : Nat) = (4 : Nat) ∧ true = true) ∧
                                       (∃ (a : List Int),
                                         ∃ (m : List Int),
                                          [D.arr IntKind.u64 (8 : Nat)
                                              (nB (18446744073709551616 : Nat) (8 : Nat)
                                               (vB (18446744073709551616 : Nat) (nB (18446744073709551616 : Nat) (4 : Nat) (dvr (vB (18446744073709551616 : Nat) [(0 : Int), (0 : Int), (0 : Int), (0 : Int), (1 : Int), (0 : Int), (0 : Int), (0 : Int)]) (vB (18446744073709551616 : Nat) l))) *
                                                vB (18446744073709551616 : Nat) (nB (18446744073709551616 : Nat) (4 : Nat) (dvr (vB (18446744073709551616 : Nat) [(0 : Int), (0 : Int), (0 : Int), (0 : Int), (1 : Int), (0 : Int), (0 : Int), (0 : Int)]) (vB (18446744073709551616 : Nat) l))))),
                                             D.arr IntKind.u64 (4 : Nat) l] =
                                            [D.arr IntKind.u64 (8 : Nat) a, D.arr IntKind.u64 (4 : Nat) m] ∧
                                           (okw a ∧ a.length = (8 : Nat)) ∧ okw m ∧ m.length = (4 : Nat)) ∧
                                        True ∧
                                         ((0 : Nat) < (2 : Nat) ∧ false = false) ∧
                                          ((1 : Nat) < (2 : Nat) ∧ false = false) ∧
                                           (True ∧ (4 : Nat) ≠ (0 : Nat)) ∧
                                            (Sk.arr (4 : Nat) = Sk.arr (4 : Nat) ∧ (4 : Nat) ≠ (0 : Nat) ∧ (4 : Nat) = (4 : Nat) ∧ false = false) ∧
                                             True ∧
                                              ((4 : Nat) ≠ (0 : Nat) ∧ (4 : Nat) = (4 : Nat) ∧ true = true) ∧
                                               ((4 : Nat) ≠ (0 : Nat) ∧ (4 : Nat) = (4 : Nat) ∧ true = true) ∧
                                                ((4 : Nat) ≠ (0 : Nat) ∧ (4 : Nat) = (4 : Nat) ∧ true = true) ∧
                                                 True ∧
                                                  True ∧
                                                   (false = false ∧
                                                     ((0 : Nat) < (4 : Nat) ∧ Sk.arr (4 : Nat) = Sk.arr (4 : Nat)) ∧ false = false ∧ ((1 : Nat) < (4 : Nat) ∧ Sk.arr (4 : Nat) = Sk.arr (4 : Nat)) ∧ false = false ∧ ((2 : Nat) < (4 : Nat) ∧ Sk.arr (4 : Nat) = Sk.arr (4 : Nat)) ∧ false = false ∧ ((3 : Nat) < (4 : Nat) ∧ Sk.one = Sk.one) ∧ True) ∧
                                                    (True ∧ false = false) ∧
                                                     True ∧
                                                      True ∧
                                                       (false = false ∧ false = false ∧ True) ∧
                                                        D.tup
                                                          [(D.st
                                                             [D.arr IntKind.u64 (4 : Nat) l, D.arr IntKind.u64 (4 : Nat) (nB (18446744073709551616 : Nat) (4 : Nat) (dvr (vB (18446744073709551616 : Nat) [(0 : Int), (0 : Int), (0 : Int), (0 : Int), (1 : Int), (0 : Int), (0 : Int), (0 : Int)]) (vB (18446744073709551616 : Nat) l))),
                                                              D.arr IntKind.u64 (4 : Nat)
                                                               (nB (18446744073709551616 : Nat) (4 : Nat)
                                                                (dvr
                                                                 (vB (18446744073709551616 : Nat)
                                                                  (nB (18446744073709551616 : Nat) (8 : Nat)
                                                                   (vB (18446744073709551616 : Nat) (nB (18446744073709551616 : Nat) (4 : Nat) (dvr (vB (18446744073709551616 : Nat) [(0 : Int), (0 : Int), (0 : Int), (0 : Int), (1 : Int), (0 : Int), (0 : Int), (0 : Int)]) (vB (18446744073709551616 : Nat) l))) *
                                                                    vB (18446744073709551616 : Nat) (nB (18446744073709551616 : Nat) (4 : Nat) (dvr (vB (18446744073709551616 : Nat) [(0 : Int), (0 : Int), (0 : Int), (0 : Int), (1 : Int), (0 : Int), (0 : Int), (0 : Int)]) (vB (18446744073709551616 : Nat) l))))))
                                                                 (vB (18446744073709551616 : Nat) l))),
                                                              D.val (Value.int IntKind.u64 (IntKind.u64.wrap ((0 : Int) - (↑x.snd : Int))))]).ref,
                                                           D.val (Value.int IntKind.i64 (0 : Int))] =
                                                         F) := by kernel_rfl
set_option maxRecDepth 100000 in
theorem vc23  (x k : List Int) (F : D)  :
    (owed c23 (fun _ => none) Try.f23 [dgs x, .ref (dgs k)] F) = (
 (True ∧ (4 : Nat) ≠ (0 : Nat)) ∧
   True ∧
    ((1 : Nat) ≠ (0 : Nat) ∧ (1 : Nat) = (1 : Nat) ∧ false = false) ∧
     (∃ (l : List Int), ∃ (m : List Int), [D.ints IntKind.i64 x, D.ints IntKind.i64 k] = [D.ints IntKind.i64 l, D.ints IntKind.i64 m] ∧ (okd l ∧ len1 l) ∧ (okd m ∧ len1 m) ∧ vB (65536 : Nat) m ≠ (0 : Nat)) ∧
      (∃ (l : List Int), [D.ints IntKind.i64 (dg (vB (65536 : Nat) x % vB (65536 : Nat) k))] = [D.ints IntKind.i64 l] ∧ okd l ∧ lenOk l) ∧
       (Sk.arr (4 : Nat) = Sk.arr (4 : Nat) ∧ (4 : Nat) ≠ (0 : Nat) ∧ (4 : Nat) = (4 : Nat) ∧ false = false) ∧ (((4 : Nat) ≠ (0 : Nat) ∧ (4 : Nat) = (4 : Nat) ∧ true = true) ∧ True) ∧ D.arr IntKind.u64 (4 : Nat) (nB (18446744073709551616 : Nat) (4 : Nat) (vB (65536 : Nat) (dg (vB (65536 : Nat) x % vB (65536 : Nat) k)))) = F) := by kernel_rfl

end Go.Proofs.Ytkicjckhkefnpaa
/- The ring of package ring: Add, Sub, Mul, Pow meet. -/
namespace Go.Proofs.Ytkicjckhkefnpaa
open Go Go.Vg
set_option exponentiation.threshold 2000

theorem v4 {x : Nat} (h : x < 2 ^ 256) : vB 18446744073709551616 (nB 18446744073709551616 4 x) = x := by rw [wv_nB, Nat.mod_eq_of_lt h]
theorem v8 {x : Nat} (h : x < 2 ^ 512) : vB 18446744073709551616 (nB 18446744073709551616 8 x) = x := by rw [wv_nB8, Nat.mod_eq_of_lt h]
theorem rg_lt {l : List Int} (hl : rgOk l) : wv l < 2 ^ 256 ∧ 1 < wv l := ⟨wv_lt hl.1.1 hl.1.2, hl.2.2⟩
theorem mod_lt' {l : List Int} (hl : rgOk l) (a : Nat) : a % wv l < wv l ∧ a % wv l < 2 ^ 256 := by
  have := rg_lt hl
  have := Nat.mod_lt a (show 0 < wv l by omega)
  omega
theorem mul512 {x y : Nat} (hx : x < 2 ^ 256) (hy : y < 2 ^ 256) : x * y < 2 ^ 512 := Nat.lt_of_lt_of_le (Nat.mul_lt_mul'' hx hy) (by rw [← Nat.pow_add]; exact Nat.le_refl _)

theorem add_law {A B M : Nat} (hA : A < M) (hB : B < M) (hM : M < 2 ^ 256) :
    (smC A B = 1 → dif (smN A B) M = (A + B) % M) ∧ (smC A B ≠ 1 → bor (smN A B) M = 0 → dif (smN A B) M = (A + B) % M) ∧ (smC A B ≠ 1 → bor (smN A B) M ≠ 0 → smN A B = (A + B) % M) := by
  have e : (A + B) % M = if A + B < M then A + B else A + B - M := by
    split
    · rename_i h
      exact Nat.mod_eq_of_lt h
    · rename_i h
      rw [Nat.mod_eq_sub_mod (by omega), Nat.mod_eq_of_lt (by omega)]
  rw [e]
  unfold smC smN bor dif
  generalize (2 : Nat) ^ 256 = R at *
  by_cases hc : A + B < R
  · rw [Nat.mod_eq_of_lt hc, Nat.div_eq_of_lt hc]
    refine ⟨fun h => by omega, fun _ h => ?_, fun _ h => ?_⟩
    · split at h
      · omega
      · rename_i h2
        rw [if_neg h2, show A + B + R - M = (A + B - M) + R by omega, Nat.add_mod_right, Nat.mod_eq_of_lt (by omega)]
    · split at h
      · rename_i h2
        rw [if_pos h2]
      · omega
  · have h1 : (A + B) % R = A + B - R := by rw [Nat.mod_eq_sub_mod (by omega), Nat.mod_eq_of_lt (by omega)]
    have h2 : (A + B) / R = 1 := by rw [Nat.div_eq_sub_div (by omega) (by omega), Nat.div_eq_of_lt (by omega)]
    rw [h1, h2]
    refine ⟨fun _ => ?_, fun h => absurd rfl h, fun h => absurd rfl h⟩
    rw [if_neg (by omega), show A + B - R + R - M = A + B - M by omega, Nat.mod_eq_of_lt (by omega)]

theorem sub_law {A B M : Nat} (hA : A < M) (hB : B < M) (hM : M < 2 ^ 256) :
    (bor A B = 1 → smN (dif A B) M = (A + M - B) % M) ∧ (bor A B ≠ 1 → dif A B = (A + M - B) % M) := by
  unfold bor smN dif
  generalize (2 : Nat) ^ 256 = R at *
  by_cases h : A < B
  · rw [if_pos h, Nat.mod_eq_of_lt (show A + R - B < R by omega)]
    refine ⟨fun _ => ?_, fun h => absurd rfl h⟩
    rw [show A + R - B + M = (A + M - B) + R by omega, Nat.add_mod_right, Nat.mod_eq_of_lt (by omega), Nat.mod_eq_of_lt (by omega)]
  · rw [if_neg h]
    refine ⟨fun h => by omega, fun _ => ?_⟩
    rw [show A + R - B = (A - B) + R by omega, show A + M - B = (A - B) + M by omega, Nat.add_mod_right, Nat.add_mod_right, Nat.mod_eq_of_lt (by omega), Nat.mod_eq_of_lt (by omega)]

set_option maxRecDepth 100000 in
theorem m27 : Meets Try.prog 27 sp27 := by
  refine meets_of_owed (C := c27) ⟨tab_ok, lkS_ok ⟨m74, m73, m75, trivial⟩⟩ (by kernel_rfl) (by kernel_rfl : Try.prog.funcs[27]? = some Try.f27) (by kernel_rfl) (by kernel_rfl) (by kernel_rfl) _ ?_
  rintro _ ⟨l, a, b, rfl, hl, ha, hb⟩
  refine ⟨fun _ => rfl, fun _ => none, ?_⟩
  show owed c27 (fun _ => none) Try.f27 [.ref (ringD l), num4 a, num4 b] (num4 (nB 18446744073709551616 4 (adM (wv a) (wv b) (wv l))))
  rw [vc27]
  have eA := v4 (mod_lt' hl (wv a)).2
  have eB := v4 (mod_lt' hl (wv b)).2
  have hS : smN (wv a % wv l) (wv b % wv l) < 2 ^ 256 := Nat.mod_lt _ (by decide)
  have eS := v4 hS
  obtain ⟨g1, g2, g3⟩ := add_law (mod_lt' hl (wv a)).1 (mod_lt' hl (wv b)).1 (rg_lt hl).1
  rw [← Nat.add_mod] at g1 g2 g3
  unfold wv at eA eB eS g1 g2 g3
  simp (decide := true) only [eA, eB, eS, eq_self, true_and, and_true, ne_eq, not_false_eq_true, Int.toNat_natCast]
  refine ⟨⟨l, a, rfl, hl, ha⟩, ⟨l, b, rfl, hl, hb⟩, ⟨_, _, rfl, nB_isN _, nB_isN _⟩, ⟨_, l, rfl, nB_isN _, hl.1⟩, ?_⟩
  unfold adM wv
  split
  · rename_i h
    rw [g1 (by have := eq_of_beq h; omega)]
  · rename_i h
    have hn : smC (vB 18446744073709551616 a % vB 18446744073709551616 l) (vB 18446744073709551616 b % vB 18446744073709551616 l) ≠ 1 := fun e => by rw [e] at h; exact absurd h (by decide)
    split
    · rename_i h2
      rw [g2 hn (by have := eq_of_beq h2; omega)]
    · rename_i h2
      rw [g3 hn (fun e => by rw [e] at h2; exact absurd h2 (by decide))]

set_option maxRecDepth 100000 in
theorem m29 : Meets Try.prog 29 sp29 := by
  refine meets_of_owed (C := c27) ⟨tab_ok, lkS_ok ⟨m74, m73, m75, trivial⟩⟩ (by kernel_rfl) (by kernel_rfl : Try.prog.funcs[29]? = some Try.f29) (by kernel_rfl) (by kernel_rfl) (by kernel_rfl) _ ?_
  rintro _ ⟨l, a, b, rfl, hl, ha, hb⟩
  refine ⟨fun _ => rfl, fun _ => none, ?_⟩
  show owed c27 (fun _ => none) Try.f29 [.ref (ringD l), num4 a, num4 b] (num4 (nB 18446744073709551616 4 (sbM (wv a) (wv b) (wv l))))
  rw [vc29]
  have eA := v4 (mod_lt' hl (wv a)).2
  have eB := v4 (mod_lt' hl (wv b)).2
  have hS : dif (wv a % wv l) (wv b % wv l) < 2 ^ 256 := Nat.mod_lt _ (by decide)
  have eS := v4 hS
  obtain ⟨g1, g2⟩ := sub_law (mod_lt' hl (wv a)).1 (mod_lt' hl (wv b)).1 (rg_lt hl).1
  unfold wv at eA eB eS g1 g2
  simp (decide := true) only [eA, eB, eS, eq_self, true_and, and_true, ne_eq, not_false_eq_true, Int.toNat_natCast]
  refine ⟨⟨l, a, rfl, hl, ha⟩, ⟨l, b, rfl, hl, hb⟩, ⟨_, _, rfl, nB_isN _, nB_isN _⟩, ?_⟩
  unfold sbM wv
  split
  · rename_i h
    refine ⟨⟨_, l, rfl, nB_isN _, hl.1⟩, ?_⟩
    rw [g1 (by have := eq_of_beq h; omega)]
  · rename_i h
    rw [g2 (fun e => by rw [e] at h; exact absurd h (by decide))]

theorem redc_in {a b M : Nat} (h1 : 1 < M) (h2 : M < 2 ^ 256) (ho : M % 2 = 1) : redc (inM a M * b) M = a * b % M := by
  refine (redc_eq (y := a * b % M) h1 h2 ho (Nat.mod_lt _ (by omega)) ?_).symm
  unfold inM
  rw [mm, mm, Nat.mul_right_comm]
theorem inM_lt {l : List Int} (hl : rgOk l) (a : Nat) : inM a (wv l) < 2 ^ 256 := (mod_lt' hl _).2

set_option maxRecDepth 100000 in
theorem m31 : Meets Try.prog 31 sp31 := by
  refine meets_of_owed (C := c31) ⟨tab_ok, lkS_ok ⟨m36, m70, m33, trivial⟩⟩ (by kernel_rfl) (by kernel_rfl : Try.prog.funcs[31]? = some Try.f31) (by kernel_rfl) (by kernel_rfl) (by kernel_rfl) _ ?_
  rintro _ ⟨l, a, b, rfl, hl, ha, hb⟩
  refine ⟨fun _ => rfl, fun _ => none, ?_⟩
  show owed c31 (fun _ => none) Try.f31 [.ref (ringD l), num4 a, num4 b] (num4 (nB 18446744073709551616 4 (mlM (wv a) (wv b) (wv l))))
  rw [vc31]
  have eA := v4 (inM_lt hl (wv a))
  have e8 := v8 (mul512 (inM_lt hl (wv a)) (wv_lt hb.1 hb.2))
  have eR := redc_in (a := wv a) (b := wv b) (rg_lt hl).2 (rg_lt hl).1 hl.2.1
  unfold wv at eA e8 eR
  simp (decide := true) only [eA, e8, eR, eq_self, true_and, and_true, ne_eq, not_false_eq_true, Int.toNat_natCast]
  refine ⟨⟨l, a, rfl, hl, ha⟩, ⟨_, b, rfl, nB_isN _, hb⟩, ⟨l, _, rfl, hl, nB_is8 _⟩, ?_⟩
  rfl

theorem bl2_lt (n : Nat) : n < 2 ^ bl2 n := by
  unfold bl2
  split
  · omega
  · exact Nat.lt_log2_self
theorem bl2_le {n : Nat} (h : n < 2 ^ 256) : bl2 n ≤ 256 := by
  unfold bl2
  split
  · omega
  · rename_i h0
    have := (Nat.log2_lt h0).2 h
    omega
theorem pwR_top (A N M : Nat) : pwR A N M (bl2 N) = 2 ^ 256 % M := by
  unfold pwR
  rw [Nat.div_eq_of_lt (bl2_lt N), Nat.pow_zero, Nat.one_mul]
theorem pwR_sq {A N M k : Nat} (h1 : 1 < M) (h2 : M < 2 ^ 256) (ho : M % 2 = 1) (hb : N / 2 ^ k % 2 = 0) : redc (pwR A N M (k + 1) * pwR A N M (k + 1)) M = pwR A N M k := by
  refine (redc_eq (y := pwR A N M k) h1 h2 ho (Nat.mod_lt _ (by omega)) ?_).symm
  unfold pwR
  have e : N / 2 ^ k = 2 * (N / 2 ^ (k + 1)) := by
    rw [Nat.pow_succ, ← Nat.div_div_eq_div_mul]
    omega
  generalize (2 : Nat) ^ 256 = R at *
  rw [e, mm, mm, mm2, Nat.two_mul, Nat.pow_add, Nat.mul_mul_mul_comm, Nat.mul_assoc]
theorem pwR_one {A N M k : Nat} (h1 : 1 < M) (h2 : M < 2 ^ 256) (ho : M % 2 = 1) (hb : N / 2 ^ k % 2 = 1) : redc (redc (pwR A N M (k + 1) * pwR A N M (k + 1)) M * inM A M) M = pwR A N M k := by
  refine (redc_eq (y := pwR A N M k) h1 h2 ho (Nat.mod_lt _ (by omega)) ?_).symm
  have e : N / 2 ^ k = 2 * (N / 2 ^ (k + 1)) + 1 := by
    rw [Nat.pow_succ, ← Nat.div_div_eq_div_mul]
    omega
  have hr := redc_mul (T := pwR A N M (k + 1) * pwR A N M (k + 1)) h1 h2 ho
  have e2 : redc (pwR A N M (k + 1) * pwR A N M (k + 1)) M * inM A M % M = (pwR A N M (k + 1) * pwR A N M (k + 1)) * A % M := by
    unfold inM
    rw [mm2, Nat.mul_left_comm, Nat.mul_comm A, ← mm, hr, mm]
  rw [e2]
  unfold pwR
  generalize (2 : Nat) ^ 256 = R at *
  generalize N / 2 ^ (k + 1) = E at *
  rw [e, mm, Nat.pow_succ, Nat.two_mul, Nat.pow_add, ← mm (A ^ E * R % M * (A ^ E * R % M)) A M, ← Nat.mul_mod, mm]
  congr 1
  ac_rfl

end Go.Proofs.Ytkicjckhkefnpaa
/- The ring of package ring: Pow and New meet; the document's Power. -/
namespace Go.Proofs.Ytkicjckhkefnpaa
open Go Go.Vg
set_option exponentiation.threshold 2000

theorem pwR_end {A N M : Nat} (h1 : 1 < M) (h2 : M < 2 ^ 256) (ho : M % 2 = 1) : redc (pwR A N M 0) M = powN A N M := by
  refine (redc_eq (y := powN A N M) h1 h2 ho (Nat.mod_lt _ (by omega)) ?_).symm
  unfold pwR powN
  rw [Nat.pow_zero, Nat.div_one, mm, Nat.mod_mod]

set_option maxRecDepth 100000 in
theorem m34 : Meets Try.prog 34 sp34 := by
  refine meets_of_owed (C := c34) ⟨tab_ok, lkS_ok ⟨m36, m81, m70, m33, m82, m83, trivial⟩⟩ (by kernel_rfl) (by kernel_rfl : Try.prog.funcs[34]? = some Try.f34) (by kernel_rfl) (by kernel_rfl) (by kernel_rfl) _ ?_
  rintro _ ⟨l, a, b, rfl, hl, ha, hb⟩
  refine ⟨fun _ => rfl, inv34 l a b, ?_⟩
  show owed c34 (inv34 l a b) Try.f34 [.ref (ringD l), num4 a, num4 b] (num4 (nB 18446744073709551616 4 (powN (wv a) (wv b) (wv l))))
  rw [vc34]
  obtain ⟨hM, h1⟩ := rg_lt hl
  have ho := hl.2.1
  have hbl := bl2_le (wv_lt hb.1 hb.2)
  have w1 : IntKind.i64.wrap (((bl2 (vB 18446744073709551616 b) : Nat) : Int) - 1) = ((bl2 (vB 18446744073709551616 b) : Nat) : Int) - 1 := wi (by unfold wv at hbl; omega) (by unfold wv at hbl; omega)
  have w2 : (((bl2 (vB 18446744073709551616 b) : Nat) : Int) - 1 + 1).toNat = bl2 (vB 18446744073709551616 b) := by omega
  have eT : rgO (vB 18446744073709551616 l) = nB 18446744073709551616 4 (pwR (vB 18446744073709551616 a) (vB 18446744073709551616 b) (vB 18446744073709551616 l) (bl2 (vB 18446744073709551616 b))) := by
    rw [pwR_top]
    rfl
  have eP : ∀ k, vB 18446744073709551616 (nB 18446744073709551616 4 (pwR (vB 18446744073709551616 a) (vB 18446744073709551616 b) (vB 18446744073709551616 l) k)) = pwR (vB 18446744073709551616 a) (vB 18446744073709551616 b) (vB 18446744073709551616 l) k := fun k => v4 (mod_lt' hl _).2
  have lP : ∀ k, pwR (vB 18446744073709551616 a) (vB 18446744073709551616 b) (vB 18446744073709551616 l) k < 2 ^ 256 := fun k => (mod_lt' hl _).2
  have e8 : ∀ k, vB 18446744073709551616 (nB 18446744073709551616 8 (pwR (vB 18446744073709551616 a) (vB 18446744073709551616 b) (vB 18446744073709551616 l) k * pwR (vB 18446744073709551616 a) (vB 18446744073709551616 b) (vB 18446744073709551616 l) k)) = pwR (vB 18446744073709551616 a) (vB 18446744073709551616 b) (vB 18446744073709551616 l) k * pwR (vB 18446744073709551616 a) (vB 18446744073709551616 b) (vB 18446744073709551616 l) k := fun k => v8 (mul512 (lP k) (lP k))
  have eA := v4 (inM_lt hl (wv a))
  have lR : ∀ T, redc T (vB 18446744073709551616 l) < 2 ^ 256 := fun T => (mod_lt' hl _).2
  have eR : ∀ T, vB 18446744073709551616 (nB 18446744073709551616 4 (redc T (vB 18446744073709551616 l))) = redc T (vB 18446744073709551616 l) := fun T => v4 (lR T)
  have e9 : ∀ T, vB 18446744073709551616 (nB 18446744073709551616 8 (redc T (vB 18446744073709551616 l) * inM (vB 18446744073709551616 a) (vB 18446744073709551616 l))) = redc T (vB 18446744073709551616 l) * inM (vB 18446744073709551616 a) (vB 18446744073709551616 l) := fun T => v8 (mul512 (lR T) (inM_lt hl _))
  unfold wv at eA hbl
  simp (decide := true) only [w1, w2, eP, e8, eA, eR, e9, eq_self, true_and, and_true, ne_eq, not_false_eq_true, Int.toNat_natCast]
  refine ⟨⟨l, a, rfl, hl, ha⟩, ⟨b, rfl, hb⟩, ?_, ?_⟩
  · rw [eT]
    and_intros <;> first | rfl | trivial | exact Nat.le_refl _
  intro x hx
  split
  · rename_i h
    have h := of_decide_eq_true h
    obtain ⟨k, rfl⟩ : ∃ k, x = k + 1 := ⟨x - 1, by omega⟩
    have e1 : ((k + 1 : Nat) : Int) - 1 = (k : Int) := by omega
    have e2 : IntKind.i64.wrap ((k : Int) - 1) = (k : Int) - 1 := wi (by omega) (by omega)
    have e3 : ((k : Int) - 1 + 1).toNat = k := by omega
    have e4 : bitN (vB 18446744073709551616 b) (k : Int) = vB 18446744073709551616 b / 2 ^ k % 2 := by
      unfold bitN
      rw [if_pos (by omega), Int.toNat_natCast]
    simp only [e1, e2, e3, e4]
    refine ⟨⟨_, _, rfl, nB_isN _, nB_isN _⟩, ⟨l, _, rfl, hl, nB_is8 _⟩, ⟨b, (k : Int), rfl, hb, by unfold i64ok; omega⟩, ?_⟩
    split
    · rename_i h2
      have h2 : vB 18446744073709551616 b / 2 ^ k % 2 = 1 := by have := eq_of_beq h2; omega
      have eS := pwR_one (A := vB 18446744073709551616 a) (N := vB 18446744073709551616 b) h1 hM ho h2
      unfold wv at eS
      simp only [eS]
      refine ⟨⟨_, _, rfl, nB_isN _, nB_isN _⟩, ⟨l, _, rfl, hl, nB_is8 _⟩, ?_⟩
      and_intros <;> first | rfl | trivial | omega
    · rename_i h2
      have h2 : vB 18446744073709551616 b / 2 ^ k % 2 = 0 := by
        have h3 : vB 18446744073709551616 b / 2 ^ k % 2 ≠ 1 := fun e => by rw [e] at h2; exact absurd h2 (by decide)
        omega
      have eS := pwR_sq (A := vB 18446744073709551616 a) (N := vB 18446744073709551616 b) h1 hM ho h2
      unfold wv at eS
      simp only [eS]
      and_intros <;> first | rfl | trivial | omega
  · rename_i h
    have h := of_decide_eq_false h
    obtain rfl : x = 0 := by omega
    have eE := pwR_end (A := vB 18446744073709551616 a) (N := vB 18446744073709551616 b) h1 hM ho
    have eZ := vB_zpad (nB 18446744073709551616 4 (pwR (vB 18446744073709551616 a) (vB 18446744073709551616 b) (vB 18446744073709551616 l) 0))
    unfold wv at eE eZ
    rw [eP] at eZ
    simp only [eZ, eE]
    refine ⟨⟨_, _, rfl, nB_length _ _ _, rfl⟩, ⟨l, _, rfl, hl, pad_is8 (nB_isN _)⟩, trivial⟩

theorem lens {x : Nat} (h : x < 65536 ^ 64) : okd (dg x) ∧ len1 (dg x) ∧ lenS (dg x) ∧ lenOk (dg x) := by
  have := dg_len 64 x h
  exact ⟨dg_ok x, by unfold len1; omega, by unfold lenS; omega, by unfold lenOk; omega⟩
theorem lens2 {x : Nat} (h : x < 2 ^ 512) : okd (dg x) ∧ len1 (dg x) ∧ lenS (dg x) ∧ lenOk (dg x) := lens (Nat.lt_trans h (by decide))
theorem lens1 {x : Nat} (h : x < 2 ^ 256) : okd (dg x) ∧ len1 (dg x) ∧ lenS (dg x) ∧ lenOk (dg x) := lens (Nat.lt_trans h (by decide))
theorem pwO_zero (A N M : Nat) : pwO A N M 0 = 1 % M := by
  unfold pwO
  rw [Nat.pow_zero, Nat.mod_one, Nat.pow_zero]
theorem pwA_zero (A M : Nat) : pwA A M 0 = A % M := by
  unfold pwA
  rw [Nat.pow_zero, Nat.pow_one]
theorem pwA_step (A M i : Nat) : pwA A M i * pwA A M i % M = pwA A M (i + 1) := by
  unfold pwA
  rw [← Nat.mul_mod, ← Nat.pow_add, Nat.pow_succ, Nat.mul_two]
theorem pwO_one {A N M i : Nat} (h : N / 2 ^ i % 2 = 1) : pwO A N M i * pwA A M i % M = pwO A N M (i + 1) := by
  unfold pwO pwA
  rw [← Nat.mul_mod, ← Nat.pow_add, Nat.mod_pow_succ, h, Nat.mul_one]
theorem pwO_nil {A N M i : Nat} (h : N / 2 ^ i % 2 = 0) : pwO A N M i = pwO A N M (i + 1) := by
  unfold pwO
  rw [Nat.mod_pow_succ, h, Nat.mul_zero, Nat.add_zero]

set_option maxRecDepth 100000 in
theorem m35 : Meets Try.prog 35 sp35 := by
  refine meets_of_owed (C := c35) ⟨tab_ok, lkS_ok ⟨m25, m84, m32, trivial⟩⟩ (by kernel_rfl) (by kernel_rfl : Try.prog.funcs[35]? = some Try.f35) (by kernel_rfl) (by kernel_rfl) (by kernel_rfl) _ ?_
  rintro _ ⟨a, n, m, rfl, ha, hn, hm, hm0⟩
  refine ⟨fun h => (by cases h), inv35 a n m, ?_⟩
  show owed c35 (inv35 a n m) Try.f35 [dgs (dg a), dgs (dg n), dgs (dg m)] (dgs (dg (powN (vD (dg a)) (vD (dg n)) (vD (dg m)))))
  rw [vc35]
  have hL : (dg n).length ≤ 16 := dg_len 16 n (Nat.lt_of_lt_of_le hn (by decide))
  have w1 : IntKind.i64.wrap (16 * (((dg n).length : Nat) : Int)) = ((16 * (dg n).length : Nat) : Int) := by rw [wi (by omega) (by omega)]; omega
  have o1 : vB 65536 [(1 : Int)] = 1 := by decide
  have lO : ∀ i, pwO a n m i < 2 ^ 256 := fun i => Nat.lt_trans (Nat.mod_lt _ hm0) hm
  have lA : ∀ i, pwA a m i < 2 ^ 256 := fun i => Nat.lt_trans (Nat.mod_lt _ hm0) hm
  have hmd := lens1 hm
  have had := lens1 ha
  have hnd := lens1 hn
  have hz : ¬ m = 0 := by omega
  simp (decide := true) only [w1, o1, vl_dg, nB_length, eq_self, true_and, and_true, ne_eq, not_false_eq_true, Int.toNat_natCast, show Int.toNat 0 = 0 from rfl, pwO_zero, pwA_zero, pwA_step]
  refine ⟨⟨_, _, rfl, ⟨by unfold okd; decide, by unfold len1; decide⟩, ⟨hmd.1, hmd.2.1⟩, by rw [vl_dg]; exact hz⟩, ⟨_, _, rfl, ⟨had.1, had.2.1⟩, ⟨hmd.1, hmd.2.1⟩, by rw [vl_dg]; exact hz⟩, ⟨_, _, rfl, hnd.1, hnd.2.2.2, by omega, by omega⟩, ?_, ?_⟩
  · and_intros <;> first | rfl | trivial | omega
  intro x hx
  have bA := lens1 (lA x)
  have bO := lens1 (lO x)
  have bAA := lens2 (mul512 (lA x) (lA x))
  have bOA := lens2 (mul512 (lO x) (lA x))
  have p1 : ∃ l q : List Int, [D.ints IntKind.i64 (dg (pwA a m x)), D.ints IntKind.i64 (dg (pwA a m x))] = [D.ints IntKind.i64 l, D.ints IntKind.i64 q] ∧ (okd l ∧ lenS l) ∧ okd q ∧ lenS q := ⟨_, _, rfl, ⟨bA.1, bA.2.2.1⟩, bA.1, bA.2.2.1⟩
  have p2 : ∃ l q : List Int, [D.ints IntKind.i64 (dg (pwA a m x * pwA a m x)), D.ints IntKind.i64 (dg m)] = [D.ints IntKind.i64 l, D.ints IntKind.i64 q] ∧ (okd l ∧ len1 l) ∧ (okd q ∧ len1 q) ∧ ¬ vB 65536 q = 0 := ⟨_, _, rfl, ⟨bAA.1, bAA.2.1⟩, ⟨hmd.1, hmd.2.1⟩, by rw [vl_dg]; exact hz⟩
  have p3 : ∃ l q : List Int, [D.ints IntKind.i64 (dg (pwO a n m x)), D.ints IntKind.i64 (dg (pwA a m x))] = [D.ints IntKind.i64 l, D.ints IntKind.i64 q] ∧ (okd l ∧ lenS l) ∧ okd q ∧ lenS q := ⟨_, _, rfl, ⟨bO.1, bO.2.2.1⟩, bA.1, bA.2.2.1⟩
  have p4 : ∃ l q : List Int, [D.ints IntKind.i64 (dg (pwO a n m x * pwA a m x)), D.ints IntKind.i64 (dg m)] = [D.ints IntKind.i64 l, D.ints IntKind.i64 q] ∧ (okd l ∧ len1 l) ∧ (okd q ∧ len1 q) ∧ ¬ vB 65536 q = 0 := ⟨_, _, rfl, ⟨bOA.1, bOA.2.1⟩, ⟨hmd.1, hmd.2.1⟩, by rw [vl_dg]; exact hz⟩
  split
  · rename_i h
    have h := of_decide_eq_true h
    have hxl : x < 16 * (dg n).length := by omega
    have e1 : IntKind.i64.wrap ((x : Int) + 1) = ((x + 1 : Nat) : Int) := by rw [wi (by omega) (by omega)]; omega
    simp only [e1, Int.toNat_natCast]
    refine ⟨by omega, ?_⟩
    split
    · rename_i h2
      have h2 := eq_of_beq h2
      rw [nB_get _ _ _ _ hxl] at h2
      simp only [pwO_one (A := a) (M := m) (show n / 2 ^ x % 2 = 1 by omega)]
      and_intros <;> first | exact p1 | exact p2 | exact p3 | exact p4 | rfl | trivial | omega
    · rename_i h2
      have h3 : n / 2 ^ x % 2 ≠ 1 := fun e => by rw [nB_get _ _ _ _ hxl, e] at h2; exact absurd h2 (by decide)
      have e2 := pwO_nil (A := a) (M := m) (show n / 2 ^ x % 2 = 0 by omega)
      and_intros <;> first | exact p1 | exact p2 | exact p3 | exact p4 | rfl | trivial | omega | (rw [← e2])
  · rename_i h
    have h := of_decide_eq_false h
    obtain rfl : x = 16 * (dg n).length := by omega
    have hnl := vB_lt (b := 65536) (l := dg n) (dg_ok n)
    rw [vl_dg, show (65536 : Nat) = 2 ^ 16 by decide, ← Nat.pow_mul] at hnl
    unfold pwO powN
    rw [Nat.mod_eq_of_lt hnl]

set_option maxRecDepth 100000 in
theorem m39 : Meets Try.prog 39 sp39 := by
  refine meets_of_owed (C := c39) ⟨tab_ok, lkS_ok ⟨m57, trivial⟩⟩ (by kernel_rfl) (by kernel_rfl : Try.prog.funcs[39]? = some Try.f39) (by kernel_rfl) (by kernel_rfl) (by kernel_rfl) _ ?_
  rintro _ ⟨l, rfl, hw, hl⟩
  obtain ⟨a, b, c, d, e, f, g, i, rfl⟩ := eight hl
  refine ⟨fun h => (by cases h), fun _ => none, ?_⟩
  show owed c39 (fun _ => none) Try.f39 [num8 [a, b, c, d, e, f, g, i]] (dgs (dg (vB 18446744073709551616 [a, b, c, d, e, f, g, i])))
  rw [vc39]
  simp (decide := true) only [eq_self, true_and, and_true, ne_eq, not_false_eq_true, List.getD_cons_zero, List.getD_cons_succ]
  exact ⟨_, rfl, hw, by simp⟩

set_option maxRecDepth 100000 in
theorem m23 : Meets Try.prog 23 sp23 := by
  refine meets_of_owed (C := c23) ⟨tab_ok, lkS_ok ⟨m25, m24, trivial⟩⟩ (by kernel_rfl) (by kernel_rfl : Try.prog.funcs[23]? = some Try.f23) (by kernel_rfl) (by kernel_rfl) (by kernel_rfl) _ ?_
  rintro _ ⟨x, k, rfl, hx, hk, hk0, hk2⟩
  refine ⟨fun _ => rfl, fun _ => none, ?_⟩
  show owed c23 (fun _ => none) Try.f23 [dgs x, .ref (dgs k)] (num4 (nB 18446744073709551616 4 (vD x % vD k)))
  rw [vc23]
  have hr := lens1 (Nat.lt_trans (Nat.mod_lt (vD x) hk0) hk2)
  simp (decide := true) only [vl_dg, eq_self, true_and, and_true, ne_eq, not_false_eq_true]
  exact ⟨⟨_, _, rfl, hx, hk, by unfold vD at hk0; omega⟩, ⟨_, rfl, hr.1, hr.2.2.2⟩⟩

end Go.Proofs.Ytkicjckhkefnpaa
/- The ring of package ring: New meets. -/
namespace Go.Proofs.Ytkicjckhkefnpaa
open Go Go.Vg
set_option exponentiation.threshold 2000

theorem nw_start {m : Nat} (ho : m % 2 = 1) (hm : m < 18446744073709551616) : NwI m 0 m := by
  refine ⟨by decide, hm, ?_⟩
  have h : (m * m) % 8 = 1 := by
    rw [Nat.mul_mod]
    have : m % 8 = 1 ∨ m % 8 = 3 ∨ m % 8 = 5 ∨ m % 8 = 7 := by omega
    rcases this with h | h | h | h <;> rw [h]
  rw [show (2 : Int) ^ (min 64 (3 * 2 ^ 0)) = 8 by decide, ← Int.natCast_mul]
  omega
theorem nw_id (m x a b c D : Int) : m * (x * (2 - (m * x + D * a) + D * b) + D * c) - 1 = D * (m * (x * b - x * a + c)) - (m * x - 1) * (m * x - 1) := by grind
theorem pow_dvd {a b : Nat} (h : a ≤ b) : (2 : Int) ^ a ∣ 2 ^ b := ⟨2 ^ (b - a), by rw [← Int.pow_add, Nat.add_sub_cancel' h]⟩
theorem nw_step {m i x : Nat} (h : NwI m i x) (hi : i < 5) :
    ∃ y : Nat, IntKind.u64.wrap ((x : Int) * IntKind.u64.wrap (2 - IntKind.u64.wrap ((m : Int) * (x : Int)))) = (y : Int) ∧ NwI m (i + 1) y := by
  have hv := h.val
  rw [w64, w64, w64]
  generalize hy : (x : Int) * ((2 - (m : Int) * (x : Int) % 18446744073709551616) % 18446744073709551616) % 18446744073709551616 = z
  have h0 : 0 ≤ z ∧ z < 18446744073709551616 := by omega
  refine ⟨z.toNat, by omega, by omega, by omega, ?_⟩
  rw [Int.toNat_of_nonneg h0.1]
  have e1 := Int.emod_def ((m : Int) * (x : Int)) 18446744073709551616
  have e2 := Int.emod_def (2 - (m : Int) * (x : Int) % 18446744073709551616) 18446744073709551616
  have e3 := Int.emod_def ((x : Int) * ((2 - (m : Int) * (x : Int) % 18446744073709551616) % 18446744073709551616)) 18446744073709551616
  rw [hy] at e3
  have key : (m : Int) * z - 1 = 18446744073709551616 * ((m : Int) * ((x : Int) * -((2 - (m : Int) * (x : Int) % 18446744073709551616) / 18446744073709551616) - (x : Int) * -((m : Int) * (x : Int) / 18446744073709551616) + -((x : Int) * ((2 - (m : Int) * (x : Int) % 18446744073709551616) % 18446744073709551616) / 18446744073709551616))) - ((m : Int) * (x : Int) - 1) * ((m : Int) * (x : Int) - 1) := by
    rw [← nw_id, e3]
    generalize (x : Int) * ((2 - (m : Int) * (x : Int) % 18446744073709551616) % 18446744073709551616) / 18446744073709551616 = c
    rw [e2]
    generalize (2 - (m : Int) * (x : Int) % 18446744073709551616) / 18446744073709551616 = b
    rw [e1]
    generalize (m : Int) * (x : Int) / 18446744073709551616 = a
    grind
  rw [key]
  have hK : min 64 (3 * 2 ^ (i + 1)) ≤ 64 := Nat.min_le_left _ _
  have hK2 : min 64 (3 * 2 ^ (i + 1)) ≤ min 64 (3 * 2 ^ i) + min 64 (3 * 2 ^ i) := by
    rw [Nat.pow_succ]
    omega
  refine Int.dvd_sub ?_ ?_
  · exact Int.dvd_trans (show (2 : Int) ^ (min 64 (3 * 2 ^ (i + 1))) ∣ 18446744073709551616 from pow_dvd hK) (Int.dvd_mul_right _ _)
  · refine Int.dvd_trans (pow_dvd hK2) ?_
    rw [Int.pow_add]
    exact Int.mul_dvd_mul hv hv
theorem nw_end {m x : Nat} (h : NwI m 5 x) : m * x % 18446744073709551616 = 1 := by
  have hv := h.val
  rw [show (2 : Int) ^ (min 64 (3 * 2 ^ 5)) = 18446744073709551616 by decide, ← Int.natCast_mul] at hv
  omega
theorem m0_mod {l : List Int} (hl : isN l) : m0 l = wv l % 18446744073709551616 ∧ l.getD 0 0 = ((m0 l : Nat) : Int) ∧ m0 l < 18446744073709551616 := by
  obtain ⟨n, en, hn⟩ := okw_get hl.1 (i := 0) (by have := hl.2; omega)
  have := dig_of hl.1 (i := 0) (by have := hl.2; omega) en
  rw [Nat.pow_zero, Nat.div_one] at this
  unfold m0
  rw [en, Int.toNat_natCast]
  exact ⟨this.symm, rfl, hn⟩
theorem iand1 {n : Nat} (h : n < 18446744073709551616) : iand .u64 (n : Int) 1 = ((n % 2 : Nat) : Int) := by
  rw [show (1 : Int) = ((1 : Nat) : Int) from rfl, iandN .u64 h (by decide), Nat.and_one_is_mod]
theorem rgI_eq {M x : Nat} (ho : M % 2 = 1) (hx : x < 18446744073709551616) (h : M % 18446744073709551616 * x % 18446744073709551616 = 1) : IntKind.u64.wrap (0 - (x : Int)) = ((rgI M : Nat) : Int) := by
  unfold rgI
  rw [← invN_eq (A := M % B64) (M := B64) hx h, w64]
  show _ = (((18446744073709551616 - x) % 18446744073709551616 : Nat) : Int)
  omega
theorem one_is {l : List Int} (hl : isN l) (h : wv l = 1) : l = [1, 0, 0, 0] := by
  have := nB_vB (b := 18446744073709551616) hl.1
  rw [hl.2] at this
  unfold wv at h
  rw [← this, h]
  decide

set_option maxRecDepth 100000 in
theorem m21 : MeetsQ Try.prog 21 sp21 := by
  refine meetsNew_of_owed (C := c21) ⟨tab_ok, lkS_ok ⟨m69, m70, trivial⟩⟩ (by kernel_rfl) (by kernel_rfl : Try.prog.funcs[21]? = some Try.f21) (by kernel_rfl) (by kernel_rfl) (by kernel_rfl) _ ⟨by kernel_rfl, by kernel_rfl⟩ ?_
  rintro _ ⟨l, rfl, hl⟩
  refine ⟨inv21 l, ?_⟩
  show owedNew c21 (inv21 l) Try.f21 [num4 l] (.tup [ringD l, i64 0])
  rw [vc21]
  obtain ⟨hM, h1⟩ := rg_lt hl
  obtain ⟨q1, q2, q3⟩ := m0_mod hl.1
  have ho : m0 l % 2 = 1 := by have := hl.2.1; omega
  rw [q2, iand1 q3, ho]
  have hne : eqB l [1, 0, 0, 0] = false := by
    rw [eqB_eq]
    refine decide_eq_false fun e => ?_
    rw [e] at h1
    exact absurd h1 (by decide)
  have hR : vB 18446744073709551616 [(0 : Int), 0, 0, 0, 1, 0, 0, 0] = 2 ^ 256 := by decide
  have hD : ∀ T, dvr T (vB 18446744073709551616 l) = T % wv l := fun T => if_neg (by unfold wv at h1; omega)
  have e4 : vB 18446744073709551616 (nB 18446744073709551616 4 (2 ^ 256 % wv l)) = 2 ^ 256 % wv l := v4 (mod_lt' hl _).2
  have e8 : vB 18446744073709551616 (nB 18446744073709551616 8 (2 ^ 256 % wv l * (2 ^ 256 % wv l))) = 2 ^ 256 % wv l * (2 ^ 256 % wv l) := v8 (mul512 (mod_lt' hl _).2 (mod_lt' hl _).2)
  have eS : 2 ^ 256 % wv l * (2 ^ 256 % wv l) % wv l = 2 ^ 512 % wv l := by
    rw [← Nat.mul_mod, ← Nat.pow_add]
  simp (decide := true) only [hne, hR, hD, e4, e8, eS, eq_self, true_and, and_true, ne_eq, not_false_eq_true, Int.toNat_natCast]
  refine ⟨⟨rfl, nw_start ho q3⟩, ?_⟩
  rintro ⟨i, x⟩ hN
  simp only at hN ⊢
  have hi := hN.le
  split
  · rename_i h
    have h := of_decide_eq_true h
    obtain ⟨y, ey, hy⟩ := nw_step hN (by omega)
    have e1 : IntKind.i64.wrap ((i : Int) + 1) = ((i + 1 : Nat) : Int) := by rw [wi (by omega) (by omega)]; omega
    simp only [e1, ey, Int.toNat_natCast]
    and_intros <;> first | exact hy | rfl | trivial | omega
  · rename_i h
    have h := of_decide_eq_false h
    obtain rfl : i = 5 := by omega
    have he := nw_end hN
    rw [q1] at he
    have eI := rgI_eq (by have := hl.2.1; omega) hN.lt he
    refine ⟨⟨_, l, rfl, ⟨by unfold okw; decide, rfl⟩, hl.1⟩, ⟨_, _, rfl, nB_isN _, nB_isN _⟩, ⟨_, l, rfl, nB_is8 _, hl.1⟩, ?_⟩
    rw [eI]
    rfl

set_option maxRecDepth 100000 in
theorem m21b : Meets Try.prog 21 sp21b := by
  refine meets_of_owed (C := c21) ⟨tab_ok, lkS_ok ⟨m69, m70, trivial⟩⟩ (by kernel_rfl) (by kernel_rfl : Try.prog.funcs[21]? = some Try.f21) (by kernel_rfl) (by kernel_rfl) (by kernel_rfl) _ ?_
  rintro _ ⟨l, rfl, hl, hno⟩
  refine ⟨fun _ => rfl, inv21 l, ?_⟩
  show owed c21 (inv21 l) Try.f21 [num4 l] (.tup [.val (.pointer none), i64 1])
  rw [vc21b]
  obtain ⟨q1, q2, q3⟩ := m0_mod hl
  rw [q2, iand1 q3]
  rcases hno with he | h1
  · have ho : m0 l % 2 = 0 := by omega
    rw [ho]
    simp (decide := true) only [show (((0 : Nat) : Int) == 0) = true from rfl, eq_self, true_and, and_true, ne_eq, not_false_eq_true]
  · obtain rfl := one_is hl h1
    rw [show m0 [1, 0, 0, 0] % 2 = 1 by decide, show eqB [1, 0, 0, 0] [1, 0, 0, 0] = true by rw [eqB_eq]; decide]
    simp (decide := true) only [show (((1 : Nat) : Int) == 0) = false from rfl, eq_self, true_and, and_true, ne_eq, not_false_eq_true]

end Go.Proofs.Ytkicjckhkefnpaa
/- RingTells: what the law owes. -/
namespace Go.Proofs.Ytkicjckhkefnpaa
open Go Go.Vg

noncomputable def c5 : Ctx := ⟨tab, lkS [(21, sp21), (22, sp22), (23, sp23), (26, sp26), (27, sp27), (28, sp28), (29, sp29), (25, sp25), (30, sp30), (31, sp31), (32, sp32), (33, sp33), (34, sp34), (35, sp35), (24, sp24), (36, sp36), (37, sp37), (38, sp38), (39, sp39)], [], [50]⟩
def c5b : Ctx := ⟨tab, lkS [(21, sp21b)], [], []⟩
--KEEP Nat.gcd Go.Vg.eqB Go.Vg.vB Go.Vg.nB Go.Vg.okd Go.Vg.okw Go.Vg.dg Go.Vg.dig Go.Vg.trimL lenOk lenS len1 sbd sbb dif bor cmpN shf i64ok subL dvq dvr dve sbD adl adc mulL mulH stL stH smN smC addL addK TimI TimJ isN invN ivX ivE bl2 bitN rgO rgS rgI rgOk is8 redc OutI OutJ OutK powN pwO pwA pwR sbM adM mlM n256 rgNo m0 NwI inM dgP
set_option maxRecDepth 100000 in
theorem vc5  (l a b n t : List Int) (F : D)  :
    (owed c5 (fun _ => none) Try.f5 [num4 l, num4 a, num4 b, num4 n, num8 t] F) = (
 (True ∧ false = false) ∧
   (True ∧ false = false) ∧
    (True ∧ false = false) ∧
     (True ∧ false = false) ∧
      (True ∧ false = false) ∧
       True ∧
        ((4 : Nat) ≠ (0 : Nat) ∧ (4 : Nat) = (4 : Nat) ∧ true = true) ∧
         ((∃ (l_1 : List Int), [D.arr IntKind.u64 (4 : Nat) l] = [D.arr IntKind.u64 (4 : Nat) l_1] ∧ rgOk l_1) ∧ True) ∧
          True ∧
           True ∧
            ((0 : Nat) < (1 : Nat) ∧ false = false) ∧
             True ∧
              True ∧
               ((0 : Int) ≤ (0 : Int) ∧ (0 : Int) < (↑(4 : Nat) : Int) ∧ (4 : Nat) = (4 : Nat) ∧ (1 : Nat) = (1 : Nat)) ∧
                ((1 : Nat) ≠ (0 : Nat) ∧ (1 : Nat) = (1 : Nat) ∧ false = false) ∧
                 (2 : Int) ≠ (0 : Int) ∧
                  True ∧
                   True ∧
                    match (l.getD (0 : Nat) (0 : Int)).tmod (2 : Int) == (0 : Int) with
                    | true => True ∧ True ∧ True ∧ True ∧ True ∧ True ∧ (false = false ∧ True) ∧ D.val (Value.bool false) = F
                    | false =>
                     ((4 : Nat) ≠ (0 : Nat) ∧ (4 : Nat) = (4 : Nat) ∧ true = true) ∧
                      ((1 : Nat) = (1 : Nat) ∧ false = false ∧ ((0 : Nat) < (4 : Nat) ∧ ([] : List Nat) = [] ∧ true = true) ∧ True) ∧
                       (IntKind.u64 = IntKind.u64 ∧ IntKind.u64 = IntKind.u64 ∧ (4 : Nat) = (4 : Nat) ∧ (4 : Nat) = (4 : Nat) ∧ (1 : Nat) = (1 : Nat)) ∧
                        True ∧
                         match eqB l [(1 : Int), (0 : Int), (0 : Int), (0 : Int)] with
                         | true => True ∧ True ∧ True ∧ True ∧ True ∧ (false = false ∧ True) ∧ D.val (Value.bool false) = F
                         | false =>
                          True ∧
                           True ∧
                            True ∧
                             True ∧
                              True ∧
                               True ∧
                                ((4 : Nat) ≠ (0 : Nat) ∧ (4 : Nat) = (4 : Nat) ∧ true = true) ∧
                                 (∃ (l_1 : List Int), [D.arr IntKind.u64 (4 : Nat) l] = [D.arr IntKind.u64 (4 : Nat) l_1] ∧ okw l_1 ∧ l_1.length = (4 : Nat)) ∧
                                  ((4 : Nat) ≠ (0 : Nat) ∧ (4 : Nat) = (4 : Nat) ∧ true = true) ∧
                                   (∃ (l : List Int), [D.arr IntKind.u64 (4 : Nat) a] = [D.arr IntKind.u64 (4 : Nat) l] ∧ okw l ∧ l.length = (4 : Nat)) ∧
                                    ((4 : Nat) ≠ (0 : Nat) ∧ (4 : Nat) = (4 : Nat) ∧ true = true) ∧
                                     (∃ (l : List Int), [D.arr IntKind.u64 (4 : Nat) b] = [D.arr IntKind.u64 (4 : Nat) l] ∧ okw l ∧ l.length = (4 : Nat)) ∧
                                      (True ∧ (1 : Nat) ≠ (0 : Nat)) ∧
                                       (Sk.one = Sk.one ∧ (1 : Nat) ≠ (0 : Nat) ∧ (1 : Nat) = (1 : Nat) ∧ false = false) ∧
                                        True ∧
                                         True ∧
                                          True ∧
                                           True ∧
                                            True ∧
                                             (∃ (l_1 : List Int),
                                               [(D.st [D.arr IntKind.u64 (4 : Nat) l, D.arr IntKind.u64 (4 : Nat) (rgO (vB (18446744073709551616 : Nat) l)), D.arr IntKind.u64 (4 : Nat) (rgS (vB (18446744073709551616 : Nat) l)), D.val (Value.int IntKind.u64 (↑(rgI (vB (18446744073709551616 : Nat) l)) : Int))]).ref] =
                                                 [(D.st [D.arr IntKind.u64 (4 : Nat) l_1, D.arr IntKind.u64 (4 : Nat) (rgO (vB (18446744073709551616 : Nat) l_1)), D.arr IntKind.u64 (4 : Nat) (rgS (vB (18446744073709551616 : Nat) l_1)), D.val (Value.int IntKind.u64 (↑(rgI (vB (18446744073709551616 : Nat) l_1)) : Int))]).ref] ∧
                                                rgOk l_1) ∧
                                              ((4 : Nat) ≠ (0 : Nat) ∧ (4 : Nat) = (4 : Nat) ∧ true = true) ∧
                                               (IntKind.u64 = IntKind.u64 ∧ IntKind.u64 = IntKind.u64 ∧ (4 : Nat) = (4 : Nat) ∧ (4 : Nat) = (4 : Nat) ∧ (1 : Nat) = (1 : Nat)) ∧
                                                True ∧
                                                 match !eqB l l with
                                                 | true => True ∧ True ∧ True ∧ True ∧ True ∧ True ∧ (false = false ∧ True) ∧ D.val (Value.bool false) = F
                                                 | false =>
                                                  True ∧
                                                   ((4 : Nat) ≠ (0 : Nat) ∧ (4 : Nat) = (4 : Nat) ∧ true = true) ∧
                                                    ((4 : Nat) ≠ (0 : Nat) ∧ (4 : Nat) = (4 : Nat) ∧ true = true) ∧
                                                     (∃ (l_1 : List Int),
                                                       ∃ (a_1 : List Int),
                                                        ∃ (b_1 : List Int),
                                                         [(D.st [D.arr IntKind.u64 (4 : Nat) l, D.arr IntKind.u64 (4 : Nat) (rgO (vB (18446744073709551616 : Nat) l)), D.arr IntKind.u64 (4 : Nat) (rgS (vB (18446744073709551616 : Nat) l)), D.val (Value.int IntKind.u64 (↑(rgI (vB (18446744073709551616 : Nat) l)) : Int))]).ref,
                                                            D.arr IntKind.u64 (4 : Nat) a, D.arr IntKind.u64 (4 : Nat) b] =
                                                           [(D.st [D.arr IntKind.u64 (4 : Nat) l_1, D.arr IntKind.u64 (4 : Nat) (rgO (vB (18446744073709551616 : Nat) l_1)), D.arr IntKind.u64 (4 : Nat) (rgS (vB (18446744073709551616 : Nat) l_1)), D.val (Value.int IntKind.u64 (↑(rgI (vB (18446744073709551616 : Nat) l_1)) : Int))]).ref,
                                                            D.arr IntKind.u64 (4 : Nat) a_1, D.arr IntKind.u64 (4 : Nat) b_1] ∧
                                                          rgOk l_1 ∧ isN a_1 ∧ isN b_1) ∧
                                                      True ∧
                                                       True ∧
                                                        True ∧
                                                         (∃ (l : List Int), ∃ (m : List Int), [D.ints IntKind.i64 (dg (vB (18446744073709551616 : Nat) a)), D.ints IntKind.i64 (dg (vB (18446744073709551616 : Nat) b))] = [D.ints IntKind.i64 l, D.ints IntKind.i64 m] ∧ (okd l ∧ lenS l) ∧ okd m ∧ lenS m) ∧
                                                          (∃ (x : List Int),
                                                            ∃ (k : List Int),
                                                             [D.ints IntKind.i64 (dg (vB (65536 : Nat) (dg (vB (18446744073709551616 : Nat) a)) + vB (65536 : Nat) (dg (vB (18446744073709551616 : Nat) b)))), (D.ints IntKind.i64 (dg (vB (18446744073709551616 : Nat) l))).ref] = [D.ints IntKind.i64 x, (D.ints IntKind.i64 k).ref] ∧
                                                              (okd x ∧ len1 x) ∧ (okd k ∧ len1 k) ∧ (0 : Nat) < vB (65536 : Nat) k ∧ n256 (vB (65536 : Nat) k)) ∧
                                                           (IntKind.u64 = IntKind.u64 ∧ IntKind.u64 = IntKind.u64 ∧ (4 : Nat) = (4 : Nat) ∧ (4 : Nat) = (4 : Nat) ∧ (1 : Nat) = (1 : Nat)) ∧
                                                            True ∧
                                                             True ∧
                                                              match
                                                               !eqB (nB (18446744073709551616 : Nat) (4 : Nat) (adM (vB (18446744073709551616 : Nat) a) (vB (18446744073709551616 : Nat) b) (vB (18446744073709551616 : Nat) l)))
                                                                 (nB (18446744073709551616 : Nat) (4 : Nat) (vB (65536 : Nat) (dg (vB (65536 : Nat) (dg (vB (18446744073709551616 : Nat) a)) + vB (65536 : Nat) (dg (vB (18446744073709551616 : Nat) b)))) % vB (65536 : Nat) (dg (vB (18446744073709551616 : Nat) l)))) with
                                                              | true => True ∧ True ∧ True ∧ True ∧ (false = false ∧ True) ∧ D.val (Value.bool false) = F
                                                              | false =>
                                                               True ∧
                                                                ((4 : Nat) ≠ (0 : Nat) ∧ (4 : Nat) = (4 : Nat) ∧ true = true) ∧
                                                                 ((4 : Nat) ≠ (0 : Nat) ∧ (4 : Nat) = (4 : Nat) ∧ true = true) ∧
                                                                  (∃ (l_1 : List Int),
                                                                    ∃ (a_1 : List Int),
                                                                     ∃ (b_1 : List Int),
                                                                      [(D.st
                                                                           [D.arr IntKind.u64 (4 : Nat) l, D.arr IntKind.u64 (4 : Nat) (rgO (vB (18446744073709551616 : Nat) l)), D.arr IntKind.u64 (4 : Nat) (rgS (vB (18446744073709551616 : Nat) l)),
                                                                            D.val (Value.int IntKind.u64 (↑(rgI (vB (18446744073709551616 : Nat) l)) : Int))]).ref,
                                                                         D.arr IntKind.u64 (4 : Nat) a, D.arr IntKind.u64 (4 : Nat) b] =
                                                                        [(D.st
                                                                           [D.arr IntKind.u64 (4 : Nat) l_1, D.arr IntKind.u64 (4 : Nat) (rgO (vB (18446744073709551616 : Nat) l_1)), D.arr IntKind.u64 (4 : Nat) (rgS (vB (18446744073709551616 : Nat) l_1)),
                                                                            D.val (Value.int IntKind.u64 (↑(rgI (vB (18446744073709551616 : Nat) l_1)) : Int))]).ref,
                                                                         D.arr IntKind.u64 (4 : Nat) a_1, D.arr IntKind.u64 (4 : Nat) b_1] ∧
                                                                       rgOk l_1 ∧ isN a_1 ∧ isN b_1) ∧
                                                                   True ∧
                                                                    True ∧
                                                                     ((1 : Nat) ≠ (0 : Nat) ∧ (1 : Nat) = (1 : Nat) ∧ false = false) ∧
                                                                      True ∧
                                                                       ((1 : Nat) ≠ (0 : Nat) ∧ (1 : Nat) = (1 : Nat) ∧ false = false) ∧
                                                                        (∃ (l_1 : List Int),
                                                                          ∃ (m : List Int),
                                                                           [D.ints IntKind.i64 (dg (vB (18446744073709551616 : Nat) b)), D.ints IntKind.i64 (dg (vB (18446744073709551616 : Nat) l))] = [D.ints IntKind.i64 l_1, D.ints IntKind.i64 m] ∧ (okd l_1 ∧ len1 l_1) ∧ (okd m ∧ len1 m) ∧ vB (65536 : Nat) m ≠ (0 : Nat)) ∧
                                                                         (∃ (l_1 : List Int),
                                                                           ∃ (m : List Int),
                                                                            [D.ints IntKind.i64 (dg (vB (18446744073709551616 : Nat) l)), D.ints IntKind.i64 (dg (vB (65536 : Nat) (dg (vB (18446744073709551616 : Nat) b)) % vB (65536 : Nat) (dg (vB (18446744073709551616 : Nat) l))))] =
                                                                              [D.ints IntKind.i64 l_1, D.ints IntKind.i64 m] ∧
                                                                             (okd l_1 ∧ lenS l_1) ∧ (okd m ∧ lenS m) ∧ vB (65536 : Nat) m ≤ vB (65536 : Nat) l_1) ∧
                                                                          (∃ (l_1 : List Int),
                                                                            ∃ (m : List Int),
                                                                             [D.ints IntKind.i64 (dg (vB (18446744073709551616 : Nat) a)),
                                                                                D.ints IntKind.i64 (dg (vB (65536 : Nat) (dg (vB (18446744073709551616 : Nat) l)) - vB (65536 : Nat) (dg (vB (65536 : Nat) (dg (vB (18446744073709551616 : Nat) b)) % vB (65536 : Nat) (dg (vB (18446744073709551616 : Nat) l))))))] =
                                                                               [D.ints IntKind.i64 l_1, D.ints IntKind.i64 m] ∧
                                                                              (okd l_1 ∧ lenS l_1) ∧ okd m ∧ lenS m) ∧
                                                                           (∃ (x : List Int),
                                                                             ∃ (k : List Int),
                                                                              [D.ints IntKind.i64
                                                                                  (dg
                                                                                   (vB (65536 : Nat) (dg (vB (18446744073709551616 : Nat) a)) +
                                                                                    vB (65536 : Nat) (dg (vB (65536 : Nat) (dg (vB (18446744073709551616 : Nat) l)) - vB (65536 : Nat) (dg (vB (65536 : Nat) (dg (vB (18446744073709551616 : Nat) b)) % vB (65536 : Nat) (dg (vB (18446744073709551616 : Nat) l)))))))),
                                                                                 (D.ints IntKind.i64 (dg (vB (18446744073709551616 : Nat) l))).ref] =
                                                                                [D.ints IntKind.i64 x, (D.ints IntKind.i64 k).ref] ∧
                                                                               (okd x ∧ len1 x) ∧ (okd k ∧ len1 k) ∧ (0 : Nat) < vB (65536 : Nat) k ∧ n256 (vB (65536 : Nat) k)) ∧
                                                                            (IntKind.u64 = IntKind.u64 ∧ IntKind.u64 = IntKind.u64 ∧ (4 : Nat) = (4 : Nat) ∧ (4 : Nat) = (4 : Nat) ∧ (1 : Nat) = (1 : Nat)) ∧
                                                                             True ∧
                                                                              True ∧
                                                                               match
                                                                                !eqB (nB (18446744073709551616 : Nat) (4 : Nat) (sbM (vB (18446744073709551616 : Nat) a) (vB (18446744073709551616 : Nat) b) (vB (18446744073709551616 : Nat) l)))
                                                                                  (nB (18446744073709551616 : Nat) (4 : Nat)
                                                                                   (vB (65536 : Nat)
                                                                                     (dg
                                                                                      (vB (65536 : Nat) (dg (vB (18446744073709551616 : Nat) a)) +
                                                                                       vB (65536 : Nat)
                                                                                        (dg (vB (65536 : Nat) (dg (vB (18446744073709551616 : Nat) l)) - vB (65536 : Nat) (dg (vB (65536 : Nat) (dg (vB (18446744073709551616 : Nat) b)) % vB (65536 : Nat) (dg (vB (18446744073709551616 : Nat) l)))))))) %
                                                                                    vB (65536 : Nat) (dg (vB (18446744073709551616 : Nat) l)))) with
                                                                               | true => True ∧ True ∧ (false = false ∧ True) ∧ D.val (Value.bool false) = F
                                                                               | false =>
                                                                                True ∧
                                                                                 ((4 : Nat) ≠ (0 : Nat) ∧ (4 : Nat) = (4 : Nat) ∧ true = true) ∧
                                                                                  ((4 : Nat) ≠ (0 : Nat) ∧ (4 : Nat) = (4 : Nat) ∧ true = true) ∧
                                                                                   (∃ (l_1 : List Int),
                                                                                     ∃ (a_1 : List Int),
                                                                                      ∃ (b_1 : List Int),
                                                                                       [(D.st
                                                                                            [D.arr IntKind.u64 (4 : Nat) l, D.arr IntKind.u64 (4 : Nat) (rgO (vB (18446744073709551616 : Nat) l)), D.arr IntKind.u64 (4 : Nat) (rgS (vB (18446744073709551616 : Nat) l)),
                                                                                             D.val (Value.int IntKind.u64 (↑(rgI (vB (18446744073709551616 : Nat) l)) : Int))]).ref,
                                                                                          D.arr IntKind.u64 (4 : Nat) a, D.arr IntKind.u64 (4 : Nat) b] =
                                                                                         [(D.st
                                                                                            [D.arr IntKind.u64 (4 : Nat) l_1, D.arr IntKind.u64 (4 : Nat) (rgO (vB (18446744073709551616 : Nat) l_1)), D.arr IntKind.u64 (4 : Nat) (rgS (vB (18446744073709551616 : Nat) l_1)),
                                                                                             D.val (Value.int IntKind.u64 (↑(rgI (vB (18446744073709551616 : Nat) l_1)) : Int))]).ref,
                                                                                          D.arr IntKind.u64 (4 : Nat) a_1, D.arr IntKind.u64 (4 : Nat) b_1] ∧
                                                                                        rgOk l_1 ∧ isN a_1 ∧ isN b_1) ∧
                                                                                    True ∧
                                                                                     True ∧
                                                                                      True ∧
                                                                                       (∃ (l : List Int),
                                                                                         ∃ (m : List Int),
                                                                                          [D.ints IntKind.i64 (dg (vB (18446744073709551616 : Nat) a)), D.ints IntKind.i64 (dg (vB (18446744073709551616 : Nat) b))] = [D.ints IntKind.i64 l, D.ints IntKind.i64 m] ∧ (okd l ∧ lenS l) ∧ okd m ∧ lenS m) ∧
                                                                                        (∃ (x : List Int),
                                                                                          ∃ (k : List Int),
                                                                                           [D.ints IntKind.i64 (dg (vB (65536 : Nat) (dg (vB (18446744073709551616 : Nat) a)) * vB (65536 : Nat) (dg (vB (18446744073709551616 : Nat) b)))), (D.ints IntKind.i64 (dg (vB (18446744073709551616 : Nat) l))).ref] =
                                                                                             [D.ints IntKind.i64 x, (D.ints IntKind.i64 k).ref] ∧
                                                                                            (okd x ∧ len1 x) ∧ (okd k ∧ len1 k) ∧ (0 : Nat) < vB (65536 : Nat) k ∧ n256 (vB (65536 : Nat) k)) ∧
                                                                                         (IntKind.u64 = IntKind.u64 ∧ IntKind.u64 = IntKind.u64 ∧ (4 : Nat) = (4 : Nat) ∧ (4 : Nat) = (4 : Nat) ∧ (1 : Nat) = (1 : Nat)) ∧
                                                                                          True ∧
                                                                                           match
                                                                                            !eqB (nB (18446744073709551616 : Nat) (4 : Nat) (mlM (vB (18446744073709551616 : Nat) a) (vB (18446744073709551616 : Nat) b) (vB (18446744073709551616 : Nat) l)))
                                                                                              (nB (18446744073709551616 : Nat) (4 : Nat)
                                                                                               (vB (65536 : Nat) (dg (vB (65536 : Nat) (dg (vB (18446744073709551616 : Nat) a)) * vB (65536 : Nat) (dg (vB (18446744073709551616 : Nat) b)))) % vB (65536 : Nat) (dg (vB (18446744073709551616 : Nat) l)))) with
                                                                                           | true => True ∧ (false = false ∧ True) ∧ D.val (Value.bool false) = F
                                                                                           | false =>
                                                                                            True ∧
                                                                                             ((8 : Nat) ≠ (0 : Nat) ∧ (8 : Nat) = (8 : Nat) ∧ true = true) ∧
                                                                                              (∃ (l_1 : List Int),
                                                                                                ∃ (t_1 : List Int),
                                                                                                 [(D.st
                                                                                                      [D.arr IntKind.u64 (4 : Nat) l, D.arr IntKind.u64 (4 : Nat) (rgO (vB (18446744073709551616 : Nat) l)), D.arr IntKind.u64 (4 : Nat) (rgS (vB (18446744073709551616 : Nat) l)),
                                                                                                       D.val (Value.int IntKind.u64 (↑(rgI (vB (18446744073709551616 : Nat) l)) : Int))]).ref,
                                                                                                    D.arr IntKind.u64 (8 : Nat) t] =
                                                                                                   [(D.st
                                                                                                      [D.arr IntKind.u64 (4 : Nat) l_1, D.arr IntKind.u64 (4 : Nat) (rgO (vB (18446744073709551616 : Nat) l_1)), D.arr IntKind.u64 (4 : Nat) (rgS (vB (18446744073709551616 : Nat) l_1)),
                                                                                                       D.val (Value.int IntKind.u64 (↑(rgI (vB (18446744073709551616 : Nat) l_1)) : Int))]).ref,
                                                                                                    D.arr IntKind.u64 (8 : Nat) t_1] ∧
                                                                                                  rgOk l_1 ∧ is8 t_1) ∧
                                                                                               (True ∧ (4 : Nat) ≠ (0 : Nat)) ∧
                                                                                                (Sk.arr (4 : Nat) = Sk.arr (4 : Nat) ∧ (4 : Nat) ≠ (0 : Nat) ∧ (4 : Nat) = (4 : Nat) ∧ false = false) ∧
                                                                                                 True ∧
                                                                                                  ((4 : Nat) ≠ (0 : Nat) ∧ (4 : Nat) = (4 : Nat) ∧ true = true) ∧
                                                                                                   ((4 : Nat) ≠ (0 : Nat) ∧ (4 : Nat) = (4 : Nat) ∧ true = true) ∧
                                                                                                    (∃ (l_1 : List Int),
                                                                                                      ∃ (a_1 : List Int),
                                                                                                       ∃ (b : List Int),
                                                                                                        [(D.st
                                                                                                             [D.arr IntKind.u64 (4 : Nat) l, D.arr IntKind.u64 (4 : Nat) (rgO (vB (18446744073709551616 : Nat) l)), D.arr IntKind.u64 (4 : Nat) (rgS (vB (18446744073709551616 : Nat) l)),
                                                                                                              D.val (Value.int IntKind.u64 (↑(rgI (vB (18446744073709551616 : Nat) l)) : Int))]).ref,
                                                                                                           D.arr IntKind.u64 (4 : Nat) a, D.arr IntKind.u64 (4 : Nat) n] =
                                                                                                          [(D.st
                                                                                                             [D.arr IntKind.u64 (4 : Nat) l_1, D.arr IntKind.u64 (4 : Nat) (rgO (vB (18446744073709551616 : Nat) l_1)), D.arr IntKind.u64 (4 : Nat) (rgS (vB (18446744073709551616 : Nat) l_1)),
                                                                                                              D.val (Value.int IntKind.u64 (↑(rgI (vB (18446744073709551616 : Nat) l_1)) : Int))]).ref,
                                                                                                           D.arr IntKind.u64 (4 : Nat) a_1, D.arr IntKind.u64 (4 : Nat) b] ∧
                                                                                                         rgOk l_1 ∧ isN a_1 ∧ isN b) ∧
                                                                                                     True ∧
                                                                                                      ((4 : Nat) ≠ (0 : Nat) ∧ (4 : Nat) = (4 : Nat) ∧ true = true) ∧
                                                                                                       (∃ (l : List Int), [D.arr IntKind.u64 (4 : Nat) n] = [D.arr IntKind.u64 (4 : Nat) l] ∧ okw l ∧ l.length = (4 : Nat)) ∧
                                                                                                        ((1 : Nat) ≠ (0 : Nat) ∧ (1 : Nat) = (1 : Nat) ∧ false = false) ∧
                                                                                                         (∃ (a_1 : Nat),
                                                                                                           ∃ (n_1 : Nat),
                                                                                                            ∃ (m : Nat),
                                                                                                             [D.ints IntKind.i64 (dg (vB (18446744073709551616 : Nat) a)), D.ints IntKind.i64 (dg (vB (18446744073709551616 : Nat) n)),
                                                                                                                D.ints IntKind.i64 (dg (vB (18446744073709551616 : Nat) l))] =
                                                                                                               [D.ints IntKind.i64 (dg a_1), D.ints IntKind.i64 (dg n_1), D.ints IntKind.i64 (dg m)] ∧
                                                                                                              n256 a_1 ∧ n256 n_1 ∧ n256 m ∧ (0 : Nat) < m) ∧
                                                                                                          (∃ (l_1 : List Int),
                                                                                                            [D.ints IntKind.i64
                                                                                                                (dg
                                                                                                                 (powN (vB (65536 : Nat) (dg (vB (18446744073709551616 : Nat) a))) (vB (65536 : Nat) (dg (vB (18446744073709551616 : Nat) n)))
                                                                                                                  (vB (65536 : Nat) (dg (vB (18446744073709551616 : Nat) l)))))] =
                                                                                                              [D.ints IntKind.i64 l_1] ∧
                                                                                                             okd l_1 ∧ lenOk l_1) ∧
                                                                                                           (IntKind.u64 = IntKind.u64 ∧ IntKind.u64 = IntKind.u64 ∧ (4 : Nat) = (4 : Nat) ∧ (4 : Nat) = (4 : Nat) ∧ (1 : Nat) = (1 : Nat)) ∧
                                                                                                            True ∧
                                                                                                             match
                                                                                                              eqB (nB (18446744073709551616 : Nat) (4 : Nat) (powN (vB (18446744073709551616 : Nat) a) (vB (18446744073709551616 : Nat) n) (vB (18446744073709551616 : Nat) l)))
                                                                                                               (nB (18446744073709551616 : Nat) (4 : Nat)
                                                                                                                (vB (65536 : Nat)
                                                                                                                 (dg
                                                                                                                  (powN (vB (65536 : Nat) (dg (vB (18446744073709551616 : Nat) a))) (vB (65536 : Nat) (dg (vB (18446744073709551616 : Nat) n)))
                                                                                                                   (vB (65536 : Nat) (dg (vB (18446744073709551616 : Nat) l))))))) with
                                                                                                             | true =>
                                                                                                              True ∧
                                                                                                               ((4 : Nat) ≠ (0 : Nat) ∧ (4 : Nat) = (4 : Nat) ∧ true = true) ∧
                                                                                                                (∃ (l_1 : List Int),
                                                                                                                  ∃ (a_1 : List Int),
                                                                                                                   [(D.st
                                                                                                                        [D.arr IntKind.u64 (4 : Nat) l, D.arr IntKind.u64 (4 : Nat) (rgO (vB (18446744073709551616 : Nat) l)),
                                                                                                                         D.arr IntKind.u64 (4 : Nat) (rgS (vB (18446744073709551616 : Nat) l)), D.val (Value.int IntKind.u64 (↑(rgI (vB (18446744073709551616 : Nat) l)) : Int))]).ref,
                                                                                                                      D.arr IntKind.u64 (4 : Nat) a] =
                                                                                                                     [(D.st
                                                                                                                        [D.arr IntKind.u64 (4 : Nat) l_1, D.arr IntKind.u64 (4 : Nat) (rgO (vB (18446744073709551616 : Nat) l_1)),
                                                                                                                         D.arr IntKind.u64 (4 : Nat) (rgS (vB (18446744073709551616 : Nat) l_1)),
                                                                                                                         D.val (Value.int IntKind.u64 (↑(rgI (vB (18446744073709551616 : Nat) l_1)) : Int))]).ref,
                                                                                                                      D.arr IntKind.u64 (4 : Nat) a_1] ∧
                                                                                                                    rgOk l_1 ∧ isN a_1) ∧
                                                                                                                 True ∧
                                                                                                                  True ∧
                                                                                                                   (∃ (n : Int), [D.val (Value.int IntKind.i64 (256 : Int))] = [D.val (Value.int IntKind.i64 n)] ∧ (0 : Int) ≤ n ∧ n ≤ (1048576 : Int)) ∧
                                                                                                                    (∃ (l : List Int),
                                                                                                                      ∃ (m : List Int),
                                                                                                                       [D.ints IntKind.i64 (dg (vB (18446744073709551616 : Nat) a)), D.ints IntKind.i64 (dgP (256 : Nat))] = [D.ints IntKind.i64 l, D.ints IntKind.i64 m] ∧
                                                                                                                        (okd l ∧ lenS l) ∧ okd m ∧ lenS m) ∧
                                                                                                                     (∃ (x : List Int),
                                                                                                                       ∃ (k : List Int),
                                                                                                                        [D.ints IntKind.i64 (dg (vB (65536 : Nat) (dg (vB (18446744073709551616 : Nat) a)) * vB (65536 : Nat) (dgP (256 : Nat)))),
                                                                                                                           (D.ints IntKind.i64 (dg (vB (18446744073709551616 : Nat) l))).ref] =
                                                                                                                          [D.ints IntKind.i64 x, (D.ints IntKind.i64 k).ref] ∧
                                                                                                                         (okd x ∧ len1 x) ∧ (okd k ∧ len1 k) ∧ (0 : Nat) < vB (65536 : Nat) k ∧ n256 (vB (65536 : Nat) k)) ∧
                                                                                                                      (IntKind.u64 = IntKind.u64 ∧ IntKind.u64 = IntKind.u64 ∧ (4 : Nat) = (4 : Nat) ∧ (4 : Nat) = (4 : Nat) ∧ (1 : Nat) = (1 : Nat)) ∧
                                                                                                                       True ∧
                                                                                                                        True ∧
                                                                                                                         match
                                                                                                                          eqB (nB (18446744073709551616 : Nat) (4 : Nat) (inM (vB (18446744073709551616 : Nat) a) (vB (18446744073709551616 : Nat) l)))
                                                                                                                           (nB (18446744073709551616 : Nat) (4 : Nat)
                                                                                                                            (vB (65536 : Nat) (dg (vB (65536 : Nat) (dg (vB (18446744073709551616 : Nat) a)) * vB (65536 : Nat) (dgP (256 : Nat)))) %
                                                                                                                             vB (65536 : Nat) (dg (vB (18446744073709551616 : Nat) l)))) with
                                                                                                                         | true =>
                                                                                                                          ((4 : Nat) ≠ (0 : Nat) ∧ (4 : Nat) = (4 : Nat) ∧ true = true) ∧
                                                                                                                           (∃ (l_1 : List Int),
                                                                                                                             [D.arr IntKind.u64 (4 : Nat)
                                                                                                                                 (nB (18446744073709551616 : Nat) (4 : Nat) (redc (vB (18446744073709551616 : Nat) t) (vB (18446744073709551616 : Nat) l)))] =
                                                                                                                               [D.arr IntKind.u64 (4 : Nat) l_1] ∧
                                                                                                                              okw l_1 ∧ l_1.length = (4 : Nat)) ∧
                                                                                                                            ((1 : Nat) ≠ (0 : Nat) ∧ (1 : Nat) = (1 : Nat) ∧ false = false) ∧
                                                                                                                             (∃ (l_1 : List Int),
                                                                                                                               ∃ (m : List Int),
                                                                                                                                [D.ints IntKind.i64
                                                                                                                                    (dg
                                                                                                                                     (vB (18446744073709551616 : Nat)
                                                                                                                                      (nB (18446744073709551616 : Nat) (4 : Nat) (redc (vB (18446744073709551616 : Nat) t) (vB (18446744073709551616 : Nat) l))))),
                                                                                                                                   D.ints IntKind.i64 (dg (vB (18446744073709551616 : Nat) l))] =
                                                                                                                                  [D.ints IntKind.i64 l_1, D.ints IntKind.i64 m] ∧
                                                                                                                                 (okd l_1 ∧ lenS l_1) ∧ okd m ∧ lenS m) ∧
                                                                                                                              True ∧
                                                                                                                               True ∧
                                                                                                                                True ∧
                                                                                                                                 match
                                                                                                                                  decide
                                                                                                                                   (cmpN
                                                                                                                                     (vB (65536 : Nat)
                                                                                                                                      (dg
                                                                                                                                       (vB (18446744073709551616 : Nat)
                                                                                                                                        (nB (18446744073709551616 : Nat) (4 : Nat) (redc (vB (18446744073709551616 : Nat) t) (vB (18446744073709551616 : Nat) l))))))
                                                                                                                                     (vB (65536 : Nat) (dg (vB (18446744073709551616 : Nat) l))) <
                                                                                                                                    (0 : Int)) with
                                                                                                                                 | true =>
                                                                                                                                  True ∧
                                                                                                                                   ((4 : Nat) ≠ (0 : Nat) ∧ (4 : Nat) = (4 : Nat) ∧ true = true) ∧
                                                                                                                                    (∃ (l_1 : List Int),
                                                                                                                                      [D.arr IntKind.u64 (4 : Nat)
                                                                                                                                          (nB (18446744073709551616 : Nat) (4 : Nat) (redc (vB (18446744073709551616 : Nat) t) (vB (18446744073709551616 : Nat) l)))] =
                                                                                                                                        [D.arr IntKind.u64 (4 : Nat) l_1] ∧
                                                                                                                                       okw l_1 ∧ l_1.length = (4 : Nat)) ∧
                                                                                                                                     (∃ (n : Int), [D.val (Value.int IntKind.i64 (256 : Int))] = [D.val (Value.int IntKind.i64 n)] ∧ (0 : Int) ≤ n ∧ n ≤ (1048576 : Int)) ∧
                                                                                                                                      (∃ (l_1 : List Int),
                                                                                                                                        ∃ (m : List Int),
                                                                                                                                         [D.ints IntKind.i64
                                                                                                                                             (dg
                                                                                                                                              (vB (18446744073709551616 : Nat)
                                                                                                                                               (nB (18446744073709551616 : Nat) (4 : Nat)
                                                                                                                                                (redc (vB (18446744073709551616 : Nat) t) (vB (18446744073709551616 : Nat) l))))),
                                                                                                                                            D.ints IntKind.i64 (dgP (256 : Nat))] =
                                                                                                                                           [D.ints IntKind.i64 l_1, D.ints IntKind.i64 m] ∧
                                                                                                                                          (okd l_1 ∧ lenS l_1) ∧ okd m ∧ lenS m) ∧
                                                                                                                                       (∃ (x : List Int),
                                                                                                                                         ∃ (k : List Int),
                                                                                                                                          [D.ints IntKind.i64
                                                                                                                                              (dg
                                                                                                                                               (vB (65536 : Nat)
                                                                                                                                                 (dg
                                                                                                                                                  (vB (18446744073709551616 : Nat)
                                                                                                                                                   (nB (18446744073709551616 : Nat) (4 : Nat)
                                                                                                                                                    (redc (vB (18446744073709551616 : Nat) t) (vB (18446744073709551616 : Nat) l))))) *
                                                                                                                                                vB (65536 : Nat) (dgP (256 : Nat)))),
                                                                                                                                             (D.ints IntKind.i64 (dg (vB (18446744073709551616 : Nat) l))).ref] =
                                                                                                                                            [D.ints IntKind.i64 x, (D.ints IntKind.i64 k).ref] ∧
                                                                                                                                           (okd x ∧ len1 x) ∧ (okd k ∧ len1 k) ∧ (0 : Nat) < vB (65536 : Nat) k ∧ n256 (vB (65536 : Nat) k)) ∧
                                                                                                                                        True ∧
                                                                                                                                         ((8 : Nat) ≠ (0 : Nat) ∧ (8 : Nat) = (8 : Nat) ∧ true = true) ∧
                                                                                                                                          (∃ (l : List Int), [D.arr IntKind.u64 (8 : Nat) t] = [D.arr IntKind.u64 (8 : Nat) l] ∧ okw l ∧ l.length = (8 : Nat)) ∧
                                                                                                                                           (∃ (x : List Int),
                                                                                                                                             ∃ (k : List Int),
                                                                                                                                              [D.ints IntKind.i64 (dg (vB (18446744073709551616 : Nat) t)),
                                                                                                                                                 (D.ints IntKind.i64 (dg (vB (18446744073709551616 : Nat) l))).ref] =
                                                                                                                                                [D.ints IntKind.i64 x, (D.ints IntKind.i64 k).ref] ∧
                                                                                                                                               (okd x ∧ len1 x) ∧ (okd k ∧ len1 k) ∧ (0 : Nat) < vB (65536 : Nat) k ∧ n256 (vB (65536 : Nat) k)) ∧
                                                                                                                                            (IntKind.u64 = IntKind.u64 ∧
                                                                                                                                              IntKind.u64 = IntKind.u64 ∧ (4 : Nat) = (4 : Nat) ∧ (4 : Nat) = (4 : Nat) ∧ (1 : Nat) = (1 : Nat)) ∧
                                                                                                                                             True ∧
                                                                                                                                              True ∧
                                                                                                                                               (false = false ∧ True) ∧
                                                                                                                                                D.val
                                                                                                                                                  (Value.bool
                                                                                                                                                   (eqB
                                                                                                                                                    (nB (18446744073709551616 : Nat) (4 : Nat)
                                                                                                                                                     (vB (65536 : Nat)
                                                                                                                                                       (dg
                                                                                                                                                        (vB (65536 : Nat)
                                                                                                                                                          (dg
                                                                                                                                                           (vB (18446744073709551616 : Nat)
                                                                                                                                                            (nB (18446744073709551616 : Nat) (4 : Nat)
                                                                                                                                                             (redc (vB (18446744073709551616 : Nat) t) (vB (18446744073709551616 : Nat) l))))) *
                                                                                                                                                         vB (65536 : Nat) (dgP (256 : Nat)))) %
                                                                                                                                                      vB (65536 : Nat) (dg (vB (18446744073709551616 : Nat) l))))
                                                                                                                                                    (nB (18446744073709551616 : Nat) (4 : Nat)
                                                                                                                                                     (vB (65536 : Nat) (dg (vB (18446744073709551616 : Nat) t)) %
                                                                                                                                                      vB (65536 : Nat) (dg (vB (18446744073709551616 : Nat) l)))))) =
                                                                                                                                                 F
                                                                                                                                 | false => True ∧ True ∧ (false = false ∧ True) ∧ D.val (Value.bool false) = F
                                                                                                                         | false => True ∧ True ∧ True ∧ True ∧ (false = false ∧ True) ∧ D.val (Value.bool false) = F
                                                                                                             | false => True ∧ True ∧ True ∧ True ∧ True ∧ True ∧ (false = false ∧ True) ∧ D.val (Value.bool false) = F) := by kernel_rfl
set_option maxRecDepth 100000 in
theorem vc5b  (l a b n t : List Int) (F : D)  :
    (owed c5b (fun _ => none) Try.f5 [num4 l, num4 a, num4 b, num4 n, num8 t] F) = (
 (True ∧ false = false) ∧
   (True ∧ false = false) ∧
    (True ∧ false = false) ∧
     (True ∧ false = false) ∧
      (True ∧ false = false) ∧
       True ∧
        ((4 : Nat) ≠ (0 : Nat) ∧ (4 : Nat) = (4 : Nat) ∧ true = true) ∧
         (∃ (l_1 : List Int), [D.arr IntKind.u64 (4 : Nat) l] = [D.arr IntKind.u64 (4 : Nat) l_1] ∧ rgNo l_1) ∧
          True ∧
           ((0 : Nat) < (2 : Nat) ∧ false = false) ∧
            ((1 : Nat) < (2 : Nat) ∧ false = false) ∧
             True ∧
              True ∧
               ((0 : Int) ≤ (0 : Int) ∧ (0 : Int) < (↑(4 : Nat) : Int) ∧ (4 : Nat) = (4 : Nat) ∧ (1 : Nat) = (1 : Nat)) ∧
                ((1 : Nat) ≠ (0 : Nat) ∧ (1 : Nat) = (1 : Nat) ∧ false = false) ∧
                 (2 : Int) ≠ (0 : Int) ∧
                  True ∧
                   True ∧
                    match (l.getD (0 : Nat) (0 : Int)).tmod (2 : Int) == (0 : Int) with
                    | true => True ∧ True ∧ True ∧ True ∧ True ∧ True ∧ True ∧ True ∧ (false = false ∧ True) ∧ D.val (Value.bool ((1 : Int) == (1 : Int))) = F
                    | false =>
                     ((4 : Nat) ≠ (0 : Nat) ∧ (4 : Nat) = (4 : Nat) ∧ true = true) ∧
                      ((1 : Nat) = (1 : Nat) ∧ false = false ∧ ((0 : Nat) < (4 : Nat) ∧ ([] : List Nat) = [] ∧ true = true) ∧ True) ∧
                       (IntKind.u64 = IntKind.u64 ∧ IntKind.u64 = IntKind.u64 ∧ (4 : Nat) = (4 : Nat) ∧ (4 : Nat) = (4 : Nat) ∧ (1 : Nat) = (1 : Nat)) ∧
                        True ∧
                         match eqB l [(1 : Int), (0 : Int), (0 : Int), (0 : Int)] with
                         | true => True ∧ True ∧ True ∧ True ∧ True ∧ True ∧ True ∧ (false = false ∧ True) ∧ D.val (Value.bool ((1 : Int) == (1 : Int))) = F
                         | false => True ∧ True ∧ True ∧ True ∧ True ∧ (false = false ∧ True) ∧ D.val (Value.bool false) = F) := by kernel_rfl
end Go.Proofs.Ytkicjckhkefnpaa
/- RingTells: the law is met. -/
namespace Go.Proofs.Ytkicjckhkefnpaa
open Go Go.Vg
set_option exponentiation.threshold 2000

theorem meets_or {P : Program} {f : FuncId} {s : Go.Vg.Spec} (p q : List D → Prop) (h1 : Meets P f ⟨p, s.f, s.flat, s.ps⟩) (h2 : Meets P f ⟨q, s.f, s.flat, s.ps⟩) (h : ∀ ds, s.pre ds → p ds ∨ q ds) : Meets P f s :=
  fun ds hp => (h ds hp).elim (h1 ds) (h2 ds)

theorem eqBs (a : List Int) : eqB a a = true := by rw [eqB_eq]; simp
theorem sub_way {A B M : Nat} (hM : 0 < M) : (A + (M - B % M)) % M = sbM A B M := by
  have := Nat.mod_lt B hM
  unfold sbM
  rw [Nat.add_sub_assoc (by omega), Nat.mod_add_mod]
theorem tmod_odd {l : List Int} (hl : isN l) : ((l.getD 0 0).tmod 2 == 0) = decide (wv l % 2 = 0) := by
  obtain ⟨q1, q2, q3⟩ := m0_mod hl
  rw [q2, show (2 : Int) = ((2 : Nat) : Int) from rfl, tmodN]
  have e : m0 l % 2 = wv l % 2 := by omega
  rw [e]
  have : wv l % 2 = 0 ∨ wv l % 2 = 1 := by omega
  rcases this with h | h <;> rw [h] <;> rfl

def argR (l a b n t : List Int) : Prop := isN l ∧ isN a ∧ isN b ∧ isN n ∧ is8 t
def pre5 (ds : List D) : Prop := ∃ l a b n t, ds = [num4 l, num4 a, num4 b, num4 n, num8 t] ∧ rgOk l ∧ isN a ∧ isN b ∧ isN n ∧ is8 t
def pre5b (ds : List D) : Prop := ∃ l a b n t, ds = [num4 l, num4 a, num4 b, num4 n, num8 t] ∧ rgNo l

set_option maxRecDepth 100000 in
theorem m5b : Meets Try.prog 5 ⟨pre5b, (lawSpec tab Try.f5.params.toList).f, true, Try.f5.params.toList⟩ := by
  refine meets_of_owed (C := c5b) ⟨tab_ok, lkS_ok ⟨m21b, trivial⟩⟩ (by kernel_rfl) (by kernel_rfl : Try.prog.funcs[5]? = some Try.f5) (by kernel_rfl) (by kernel_rfl) (by kernel_rfl) _ ?_
  rintro _ ⟨l, a, b, n, t, rfl, hl, hno⟩
  refine ⟨fun _ => rfl, fun _ => none, ?_⟩
  show owed c5b (fun _ => none) Try.f5 [num4 l, num4 a, num4 b, num4 n, num8 t] (.val (.bool true))
  rw [vc5b, tmod_odd hl]
  rcases hno with he | h1
  · rw [decide_eq_true he]
    simp (decide := true) only [eq_self, true_and, and_true, ne_eq, not_false_eq_true]
    exact ⟨⟨l, rfl, hl, .inl he⟩, rfl⟩
  · obtain rfl := one_is hl h1
    rw [show decide (wv [1, 0, 0, 0] % 2 = 0) = false by decide, eqBs]
    simp (decide := true) only [eq_self, true_and, and_true, ne_eq, not_false_eq_true]
    exact ⟨⟨_, rfl, hl, .inr h1⟩, rfl⟩

set_option maxRecDepth 100000 in
theorem m5a : Meets Try.prog 5 ⟨pre5, (lawSpec tab Try.f5.params.toList).f, true, Try.f5.params.toList⟩ := by
  refine meets_of_owed (C := c5) ⟨tab_ok, lkS_ok ⟨m21, m22, m23, m26, m27, m28, m29, m25, m30, m31, m32, m33, m34, m35, m24, m36, m37, m38, m39, trivial⟩⟩ (by kernel_rfl) (by kernel_rfl : Try.prog.funcs[5]? = some Try.f5) (by kernel_rfl) (by kernel_rfl) (by kernel_rfl) _ ?_
  rintro _ ⟨l, a, b, n, t, rfl, hl, ha, hb, hn, ht⟩
  refine ⟨fun _ => rfl, fun _ => none, ?_⟩
  show owed c5 (fun _ => none) Try.f5 [num4 l, num4 a, num4 b, num4 n, num8 t] (.val (.bool true))
  rw [vc5, tmod_odd hl.1, decide_eq_false (show ¬ wv l % 2 = 0 by have := hl.2.1; omega)]
  obtain ⟨hM, h1⟩ := rg_lt hl
  have hA := wv_lt ha.1 ha.2
  have hB := wv_lt hb.1 hb.2
  have hNn := wv_lt hn.1 hn.2
  have hT := vB_lt (b := 18446744073709551616) ht.1
  rw [ht.2] at hT
  have hne : eqB l [1, 0, 0, 0] = false := by
    rw [eqB_eq]
    refine decide_eq_false fun e => ?_
    rw [e] at h1
    exact absurd h1 (by decide)
  have ed : dgP 256 = dg (2 ^ 256) := opq_eq _
  have ew : vB 65536 (dgP 256) = 2 ^ 256 := by rw [ed, vl_dg]
  have kP : okd (dgP 256) ∧ lenS (dgP 256) := by rw [ed]; exact ⟨dg_ok _, (lens2 (by decide)).2.2.1⟩
  have er : vB 18446744073709551616 (nB 18446744073709551616 4 (redc (vB 18446744073709551616 t) (vB 18446744073709551616 l))) = redc (vB 18446744073709551616 t) (vB 18446744073709551616 l) := v4 (mod_lt' hl _).2
  have hr : redc (vB 18446744073709551616 t) (vB 18446744073709551616 l) < wv l := (mod_lt' hl _).1
  have ec : cmpN (redc (vB 18446744073709551616 t) (vB 18446744073709551616 l)) (vB 18446744073709551616 l) = -1 := if_pos hr
  have em : redc (vB 18446744073709551616 t) (vB 18446744073709551616 l) * 2 ^ 256 % vB 18446744073709551616 l = vB 18446744073709551616 t % vB 18446744073709551616 l := redc_mul h1 hM hl.2.1
  have es := sub_way (A := vB 18446744073709551616 a) (B := vB 18446744073709551616 b) (show 0 < vB 18446744073709551616 l by unfold wv at h1; omega)
  simp (decide := true) only [hne, eqBs, ew, vl_dg, er, ec, em, es, adM, mlM, inM, Bool.not_true, eq_self, true_and, and_true, ne_eq, not_false_eq_true]
  have dl := lens1 hM
  have da := lens1 hA
  have db := lens1 hB
  have dn := lens1 hNn
  have hmodB : vB 18446744073709551616 b % vB 18446744073709551616 l < 2 ^ 256 := (mod_lt' hl _).2
  have dm := lens1 hmodB
  have hMB : vB 18446744073709551616 l - vB 18446744073709551616 b % vB 18446744073709551616 l < 2 ^ 256 := Nat.lt_of_le_of_lt (Nat.sub_le _ _) hM
  have dMB := lens1 hMB
  have s2 : ∀ {x y : Nat}, x < 2 ^ 256 → y < 2 ^ 256 → x + y < 2 ^ 512 := fun {x y} h1 h2 => Nat.lt_of_lt_of_le (Nat.add_lt_add h1 h2) (by decide)
  have dAB := lens2 (s2 hA hB)
  have dS := lens2 (s2 hA hMB)
  have dP := lens2 (mul512 hA hB)
  have p512 : ∀ {x : Nat}, x < 2 ^ 256 → x * 2 ^ 256 < 2 ^ 512 := fun {x} h => by
    have := Nat.mul_lt_mul_of_pos_right h (show 0 < 2 ^ 256 by decide)
    exact Nat.lt_of_lt_of_le this (by rw [← Nat.pow_add]; exact Nat.le_refl _)
  have dIn := lens2 (p512 hA)
  have dR := lens1 (mod_lt' hl (wv t * invN (2 ^ 256 % wv l) (wv l))).2
  have dRR := lens2 (p512 (mod_lt' hl (wv t * invN (2 ^ 256 % wv l) (wv l))).2)
  have dT := lens2 (Nat.lt_of_lt_of_le hT (by decide))
  have dPow := lens1 (mod_lt' hl (wv a ^ wv n)).2
  have hM0 : 0 < vB 18446744073709551616 l := Nat.lt_trans (by decide) h1
  have kM : (okd (dg (vB 18446744073709551616 l)) ∧ len1 (dg (vB 18446744073709551616 l))) ∧ 0 < vB 65536 (dg (vB 18446744073709551616 l)) ∧ n256 (vB 65536 (dg (vB 18446744073709551616 l))) := ⟨⟨dl.1, dl.2.1⟩, by rw [vl_dg]; exact hM0, by rw [vl_dg]; exact hM⟩
  have pc : ∀ x, okd (dg x) ∧ len1 (dg x) → ∃ y k : List Int, [D.ints IntKind.i64 (dg x), (D.ints IntKind.i64 (dg (vB 18446744073709551616 l))).ref] = [D.ints IntKind.i64 y, (D.ints IntKind.i64 k).ref] ∧ (okd y ∧ len1 y) ∧ (okd k ∧ len1 k) ∧ 0 < vB 65536 k ∧ n256 (vB 65536 k) := fun x hx => ⟨_, _, rfl, hx, kM⟩
  have p2 : ∀ x y, okd x ∧ lenS x → okd y ∧ lenS y → ∃ u v : List Int, [D.ints IntKind.i64 x, D.ints IntKind.i64 y] = [D.ints IntKind.i64 u, D.ints IntKind.i64 v] ∧ (okd u ∧ lenS u) ∧ okd v ∧ lenS v := fun x y hx hy => ⟨_, _, rfl, hx, hy⟩
  have p3 : ∀ a b, isN a → isN b → ∃ l_1 a_1 b_1 : List Int, [D.ref (ringD l), num4 a, num4 b] = [D.ref (ringD l_1), num4 a_1, num4 b_1] ∧ rgOk l_1 ∧ isN a_1 ∧ isN b_1 := fun a b ha hb => ⟨_, _, _, rfl, hl, ha, hb⟩
  have pn : ∀ x, isN x → ∃ l : List Int, [num4 x] = [num4 l] ∧ okw l ∧ l.length = 4 := fun x hx => ⟨_, rfl, hx.1, hx.2⟩
  refine ⟨⟨_, rfl, hl⟩, pn _ hl.1, pn _ ha, pn _ hb, ⟨_, rfl, hl⟩, p3 _ _ ha hb, p2 _ _ ⟨da.1, da.2.2.1⟩ ⟨db.1, db.2.2.1⟩, pc _ ⟨dAB.1, dAB.2.1⟩, p3 _ _ ha hb, ?_⟩
  refine ⟨⟨_, _, rfl, ⟨db.1, db.2.1⟩, ⟨dl.1, dl.2.1⟩, by rw [vl_dg]; exact Nat.ne_of_gt hM0⟩, ⟨_, _, rfl, ⟨dl.1, dl.2.2.1⟩, ⟨dm.1, dm.2.2.1⟩, by rw [vl_dg, vl_dg]; exact Nat.le_of_lt (Nat.mod_lt _ hM0)⟩, p2 _ _ ⟨da.1, da.2.2.1⟩ ⟨dMB.1, dMB.2.2.1⟩, pc _ ⟨dS.1, dS.2.1⟩, ?_⟩
  refine ⟨p3 _ _ ha hb, p2 _ _ ⟨da.1, da.2.2.1⟩ ⟨db.1, db.2.2.1⟩, pc _ ⟨dP.1, dP.2.1⟩, ⟨_, _, rfl, hl, ht⟩, p3 _ _ ha hn, pn _ hn, ⟨_, _, _, rfl, hA, hNn, hM, hM0⟩, ⟨_, rfl, dPow.1, dPow.2.2.2⟩, ?_⟩
  refine ⟨⟨_, _, rfl, hl, ha⟩, ⟨256, rfl, by decide, by decide⟩, p2 _ _ ⟨da.1, da.2.2.1⟩ kP, pc _ ⟨dIn.1, dIn.2.1⟩, pn _ (nB_isN _), p2 _ _ ⟨dR.1, dR.2.2.1⟩ ⟨dl.1, dl.2.2.1⟩, ?_⟩
  exact ⟨pn _ (nB_isN _), ⟨256, rfl, by decide, by decide⟩, p2 _ _ ⟨dR.1, dR.2.2.1⟩ kP, pc _ ⟨dRR.1, dRR.2.1⟩, ⟨_, rfl, ht.1, ht.2⟩, pc _ ⟨dT.1, dT.2.1⟩⟩

theorem okAll5 {t : Tab} {n : Nat} {a b c u v : TypeId} : ∀ {ds : List D}, OkAll t n [a, b, c, u, v] ds → ∃ d e f g k, ds = [d, e, f, g, k] ∧ OkT t n a d ∧ OkT t n b e ∧ OkT t n c f ∧ OkT t n u g ∧ OkT t n v k
  | [d, e, f, g, k], h => ⟨d, e, f, g, k, rfl, h.1, h.2.1, h.2.2.1, h.2.2.2.1, h.2.2.2.2.1⟩
  | [], h => h.elim
  | [_], h => h.2.elim
  | [_, _], h => h.2.2.elim
  | [_, _, _], h => h.2.2.2.elim
  | [_, _, _, _], h => h.2.2.2.2.elim
  | _ :: _ :: _ :: _ :: _ :: _ :: _, h => h.2.2.2.2.2.elim
set_option maxRecDepth 100000 in
theorem ok50  (d : D)  :
    (OkT tab 8 50 d) = (
 ∃ (l : List Int), d = D.arr IntKind.u64 (8 : Nat) l ∧ l.length = (8 : Nat) ∧ ∀ (z : Int), z ∈ l → (0 : Int) ≤ z ∧ z ≤ IntKind.u64.max) := by kernel_rfl
theorem wide_of {d : D} (h : OkT tab 8 50 d) : ∃ l, d = num8 l ∧ is8 l := by
  rw [ok50] at h
  obtain ⟨l, rfl, h1, h2⟩ := h
  exact ⟨l, rfl, fun x hx => ⟨(h2 x hx).1, Int.lt_of_le_of_lt (h2 x hx).2 (by decide)⟩, h1⟩

theorem m5 : Meets Try.prog 5 (lawSpec tab Try.f5.params.toList) := by
  refine meets_or pre5 pre5b m5a m5b ?_
  intro ds hds
  have hds : OkAll tab 8 [27, 27, 27, 27, 50] ds := hds
  obtain ⟨d, e, f, g, k, rfl, h1, h2, h3, h4, h5⟩ := okAll5 hds
  obtain ⟨l, rfl, hl⟩ := num_of h1
  obtain ⟨a, rfl, ha⟩ := num_of h2
  obtain ⟨b, rfl, hb⟩ := num_of h3
  obtain ⟨n, rfl, hn⟩ := num_of h4
  obtain ⟨t, rfl, ht⟩ := wide_of h5
  by_cases hc : wv l % 2 = 0 ∨ wv l = 1
  · exact .inr ⟨l, a, b, n, t, rfl, hl, hc⟩
  · exact .inl ⟨l, a, b, n, t, rfl, ⟨hl, by omega, by omega⟩, ha, hb, hn, ht⟩

end Go.Proofs.Ytkicjckhkefnpaa
