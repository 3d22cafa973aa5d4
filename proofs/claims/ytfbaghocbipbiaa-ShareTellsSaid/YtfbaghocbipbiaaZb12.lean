/- The modulus of the scalars is prime: by Lucas. -/
import Derived.Test.YtfbaghocbipbiaaZb11
import Derived.Test.YtfbaghocbipbiaaZb9
namespace Go.Vg
theorem pL_2 : Prm 2 := small_of (by kernel_rfl)
theorem pL_3 : Prm 3 := small_of (by kernel_rfl)
theorem pL_11 : Prm 11 := small_of (by kernel_rfl)
theorem pL_23 : Prm 23 := small_of (by kernel_rfl)
theorem pL_47 : Prm 47 := small_of (by kernel_rfl)
theorem pL_34123 : Prm 34123 := (lucas_of (g := 2) (fs := [2, 3, 11, 11, 47]) (by kernel_rfl) ⟨pL_2, pL_3, pL_11, pL_11, pL_47, trivial⟩).1
theorem pL_409477 : Prm 409477 := (lucas_of (g := 2) (fs := [2, 2, 3, 34123]) (by kernel_rfl) ⟨pL_2, pL_2, pL_3, pL_34123, trivial⟩).1
theorem pL_14741173 : Prm 14741173 := (lucas_of (g := 2) (fs := [2, 2, 3, 3, 409477]) (by kernel_rfl) ⟨pL_2, pL_2, pL_3, pL_3, pL_409477, trivial⟩).1
theorem pL_58964693 : Prm 58964693 := (lucas_of (g := 2) (fs := [2, 2, 14741173]) (by kernel_rfl) ⟨pL_2, pL_2, pL_14741173, trivial⟩).1
theorem pL_7 : Prm 7 := small_of (by kernel_rfl)
theorem pL_17 : Prm 17 := small_of (by kernel_rfl)
theorem pL_43 : Prm 43 := small_of (by kernel_rfl)
theorem pL_30703 : Prm 30703 := (lucas_of (g := 3) (fs := [2, 3, 7, 17, 43]) (by kernel_rfl) ⟨pL_2, pL_3, pL_7, pL_17, pL_43, trivial⟩).1
theorem pL_5 : Prm 5 := small_of (by kernel_rfl)
theorem pL_13 : Prm 13 := small_of (by kernel_rfl)
theorem pL_79 : Prm 79 := small_of (by kernel_rfl)
theorem pL_41081 : Prm 41081 := (lucas_of (g := 3) (fs := [2, 2, 2, 5, 13, 79]) (by kernel_rfl) ⟨pL_2, pL_2, pL_2, pL_5, pL_13, pL_79, trivial⟩).1
theorem pL_82163 : Prm 82163 := (lucas_of (g := 2) (fs := [2, 41081]) (by kernel_rfl) ⟨pL_2, pL_41081, trivial⟩).1
theorem pL_67 : Prm 67 := small_of (by kernel_rfl)
theorem pL_22111 : Prm 22111 := (lucas_of (g := 6) (fs := [2, 3, 5, 11, 67]) (by kernel_rfl) ⟨pL_2, pL_3, pL_5, pL_11, pL_67, trivial⟩).1
theorem pL_132667 : Prm 132667 := (lucas_of (g := 5) (fs := [2, 3, 22111]) (by kernel_rfl) ⟨pL_2, pL_3, pL_22111, trivial⟩).1
theorem pL_41 : Prm 41 := small_of (by kernel_rfl)
theorem pL_1723 : Prm 1723 := (lucas_of (g := 3) (fs := [2, 3, 7, 41]) (by kernel_rfl) ⟨pL_2, pL_3, pL_7, pL_41, trivial⟩).1
theorem pL_17231 : Prm 17231 := (lucas_of (g := 13) (fs := [2, 5, 1723]) (by kernel_rfl) ⟨pL_2, pL_5, pL_1723, trivial⟩).1
theorem pL_137849 : Prm 137849 := (lucas_of (g := 3) (fs := [2, 2, 2, 17231]) (by kernel_rfl) ⟨pL_2, pL_2, pL_2, pL_17231, trivial⟩).1
theorem pL_3044861653679985063343 : Prm 3044861653679985063343 := (lucas_of (g := 5) (fs := [2, 3, 11, 30703, 82163, 132667, 137849]) (by kernel_rfl) ⟨pL_2, pL_3, pL_11, pL_30703, pL_82163, pL_132667, pL_137849, trivial⟩).1
theorem pL_198211423230930754013084525763697 : Prm 198211423230930754013084525763697 := (lucas_of (g := 5) (fs := [2, 2, 2, 2, 3, 23, 58964693, 3044861653679985063343]) (by kernel_rfl) ⟨pL_2, pL_2, pL_2, pL_2, pL_3, pL_23, pL_58964693, pL_3044861653679985063343, trivial⟩).1
theorem pL_269 : Prm 269 := small_of (by kernel_rfl)
theorem pL_73 : Prm 73 := small_of (by kernel_rfl)
theorem pL_307 : Prm 307 := (lucas_of (g := 5) (fs := [2, 3, 3, 17]) (by kernel_rfl) ⟨pL_2, pL_3, pL_3, pL_17, trivial⟩).1
theorem pL_113 : Prm 113 := small_of (by kernel_rfl)
theorem pL_2939 : Prm 2939 := (lucas_of (g := 2) (fs := [2, 13, 113]) (by kernel_rfl) ⟨pL_2, pL_13, pL_113, trivial⟩).1
theorem pL_5879 : Prm 5879 := (lucas_of (g := 11) (fs := [2, 2939]) (by kernel_rfl) ⟨pL_2, pL_2939, trivial⟩).1
theorem pL_292386187 : Prm 292386187 := (lucas_of (g := 2) (fs := [2, 3, 3, 3, 3, 307, 5879]) (by kernel_rfl) ⟨pL_2, pL_3, pL_3, pL_3, pL_3, pL_307, pL_5879, trivial⟩).1
theorem pL_213441916511 : Prm 213441916511 := (lucas_of (g := 13) (fs := [2, 5, 73, 292386187]) (by kernel_rfl) ⟨pL_2, pL_5, pL_73, pL_292386187, trivial⟩).1
theorem pL_1361 : Prm 1361 := (lucas_of (g := 3) (fs := [2, 2, 2, 2, 5, 17]) (by kernel_rfl) ⟨pL_2, pL_2, pL_2, pL_2, pL_5, pL_17, trivial⟩).1
theorem pL_19 : Prm 19 := small_of (by kernel_rfl)
theorem pL_2851 : Prm 2851 := (lucas_of (g := 2) (fs := [2, 3, 5, 5, 19]) (by kernel_rfl) ⟨pL_2, pL_3, pL_5, pL_5, pL_19, trivial⟩).1
theorem pL_3797 : Prm 3797 := (lucas_of (g := 2) (fs := [2, 2, 13, 73]) (by kernel_rfl) ⟨pL_2, pL_2, pL_13, pL_73, trivial⟩).1
theorem pL_531581 : Prm 531581 := (lucas_of (g := 2) (fs := [2, 2, 5, 7, 3797]) (by kernel_rfl) ⟨pL_2, pL_2, pL_5, pL_7, pL_3797, trivial⟩).1
theorem pL_2551 : Prm 2551 := (lucas_of (g := 6) (fs := [2, 3, 5, 5, 17]) (by kernel_rfl) ⟨pL_2, pL_3, pL_5, pL_5, pL_17, trivial⟩).1
theorem pL_1224481 : Prm 1224481 := (lucas_of (g := 13) (fs := [2, 2, 2, 2, 2, 3, 5, 2551]) (by kernel_rfl) ⟨pL_2, pL_2, pL_2, pL_2, pL_2, pL_3, pL_5, pL_2551, trivial⟩).1
theorem pL_1257559732178653 : Prm 1257559732178653 := (lucas_of (g := 2) (fs := [2, 2, 3, 7, 23, 531581, 1224481]) (by kernel_rfl) ⟨pL_2, pL_2, pL_3, pL_7, pL_23, pL_531581, pL_1224481, trivial⟩).1
theorem pL_4434155615661930479 : Prm 4434155615661930479 := (lucas_of (g := 17) (fs := [2, 41, 43, 1257559732178653]) (by kernel_rfl) ⟨pL_2, pL_41, pL_43, pL_1257559732178653, trivial⟩).1
theorem pL_172054593956031949258510691 : Prm 172054593956031949258510691 := (lucas_of (g := 2) (fs := [2, 5, 1361, 2851, 4434155615661930479]) (by kernel_rfl) ⟨pL_2, pL_5, pL_1361, pL_2851, pL_4434155615661930479, trivial⟩).1
theorem pL_19757330305831588566944191468367130476339 : Prm 19757330305831588566944191468367130476339 := (lucas_of (g := 2) (fs := [2, 269, 213441916511, 172054593956031949258510691]) (by kernel_rfl) ⟨pL_2, pL_269, pL_213441916511, pL_172054593956031949258510691, trivial⟩).1
theorem pL_276602624281642239937218680557139826668747 : Prm 276602624281642239937218680557139826668747 := (lucas_of (g := 2) (fs := [2, 7, 19757330305831588566944191468367130476339]) (by kernel_rfl) ⟨pL_2, pL_7, pL_19757330305831588566944191468367130476339, trivial⟩).1
theorem pL_f : Prm 7237005577332262213973186563042994240857116359379907606001950938285454250989 ∧ ∀ a, a % 7237005577332262213973186563042994240857116359379907606001950938285454250989 ≠ 0 → a ^ (7237005577332262213973186563042994240857116359379907606001950938285454250989 - 1) % 7237005577332262213973186563042994240857116359379907606001950938285454250989 = 1 := lucas_of (g := 2) (fs := [2, 2, 3, 11, 198211423230930754013084525763697, 276602624281642239937218680557139826668747]) (by kernel_rfl) ⟨pL_2, pL_2, pL_3, pL_11, pL_198211423230930754013084525763697, pL_276602624281642239937218680557139826668747, trivial⟩
end Go.Vg
namespace Go.Proofs.Ytfbaghocbipbiaa
open Go Go.Vg
def LQ : Nat := 7237005577332262213973186563042994240857116359379907606001950938285454250989
abbrev wA (ds : List D) : Nat := wv (arrOf (ds.headD default))
abbrev wB2 (ds : List D) : Nat := wv (arrOf (ds.getD 1 default))
def ngS (a : Nat) : Nat := (LQ - a % LQ) % LQ
noncomputable def ivS (a : Nat) : Nat := opq (a ^ (LQ - 2) % LQ)
def sp82 : Go.Vg.Spec := ⟨fun ds => ds.length = 0, fun _ => n4 LQ, true, []⟩
def sp83 : Go.Vg.Spec := ⟨fun ds => ∃ w, ds = [num8 w] ∧ okw w ∧ w.length = 8, fun ds => n4 (wA ds % LQ), true, [114]⟩
def sp86 : Go.Vg.Spec := ⟨fun ds => ∃ l, ds = [num4 l] ∧ isN l, fun ds => n4 (wA ds % LQ), true, [27]⟩
def sp45 : Go.Vg.Spec := ⟨fun ds => ∃ l m, ds = [num4 l, num4 m] ∧ isN l ∧ isN m, fun ds => n4 ((wA ds + wB2 ds) % LQ), true, [27, 27]⟩
def sp47 : Go.Vg.Spec := ⟨fun ds => ∃ l, ds = [num4 l] ∧ isN l, fun ds => n4 (ngS (wA ds)), true, [27]⟩
def sp44 : Go.Vg.Spec := ⟨fun ds => ∃ l m, ds = [num4 l, num4 m] ∧ isN l ∧ isN m, fun ds => n4 (wA ds * wB2 ds % LQ), true, [27, 27]⟩
noncomputable def sp48 : Go.Vg.Spec := ⟨fun ds => ∃ l, ds = [num4 l] ∧ isN l, fun ds => n4 (ivS (wA ds)), true, [27]⟩
def c0s : Ctx := ⟨tab, fun _ => none, [], []⟩
def c83 : Ctx := ⟨tab, lkS [(106, sp106), (82, sp82)], [], []⟩
def c86 : Ctx := ⟨tab, lkS [(83, sp83), (109, sp109)], [], []⟩
def c45 : Ctx := ⟨tab, lkS [(86, sp86), (85, sp85)], [], []⟩
def c47 : Ctx := ⟨tab, lkS [(82, sp82), (87, sp87), (86, sp86)], [], []⟩
def c44 : Ctx := ⟨tab, lkS [(84, sp84), (83, sp83)], [], []⟩
noncomputable def c48 : Ctx := ⟨tab, lkS [(88, sp88), (82, sp82)], [], []⟩
--KEEP Nat.gcd Go.Vg.opq Go.Vg.eqB Go.Vg.vB Go.Vg.nB Go.Vg.okd Go.Vg.okw Go.Vg.dg Go.Vg.dig Go.Vg.trimL okb lenOk lenS len1 sbd sbb dif bor cmpN shf i64ok subL dvq dvr dve sbD adl adc mulL mulH stL stH smN smC addL addK TimI TimJ isN invN ivX ivE InvI LQ ngS ivS
set_option maxRecDepth 100000 in
theorem vc82  (F : D)  :
    (owed c0s (fun _ => none) Try.f82 [] F) = (
 (True ∧ (4 : Nat) ≠ (0 : Nat)) ∧
 ((1 : Nat) = (1 : Nat) ∧ false = false ∧ ((0 : Nat) < (4 : Nat) ∧ ([] : List Nat) = [] ∧ true = true) ∧ false = false ∧ ((1 : Nat) < (4 : Nat) ∧ ([] : List Nat) = [] ∧ true = true) ∧ false = false ∧ ((2 : Nat) < (4 : Nat) ∧ ([] : List Nat) = [] ∧ true = true) ∧ false = false ∧ ((3 : Nat) < (4 : Nat) ∧ ([] : List Nat) = [] ∧ true = true) ∧ True) ∧
 (Sk.arr (4 : Nat) = Sk.arr (4 : Nat) ∧ (4 : Nat) ≠ (0 : Nat) ∧ (4 : Nat) = (4 : Nat) ∧ false = false) ∧ (((4 : Nat) ≠ (0 : Nat) ∧ (4 : Nat) = (4 : Nat) ∧ true = true) ∧ True) ∧ D.arr IntKind.u64 (4 : Nat) [(6346243789798364141 : Int), (1503914060200516822 : Int), (0 : Int), (1152921504606846976 : Int)] = F) := by kernel_rfl
set_option maxRecDepth 100000 in
theorem vc83  (w : List Int) (F : D)  :
    (owed c83 (fun _ => none) Try.f83 [num8 w] F) = (
 (True ∧ false = false) ∧
 (True ∧ (4 : Nat) ≠ (0 : Nat)) ∧
 ((8 : Nat) ≠ (0 : Nat) ∧ (8 : Nat) = (8 : Nat) ∧ true = true) ∧
 (0 : Nat) = (0 : Nat) ∧
 (∃ (a : List Int), ∃ (m : List Int), [D.arr IntKind.u64 (8 : Nat) w, D.arr IntKind.u64 (4 : Nat) (nB (18446744073709551616 : Nat) (4 : Nat) LQ)] = [D.arr IntKind.u64 (8 : Nat) a, D.arr IntKind.u64 (4 : Nat) m] ∧ (okw a ∧ a.length = (8 : Nat)) ∧ okw m ∧ m.length = (4 : Nat)) ∧
 True ∧
 ((0 : Nat) < (2 : Nat) ∧ false = false) ∧
 ((1 : Nat) < (2 : Nat) ∧ false = false) ∧
 (True ∧ (4 : Nat) ≠ (0 : Nat)) ∧
 (Sk.arr (4 : Nat) = Sk.arr (4 : Nat) ∧ (4 : Nat) ≠ (0 : Nat) ∧ (4 : Nat) = (4 : Nat) ∧ false = false) ∧
 True ∧
 ((4 : Nat) ≠ (0 : Nat) ∧ (4 : Nat) = (4 : Nat) ∧ true = true) ∧
 (Sk.arr (4 : Nat) = Sk.arr (4 : Nat) ∧ (4 : Nat) ≠ (0 : Nat) ∧ (4 : Nat) = (4 : Nat) ∧ false = false) ∧
 (((4 : Nat) ≠ (0 : Nat) ∧ (4 : Nat) = (4 : Nat) ∧ true = true) ∧ True) ∧ D.arr IntKind.u64 (4 : Nat) (nB (18446744073709551616 : Nat) (4 : Nat) (dvr (vB (18446744073709551616 : Nat) w) (vB (18446744073709551616 : Nat) (nB (18446744073709551616 : Nat) (4 : Nat) LQ)))) = F) := by kernel_rfl
set_option maxRecDepth 100000 in
theorem vc86  (l : List Int) (F : D)  :
    (owed c86 (fun _ => none) Try.f86 [num4 l] F) = (
 (True ∧ false = false) ∧
 (True ∧ (4 : Nat) ≠ (0 : Nat)) ∧
 ((4 : Nat) ≠ (0 : Nat) ∧ (4 : Nat) = (4 : Nat) ∧ true = true) ∧
 ((1 : Nat) = (1 : Nat) ∧ True) ∧
 (∃ (l_1 : List Int), ∃ (m : List Int), [D.arr IntKind.u64 (4 : Nat) l, D.arr IntKind.u64 (4 : Nat) [(0 : Int), (0 : Int), (0 : Int), (0 : Int)]] = [D.arr IntKind.u64 (4 : Nat) l_1, D.arr IntKind.u64 (4 : Nat) m] ∧ l_1.length = (4 : Nat) ∧ m.length = (4 : Nat)) ∧
 (∃ (w : List Int), [D.arr IntKind.u64 (8 : Nat) (l ++ [(0 : Int), (0 : Int), (0 : Int), (0 : Int)])] = [D.arr IntKind.u64 (8 : Nat) w] ∧ okw w ∧ w.length = (8 : Nat)) ∧
 (Sk.arr (4 : Nat) = Sk.arr (4 : Nat) ∧ (4 : Nat) ≠ (0 : Nat) ∧ (4 : Nat) = (4 : Nat) ∧ false = false) ∧ (((4 : Nat) ≠ (0 : Nat) ∧ (4 : Nat) = (4 : Nat) ∧ true = true) ∧ True) ∧ D.arr IntKind.u64 (4 : Nat) (nB (18446744073709551616 : Nat) (4 : Nat) (vB (18446744073709551616 : Nat) (l ++ [(0 : Int), (0 : Int), (0 : Int), (0 : Int)]) % LQ)) = F) := by kernel_rfl
set_option maxRecDepth 100000 in
theorem vc45  (l m : List Int) (F : D)  :
    (owed c45 (fun _ => none) Try.f45 [num4 l, num4 m] F) = (
 (True ∧ false = false) ∧
 (True ∧ false = false) ∧
 (True ∧ (4 : Nat) ≠ (0 : Nat)) ∧
 ((4 : Nat) ≠ (0 : Nat) ∧ (4 : Nat) = (4 : Nat) ∧ true = true) ∧
 (∃ (l_1 : List Int), [D.arr IntKind.u64 (4 : Nat) l] = [D.arr IntKind.u64 (4 : Nat) l_1] ∧ isN l_1) ∧
 ((4 : Nat) ≠ (0 : Nat) ∧ (4 : Nat) = (4 : Nat) ∧ true = true) ∧
 (∃ (l : List Int), [D.arr IntKind.u64 (4 : Nat) m] = [D.arr IntKind.u64 (4 : Nat) l] ∧ isN l) ∧
 (∃ (l_1 : List Int), ∃ (m_1 : List Int), [D.arr IntKind.u64 (4 : Nat) (nB (18446744073709551616 : Nat) (4 : Nat) (vB (18446744073709551616 : Nat) l % LQ)), D.arr IntKind.u64 (4 : Nat) (nB (18446744073709551616 : Nat) (4 : Nat) (vB (18446744073709551616 : Nat) m % LQ))] = [D.arr IntKind.u64 (4 : Nat) l_1, D.arr IntKind.u64 (4 : Nat) m_1] ∧ isN l_1 ∧ isN m_1) ∧
 True ∧
 ((0 : Nat) < (2 : Nat) ∧ false = false) ∧
 ((1 : Nat) < (2 : Nat) ∧ false = false) ∧
 (True ∧ (4 : Nat) ≠ (0 : Nat)) ∧
 (Sk.arr (4 : Nat) = Sk.arr (4 : Nat) ∧ (4 : Nat) ≠ (0 : Nat) ∧ (4 : Nat) = (4 : Nat) ∧ false = false) ∧
 True ∧
 ((4 : Nat) ≠ (0 : Nat) ∧ (4 : Nat) = (4 : Nat) ∧ true = true) ∧
 (∃ (l_1 : List Int),
 [D.arr IntKind.u64 (4 : Nat) (nB (18446744073709551616 : Nat) (4 : Nat) (smN (vB (18446744073709551616 : Nat) (nB (18446744073709551616 : Nat) (4 : Nat) (vB (18446744073709551616 : Nat) l % LQ))) (vB (18446744073709551616 : Nat) (nB (18446744073709551616 : Nat) (4 : Nat) (vB (18446744073709551616 : Nat) m % LQ)))))] = [D.arr IntKind.u64 (4 : Nat) l_1] ∧
 isN l_1) ∧
 (Sk.arr (4 : Nat) = Sk.arr (4 : Nat) ∧ (4 : Nat) ≠ (0 : Nat) ∧ (4 : Nat) = (4 : Nat) ∧ false = false) ∧
 (((4 : Nat) ≠ (0 : Nat) ∧ (4 : Nat) = (4 : Nat) ∧ true = true) ∧ True) ∧
 D.arr IntKind.u64 (4 : Nat)
 (nB (18446744073709551616 : Nat) (4 : Nat)
 (vB (18446744073709551616 : Nat) (nB (18446744073709551616 : Nat) (4 : Nat) (smN (vB (18446744073709551616 : Nat) (nB (18446744073709551616 : Nat) (4 : Nat) (vB (18446744073709551616 : Nat) l % LQ))) (vB (18446744073709551616 : Nat) (nB (18446744073709551616 : Nat) (4 : Nat) (vB (18446744073709551616 : Nat) m % LQ))))) % LQ)) =
 F) := by kernel_rfl
set_option maxRecDepth 100000 in
theorem vc47  (l : List Int) (F : D)  :
    (owed c47 (fun _ => none) Try.f47 [num4 l] F) = (
 (True ∧ false = false) ∧
 (True ∧ (4 : Nat) ≠ (0 : Nat)) ∧
 (0 : Nat) = (0 : Nat) ∧
 ((4 : Nat) ≠ (0 : Nat) ∧ (4 : Nat) = (4 : Nat) ∧ true = true) ∧
 (∃ (l_1 : List Int), [D.arr IntKind.u64 (4 : Nat) l] = [D.arr IntKind.u64 (4 : Nat) l_1] ∧ isN l_1) ∧
 (∃ (l_1 : List Int), ∃ (m : List Int), [D.arr IntKind.u64 (4 : Nat) (nB (18446744073709551616 : Nat) (4 : Nat) LQ), D.arr IntKind.u64 (4 : Nat) (nB (18446744073709551616 : Nat) (4 : Nat) (vB (18446744073709551616 : Nat) l % LQ))] = [D.arr IntKind.u64 (4 : Nat) l_1, D.arr IntKind.u64 (4 : Nat) m] ∧ (okw l_1 ∧ l_1.length = (4 : Nat)) ∧ okw m ∧ m.length = (4 : Nat)) ∧
 True ∧
 ((0 : Nat) < (2 : Nat) ∧ false = false) ∧
 ((1 : Nat) < (2 : Nat) ∧ false = false) ∧
 (True ∧ (4 : Nat) ≠ (0 : Nat)) ∧
 (Sk.arr (4 : Nat) = Sk.arr (4 : Nat) ∧ (4 : Nat) ≠ (0 : Nat) ∧ (4 : Nat) = (4 : Nat) ∧ false = false) ∧
 True ∧
 ((4 : Nat) ≠ (0 : Nat) ∧ (4 : Nat) = (4 : Nat) ∧ true = true) ∧
 (∃ (l_1 : List Int), [D.arr IntKind.u64 (4 : Nat) (nB (18446744073709551616 : Nat) (4 : Nat) (dif (vB (18446744073709551616 : Nat) (nB (18446744073709551616 : Nat) (4 : Nat) LQ)) (vB (18446744073709551616 : Nat) (nB (18446744073709551616 : Nat) (4 : Nat) (vB (18446744073709551616 : Nat) l % LQ)))))] = [D.arr IntKind.u64 (4 : Nat) l_1] ∧ isN l_1) ∧
 (Sk.arr (4 : Nat) = Sk.arr (4 : Nat) ∧ (4 : Nat) ≠ (0 : Nat) ∧ (4 : Nat) = (4 : Nat) ∧ false = false) ∧
 (((4 : Nat) ≠ (0 : Nat) ∧ (4 : Nat) = (4 : Nat) ∧ true = true) ∧ True) ∧
 D.arr IntKind.u64 (4 : Nat) (nB (18446744073709551616 : Nat) (4 : Nat) (vB (18446744073709551616 : Nat) (nB (18446744073709551616 : Nat) (4 : Nat) (dif (vB (18446744073709551616 : Nat) (nB (18446744073709551616 : Nat) (4 : Nat) LQ)) (vB (18446744073709551616 : Nat) (nB (18446744073709551616 : Nat) (4 : Nat) (vB (18446744073709551616 : Nat) l % LQ))))) % LQ)) = F) := by kernel_rfl
set_option maxRecDepth 100000 in
theorem vc44  (l m : List Int) (F : D)  :
    (owed c44 (fun _ => none) Try.f44 [num4 l, num4 m] F) = (
 (True ∧ false = false) ∧
 (True ∧ false = false) ∧
 (True ∧ (4 : Nat) ≠ (0 : Nat)) ∧
 ((4 : Nat) ≠ (0 : Nat) ∧ (4 : Nat) = (4 : Nat) ∧ true = true) ∧
 ((4 : Nat) ≠ (0 : Nat) ∧ (4 : Nat) = (4 : Nat) ∧ true = true) ∧
 (∃ (l_1 : List Int), ∃ (m_1 : List Int), [D.arr IntKind.u64 (4 : Nat) l, D.arr IntKind.u64 (4 : Nat) m] = [D.arr IntKind.u64 (4 : Nat) l_1, D.arr IntKind.u64 (4 : Nat) m_1] ∧ isN l_1 ∧ isN m_1) ∧
 (∃ (w : List Int), [D.arr IntKind.u64 (8 : Nat) (nB (18446744073709551616 : Nat) (8 : Nat) (vB (18446744073709551616 : Nat) l * vB (18446744073709551616 : Nat) m))] = [D.arr IntKind.u64 (8 : Nat) w] ∧ okw w ∧ w.length = (8 : Nat)) ∧
 (Sk.arr (4 : Nat) = Sk.arr (4 : Nat) ∧ (4 : Nat) ≠ (0 : Nat) ∧ (4 : Nat) = (4 : Nat) ∧ false = false) ∧
 (((4 : Nat) ≠ (0 : Nat) ∧ (4 : Nat) = (4 : Nat) ∧ true = true) ∧ True) ∧ D.arr IntKind.u64 (4 : Nat) (nB (18446744073709551616 : Nat) (4 : Nat) (vB (18446744073709551616 : Nat) (nB (18446744073709551616 : Nat) (8 : Nat) (vB (18446744073709551616 : Nat) l * vB (18446744073709551616 : Nat) m)) % LQ)) = F) := by kernel_rfl
set_option maxRecDepth 100000 in
theorem vc48  (l : List Int) (F : D)  :
    (owed c48 (fun _ => none) Try.f48 [num4 l] F) = (
 (True ∧ false = false) ∧
 (True ∧ (4 : Nat) ≠ (0 : Nat)) ∧
 ((4 : Nat) ≠ (0 : Nat) ∧ (4 : Nat) = (4 : Nat) ∧ true = true) ∧
 (0 : Nat) = (0 : Nat) ∧
 (∃ (l_1 : List Int), ∃ (m : List Int), [D.arr IntKind.u64 (4 : Nat) l, D.arr IntKind.u64 (4 : Nat) (nB (18446744073709551616 : Nat) (4 : Nat) LQ)] = [D.arr IntKind.u64 (4 : Nat) l_1, D.arr IntKind.u64 (4 : Nat) m] ∧ isN l_1 ∧ isN m) ∧
 True ∧
 ((0 : Nat) < (2 : Nat) ∧ false = false) ∧
 ((1 : Nat) < (2 : Nat) ∧ false = false) ∧
 (True ∧ (4 : Nat) ≠ (0 : Nat)) ∧
 (Sk.arr (4 : Nat) = Sk.arr (4 : Nat) ∧ (4 : Nat) ≠ (0 : Nat) ∧ (4 : Nat) = (4 : Nat) ∧ false = false) ∧
 True ∧
 ((4 : Nat) ≠ (0 : Nat) ∧ (4 : Nat) = (4 : Nat) ∧ true = true) ∧
 (Sk.arr (4 : Nat) = Sk.arr (4 : Nat) ∧ (4 : Nat) ≠ (0 : Nat) ∧ (4 : Nat) = (4 : Nat) ∧ false = false) ∧
 (((4 : Nat) ≠ (0 : Nat) ∧ (4 : Nat) = (4 : Nat) ∧ true = true) ∧ True) ∧ D.arr IntKind.u64 (4 : Nat) (nB (18446744073709551616 : Nat) (4 : Nat) (ivX (vB (18446744073709551616 : Nat) l) (vB (18446744073709551616 : Nat) (nB (18446744073709551616 : Nat) (4 : Nat) LQ)))) = F) := by kernel_rfl
end Go.Proofs.Ytfbaghocbipbiaa
namespace Go.Proofs.Ytfbaghocbipbiaa
open Go Go.Vg
theorem LQ_lt : LQ < 2 ^ 256 := by unfold LQ; decide
theorem LQ_pos : 0 < LQ := by unfold LQ; decide
theorem LQ_n4 : vB 18446744073709551616 (nB 18446744073709551616 4 LQ) = LQ := n4v LQ_lt
theorem md_lt (a : Nat) : a % LQ < LQ := Nat.mod_lt _ LQ_pos
theorem md_256 (a : Nat) : a % LQ < 2 ^ 256 := Nat.lt_trans (md_lt a) LQ_lt
theorem md_n4 (a : Nat) : vB 18446744073709551616 (nB 18446744073709551616 4 (a % LQ)) = a % LQ := n4v (md_256 a)
theorem dvr_LQ (a : Nat) : dvr a LQ = a % LQ := by unfold dvr; rw [if_neg (Nat.ne_of_gt LQ_pos)]
theorem LQ_big : 2 * LQ < 2 ^ 256 := by unfold LQ; decide
theorem inv_fermat {a : Nat} : ivX a LQ = a ^ (LQ - 2) % LQ := by
 have hp : Prm LQ := pL_f.1
 have hf := pL_f.2 a
 have e1 : LQ - 1 = (LQ - 2) + 1 := by unfold LQ; decide
 have l1 : ¬ LQ ≤ 1 := by unfold LQ; decide
 unfold ivX
 rw [if_neg l1]
 by_cases h0 : a % LQ = 0
 ·have hg : Nat.gcd a LQ ≠ 1 := by
   have : LQ ∣ Nat.gcd a LQ := Nat.dvd_gcd (Nat.dvd_of_mod_eq_zero h0) (Nat.dvd_refl _)
   intro e
   rw [e] at this
   have := Nat.le_of_dvd (by decide) this
   omega
  rw [if_neg hg]
  have e2 : LQ - 2 = (LQ - 3) + 1 := by unfold LQ; decide
  rw [e2, Nat.pow_succ, Nat.mul_mod, h0, Nat.mul_zero, Nat.zero_mod]
 ·have hg : Nat.gcd a LQ = 1 := by
   rcases hp.2 _ (Nat.gcd_dvd_right a LQ) with h | h
   ·exact h
   ·exact absurd (Nat.mod_eq_zero_of_dvd (h ▸ Nat.gcd_dvd_left a LQ)) h0
  rw [if_pos hg]
  have hpow : a * (a ^ (LQ - 2) % LQ) % LQ = 1 := by
   rw [Nat.mul_mod, Nat.mod_mod, ← Nat.mul_mod, Nat.mul_comm, ← Nat.pow_succ]
   have := hf h0
   rw [show (7237005577332262213973186563042994240857116359379907606001950938285454250989 : Nat) = LQ from rfl, e1] at this
   exact this
  have hex : ∃ x, x < LQ ∧ a * x % LQ = 1 := ⟨_, md_lt _, hpow⟩
  have hch : invN a LQ < LQ ∧ a * invN a LQ % LQ = 1 := by
   unfold invN
   rw [dif_pos hex]
   exact Classical.choose_spec hex
  -- the inverse is one
  have : invN a LQ % LQ = (a ^ (LQ - 2) % LQ) % LQ := by
   have h1 : invN a LQ * (a * (a ^ (LQ - 2) % LQ)) % LQ = invN a LQ % LQ := by
    rw [Nat.mul_mod, hpow, Nat.mul_one, Nat.mod_mod]
   have h2 : invN a LQ * (a * (a ^ (LQ - 2) % LQ)) % LQ = (a ^ (LQ - 2) % LQ) % LQ := by
    rw [← Nat.mul_assoc, Nat.mul_comm (invN a LQ) a, Nat.mul_mod, hch.2, Nat.one_mul, Nat.mod_mod]
   rw [← h1, h2]
  rwa [Nat.mod_eq_of_lt hch.1, Nat.mod_mod] at this
set_option maxRecDepth 100000 in
theorem m82 : Meets Try.prog 82 sp82 := by
 refine meets_of_owed (C := c0s) ⟨tab_ok, fun f s h => by cases h⟩ (by kernel_rfl) (by kernel_rfl : Try.prog.funcs[82]? = some Try.f82) (by kernel_rfl) (by kernel_rfl) (by kernel_rfl) _ ?_
 intro ds hds
 obtain rfl : ds = [] := List.eq_nil_of_length_eq_zero hds
 refine ⟨fun _ => rfl, fun _ => none, ?_⟩
 show owed c0s (fun _ => none) Try.f82 [] (n4 LQ)
 rw [vc82]
 and_intros <;> first | trivial | rfl | decide | (intro h; cases h) | kernel_rfl
set_option maxRecDepth 100000 in
theorem m83 : Meets Try.prog 83 sp83 := by
 refine meets_of_owed (C := c83) ⟨tab_ok, lkS_ok ⟨m106, m82, trivial⟩⟩ (by kernel_rfl) (by kernel_rfl : Try.prog.funcs[83]? = some Try.f83) (by kernel_rfl) (by kernel_rfl) (by kernel_rfl) _ ?_
 rintro _ ⟨w, rfl, hw, hl⟩
 refine ⟨fun _ => rfl, fun _ => none, ?_⟩
 show owed c83 (fun _ => none) Try.f83 [num8 w] (n4 (wv w % LQ))
 rw [vc83]
 simp (decide := true) only [LQ_n4, dvr_LQ, eq_self, true_and, and_true, ne_eq, not_false_eq_true]
 exact ⟨_, _, rfl, ⟨hw, hl⟩, isN_n4 LQ⟩
set_option maxRecDepth 100000 in
theorem m86 : Meets Try.prog 86 sp86 := by
 refine meets_of_owed (C := c86) ⟨tab_ok, lkS_ok ⟨m83, m109, trivial⟩⟩ (by kernel_rfl) (by kernel_rfl : Try.prog.funcs[86]? = some Try.f86) (by kernel_rfl) (by kernel_rfl) (by kernel_rfl) _ ?_
 rintro _ ⟨l, rfl, hl⟩
 refine ⟨fun _ => rfl, fun _ => none, ?_⟩
 show owed c86 (fun _ => none) Try.f86 [num4 l] (n4 (wv l % LQ))
 rw [vc86]
 simp (decide := true) only [addz, eq_self, true_and, and_true, ne_eq, not_false_eq_true]
 exact ⟨⟨_, _, rfl, hl.2, rfl⟩, ⟨_, rfl, okw_app hl.1 okw_zero, by rw [List.length_append, hl.2]; rfl⟩⟩
set_option maxRecDepth 100000 in
theorem m45 : Meets Try.prog 45 sp45 := by
 refine meets_of_owed (C := c45) ⟨tab_ok, lkS_ok ⟨m86, m85, trivial⟩⟩ (by kernel_rfl) (by kernel_rfl : Try.prog.funcs[45]? = some Try.f45) (by kernel_rfl) (by kernel_rfl) (by kernel_rfl) _ ?_
 rintro _ ⟨l, m, rfl, hl, hm⟩
 refine ⟨fun _ => rfl, fun _ => none, ?_⟩
 show owed c45 (fun _ => none) Try.f45 [num4 l, num4 m] (n4 ((wv l + wv m) % LQ))
 rw [vc45]
 have e : vB 18446744073709551616 (nB 18446744073709551616 4 (smN (wv l % LQ) (wv m % LQ))) = wv l % LQ + wv m % LQ := by
  have h1 := md_lt (wv l)
  have h2 := md_lt (wv m)
  have h3 := LQ_big
  unfold smN
  rw [Nat.mod_eq_of_lt (show wv l % LQ + wv m % LQ < 2 ^ 256 by omega)]
  exact n4v (by omega)
 unfold wv at e ⊢
 simp (decide := true) only [md_n4, e, eq_self, true_and, and_true, ne_eq, not_false_eq_true, ← Nat.add_mod]
 exact ⟨⟨_, rfl, hl⟩, ⟨_, rfl, hm⟩, ⟨_, _, rfl, isN_n4 _, isN_n4 _⟩, ⟨_, rfl, isN_n4 _⟩⟩
set_option maxRecDepth 100000 in
theorem m47 : Meets Try.prog 47 sp47 := by
 refine meets_of_owed (C := c47) ⟨tab_ok, lkS_ok ⟨m82, m87, m86, trivial⟩⟩ (by kernel_rfl) (by kernel_rfl : Try.prog.funcs[47]? = some Try.f47) (by kernel_rfl) (by kernel_rfl) (by kernel_rfl) _ ?_
 rintro _ ⟨l, rfl, hl⟩
 refine ⟨fun _ => rfl, fun _ => none, ?_⟩
 show owed c47 (fun _ => none) Try.f47 [num4 l] (n4 (ngS (wv l)))
 rw [vc47]
 have e : vB 18446744073709551616 (nB 18446744073709551616 4 (dif LQ (wv l % LQ))) = LQ - wv l % LQ := by
  have h1 := md_lt (wv l)
  have h3 := LQ_big
  have : dif LQ (wv l % LQ) = LQ - wv l % LQ := by
   unfold dif
   rw [show LQ + 2 ^ 256 - wv l % LQ = (LQ - wv l % LQ) + 2 ^ 256 by omega, Nat.add_mod_right, Nat.mod_eq_of_lt (by omega)]
  rw [this]
  exact n4v (by omega)
 unfold wv at e ⊢
 simp (decide := true) only [md_n4, LQ_n4, e, eq_self, true_and, and_true, ne_eq, not_false_eq_true]
 exact ⟨⟨_, rfl, hl⟩, ⟨_, _, rfl, isN_n4 _, isN_n4 _⟩, ⟨_, rfl, isN_n4 _⟩, rfl⟩
set_option maxRecDepth 100000 in
theorem m44 : Meets Try.prog 44 sp44 := by
 refine meets_of_owed (C := c44) ⟨tab_ok, lkS_ok ⟨m84, m83, trivial⟩⟩ (by kernel_rfl) (by kernel_rfl : Try.prog.funcs[44]? = some Try.f44) (by kernel_rfl) (by kernel_rfl) (by kernel_rfl) _ ?_
 rintro _ ⟨l, m, rfl, hl, hm⟩
 refine ⟨fun _ => rfl, fun _ => none, ?_⟩
 show owed c44 (fun _ => none) Try.f44 [num4 l, num4 m] (n4 (wv l * wv m % LQ))
 rw [vc44]
 have hA := wv_lt hl.1 hl.2
 have hB := wv_lt hm.1 hm.2
 unfold wv at hA hB ⊢
 have e : vB 18446744073709551616 (nB 18446744073709551616 8 (vB 18446744073709551616 l * vB 18446744073709551616 m)) = vB 18446744073709551616 l * vB 18446744073709551616 m := n8v (Nat.mul_lt_mul'' hA hB)
 simp (decide := true) only [e, eq_self, true_and, and_true, ne_eq, not_false_eq_true]
 exact ⟨⟨_, _, rfl, hl, hm⟩, ⟨_, rfl, nB_okw 8 _, nB_length _ _ _⟩⟩
set_option maxRecDepth 100000 in
theorem m48 : Meets Try.prog 48 sp48 := by
 refine meets_of_owed (C := c48) ⟨tab_ok, lkS_ok ⟨m88, m82, trivial⟩⟩ (by kernel_rfl) (by kernel_rfl : Try.prog.funcs[48]? = some Try.f48) (by kernel_rfl) (by kernel_rfl) (by kernel_rfl) _ ?_
 rintro _ ⟨l, rfl, hl⟩
 refine ⟨fun _ => rfl, fun _ => none, ?_⟩
 show owed c48 (fun _ => none) Try.f48 [num4 l] (n4 (ivS (wv l)))
 rw [vc48]
 have e : ivS (wv l) = ivX (wv l) LQ := by unfold ivS; rw [opq_eq, inv_fermat]
 rw [e]
 unfold wv
 simp (decide := true) only [LQ_n4, eq_self, true_and, and_true, ne_eq, not_false_eq_true]
 exact ⟨_, _, rfl, hl, isN_n4 _⟩
end Go.Proofs.Ytfbaghocbipbiaa
namespace Go.Proofs.Ytfbaghocbipbiaa
open Go Go.Vg
def powN (A N M : Nat) : Nat := A ^ N % M
def pwO (A N M i : Nat) : Nat := A ^ (N % 2 ^ i) % M
def pwA (A M i : Nat) : Nat := A ^ (2 ^ i) % M
def n256 (n : Nat) : Prop := n < 2 ^ 256
noncomputable def sp51 : Go.Vg.Spec := ⟨fun ds => ∃ a n m, ds = [dgs (dg a), dgs (dg n), dgs (dg m)] ∧ n256 a ∧ n256 n ∧ n256 m ∧ 0 < m, fun ds => dgs (dg (powN (vD (intsOf (ds.headD default))) (vD (intsOf (ds.getD 1 default))) (vD (intsOf (ds.getD 2 default))))), false, [33, 33, 33]⟩
noncomputable def c51 : Ctx := ⟨tab, lkS [(53, sp53), (90, sp90), (54, sp54)], [], []⟩
def inv51 (a n m : Nat) : Nat → Option Inv
 | 4 => some ⟨Nat, fun i => [(22, .d (i64 i)), (7, .d (dgs (dg (pwO a n m i)))), (0, .d (dgs (dg (pwA a m i))))], fun _ => [], fun s => (slotN s 22).toNat, fun _ i => i ≤ 16 * (dg n).length, fun i => 16 * (dg n).length - i⟩
 | _ => none
--KEEP Nat.gcd Go.Vg.eqB Go.Vg.vB Go.Vg.nB Go.Vg.okd Go.Vg.okw Go.Vg.dg Go.Vg.dig Go.Vg.trimL lenOk lenS len1 sbd sbb dif bor cmpN shf i64ok subL dvq dvr dve sbD adl adc mulL mulH stL stH smN smC addL addK TimI TimJ isN invN ivX ivE bl2 bitN rgO rgS rgI rgOk is8 redc OutI OutJ OutK powN pwO pwA pwR sbM adM mlM n256 rgNo m0x inM NwI
set_option maxRecDepth 100000 in
theorem vc51  (a n m : Nat) (F : D)  :
    (owed c51 (inv51 a n m) Try.f51 [dgs (dg a), dgs (dg n), dgs (dg m)] F) = (
 True ∧
 ((1 : Nat) = (1 : Nat) ∧ (1 : Nat) ≤ (4096 : Nat)) ∧
 True ∧
 (∃ (l : List Int), ∃ (m_1 : List Int), [D.ints IntKind.i64 [(1 : Int)], D.ints IntKind.i64 (dg m)] = [D.ints IntKind.i64 l, D.ints IntKind.i64 m_1] ∧ (okd l ∧ len1 l) ∧ (okd m_1 ∧ len1 m_1) ∧ vB (65536 : Nat) m_1 ≠ (0 : Nat)) ∧
 True ∧
 True ∧
 True ∧
 (∃ (l : List Int), ∃ (m_1 : List Int), [D.ints IntKind.i64 (dg a), D.ints IntKind.i64 (dg m)] = [D.ints IntKind.i64 l, D.ints IntKind.i64 m_1] ∧ (okd l ∧ len1 l) ∧ (okd m_1 ∧ len1 m_1) ∧ vB (65536 : Nat) m_1 ≠ (0 : Nat)) ∧
 True ∧
 True ∧
 True ∧
 True ∧
 True ∧
 (∃ (l : List Int), ∃ (n_1 : Int), [D.ints IntKind.i64 (dg n), D.val (Value.int IntKind.i64 (IntKind.i64.wrap ((16 : Int) * (↑(dg n).length : Int))))] = [D.ints IntKind.i64 l, D.val (Value.int IntKind.i64 n_1)] ∧ okd l ∧ lenOk l ∧ (0 : Int) ≤ n_1 ∧ n_1 ≤ (16777216 : Int)) ∧
 True ∧
 True ∧
 (((AV.d (D.val (Value.int IntKind.i64 (0 : Int))) = AV.d (D.val (Value.int IntKind.i64 (↑(Int.toNat (0 : Int)) : Int))) ∧
 AV.d (D.ints IntKind.i64 (dg (vB (65536 : Nat) [(1 : Int)] % vB (65536 : Nat) (dg m)))) = AV.d (D.ints IntKind.i64 (dg (pwO a n m (Int.toNat (0 : Int))))) ∧ AV.d (D.ints IntKind.i64 (dg (vB (65536 : Nat) (dg a) % vB (65536 : Nat) (dg m)))) = AV.d (D.ints IntKind.i64 (dg (pwA a m (Int.toNat (0 : Int))))) ∧ True) ∧
 True ∧ true = true) ∧
 Int.toNat (0 : Int) ≤ (16 : Nat) * (dg n).length) ∧
 ∀ (x : Nat),
 x ≤ (16 : Nat) * (dg n).length →
 true = true ∧
 True ∧
 match decide ((↑x : Int) < (↑(nB (2 : Nat) (IntKind.i64.wrap ((16 : Int) * (↑(dg n).length : Int))).toNat (vB (65536 : Nat) (dg n))).length : Int)) with
 | true =>
  ((0 : Int) ≤ (↑x : Int) ∧ (↑x : Int) < (↑(nB (2 : Nat) (IntKind.i64.wrap ((16 : Int) * (↑(dg n).length : Int))).toNat (vB (65536 : Nat) (dg n))).length : Int) ∧ (1 : Nat) = (1 : Nat)) ∧
  ((1 : Nat) ≠ (0 : Nat) ∧ (1 : Nat) = (1 : Nat) ∧ false = false) ∧
  True ∧
  True ∧
  True ∧
  match (nB (2 : Nat) (IntKind.i64.wrap ((16 : Int) * (↑(dg n).length : Int))).toNat (vB (65536 : Nat) (dg n))).getD (↑x : Int).toNat (0 : Int) == (1 : Int) with
  | true =>
   True ∧
   True ∧
   (∃ (l : List Int), ∃ (m_1 : List Int), [D.ints IntKind.i64 (dg (pwO a n m x)), D.ints IntKind.i64 (dg (pwA a m x))] = [D.ints IntKind.i64 l, D.ints IntKind.i64 m_1] ∧ (okd l ∧ lenS l) ∧ okd m_1 ∧ lenS m_1) ∧
   True ∧
   (∃ (l : List Int), ∃ (m_1 : List Int), [D.ints IntKind.i64 (dg (vB (65536 : Nat) (dg (pwO a n m x)) * vB (65536 : Nat) (dg (pwA a m x)))), D.ints IntKind.i64 (dg m)] = [D.ints IntKind.i64 l, D.ints IntKind.i64 m_1] ∧ (okd l ∧ len1 l) ∧ (okd m_1 ∧ len1 m_1) ∧ vB (65536 : Nat) m_1 ≠ (0 : Nat)) ∧
   True ∧
   True ∧
   True ∧
   (∃ (l : List Int), ∃ (m_1 : List Int), [D.ints IntKind.i64 (dg (pwA a m x)), D.ints IntKind.i64 (dg (pwA a m x))] = [D.ints IntKind.i64 l, D.ints IntKind.i64 m_1] ∧ (okd l ∧ lenS l) ∧ okd m_1 ∧ lenS m_1) ∧
   True ∧
   (∃ (l : List Int), ∃ (m_1 : List Int), [D.ints IntKind.i64 (dg (vB (65536 : Nat) (dg (pwA a m x)) * vB (65536 : Nat) (dg (pwA a m x)))), D.ints IntKind.i64 (dg m)] = [D.ints IntKind.i64 l, D.ints IntKind.i64 m_1] ∧ (okd l ∧ len1 l) ∧ (okd m_1 ∧ len1 m_1) ∧ vB (65536 : Nat) m_1 ≠ (0 : Nat)) ∧
   True ∧
   True ∧
   True ∧
   ((AV.d (D.val (Value.int IntKind.i64 (IntKind.i64.wrap ((↑x : Int) + (1 : Int))))) = AV.d (D.val (Value.int IntKind.i64 (↑(IntKind.i64.wrap ((↑x : Int) + (1 : Int))).toNat : Int))) ∧
   AV.d (D.ints IntKind.i64 (dg (vB (65536 : Nat) (dg (vB (65536 : Nat) (dg (pwO a n m x)) * vB (65536 : Nat) (dg (pwA a m x)))) % vB (65536 : Nat) (dg m)))) = AV.d (D.ints IntKind.i64 (dg (pwO a n m (IntKind.i64.wrap ((↑x : Int) + (1 : Int))).toNat))) ∧
   AV.d (D.ints IntKind.i64 (dg (vB (65536 : Nat) (dg (vB (65536 : Nat) (dg (pwA a m x)) * vB (65536 : Nat) (dg (pwA a m x)))) % vB (65536 : Nat) (dg m)))) = AV.d (D.ints IntKind.i64 (dg (pwA a m (IntKind.i64.wrap ((↑x : Int) + (1 : Int))).toNat))) ∧ True) ∧
   True ∧ true = true) ∧
   (IntKind.i64.wrap ((↑x : Int) + (1 : Int))).toNat ≤ (16 : Nat) * (dg n).length ∧ (16 : Nat) * (dg n).length - (IntKind.i64.wrap ((↑x : Int) + (1 : Int))).toNat < (16 : Nat) * (dg n).length - x
  | false =>
   True ∧
   True ∧
   (∃ (l : List Int), ∃ (m_1 : List Int), [D.ints IntKind.i64 (dg (pwA a m x)), D.ints IntKind.i64 (dg (pwA a m x))] = [D.ints IntKind.i64 l, D.ints IntKind.i64 m_1] ∧ (okd l ∧ lenS l) ∧ okd m_1 ∧ lenS m_1) ∧
   True ∧
   (∃ (l : List Int), ∃ (m_1 : List Int), [D.ints IntKind.i64 (dg (vB (65536 : Nat) (dg (pwA a m x)) * vB (65536 : Nat) (dg (pwA a m x)))), D.ints IntKind.i64 (dg m)] = [D.ints IntKind.i64 l, D.ints IntKind.i64 m_1] ∧ (okd l ∧ len1 l) ∧ (okd m_1 ∧ len1 m_1) ∧ vB (65536 : Nat) m_1 ≠ (0 : Nat)) ∧
   True ∧
   True ∧
   True ∧
   ((AV.d (D.val (Value.int IntKind.i64 (IntKind.i64.wrap ((↑x : Int) + (1 : Int))))) = AV.d (D.val (Value.int IntKind.i64 (↑(IntKind.i64.wrap ((↑x : Int) + (1 : Int))).toNat : Int))) ∧
   AV.d (D.ints IntKind.i64 (dg (pwO a n m x))) = AV.d (D.ints IntKind.i64 (dg (pwO a n m (IntKind.i64.wrap ((↑x : Int) + (1 : Int))).toNat))) ∧
   AV.d (D.ints IntKind.i64 (dg (vB (65536 : Nat) (dg (vB (65536 : Nat) (dg (pwA a m x)) * vB (65536 : Nat) (dg (pwA a m x)))) % vB (65536 : Nat) (dg m)))) = AV.d (D.ints IntKind.i64 (dg (pwA a m (IntKind.i64.wrap ((↑x : Int) + (1 : Int))).toNat))) ∧ True) ∧
   True ∧ true = true) ∧
   (IntKind.i64.wrap ((↑x : Int) + (1 : Int))).toNat ≤ (16 : Nat) * (dg n).length ∧ (16 : Nat) * (dg n).length - (IntKind.i64.wrap ((↑x : Int) + (1 : Int))).toNat < (16 : Nat) * (dg n).length - x
 | false => True ∧ True ∧ (false = false ∧ True) ∧ D.ints IntKind.i64 (dg (pwO a n m x)) = F) := by kernel_rfl
set_option exponentiation.threshold 2000 in
theorem mul512 {x y : Nat} (hx : x < 2 ^ 256) (hy : y < 2 ^ 256) : x * y < 2 ^ 512 := Nat.lt_of_lt_of_le (Nat.mul_lt_mul'' hx hy) (by rw [← Nat.pow_add]; exact Nat.le_refl _)
theorem lens {x : Nat} (h : x < 65536 ^ 64) : okd (dg x) ∧ len1 (dg x) ∧ lenS (dg x) ∧ lenOk (dg x) := by
 have := dg_len 64 x h
 exact ⟨dg_ok x, by unfold len1; omega, by unfold lenS; omega, by unfold lenOk; omega⟩
set_option exponentiation.threshold 2000 in
set_option maxRecDepth 100000 in
theorem lens2 {x : Nat} (h : x < 2 ^ 512) : okd (dg x) ∧ len1 (dg x) ∧ lenS (dg x) ∧ lenOk (dg x) := lens (Nat.lt_trans h (by decide))
theorem lens1 {x : Nat} (h : x < 2 ^ 256) : okd (dg x) ∧ len1 (dg x) ∧ lenS (dg x) ∧ lenOk (dg x) := lens (Nat.lt_trans h (by decide))
theorem pwO_zero (A N M : Nat) : pwO A N M 0 = 1 % M := by
 unfold pwO
 rw [Nat.pow_zero, Nat.mod_one, Nat.pow_zero]
theorem pwA_zero (A M : Nat) : pwA A M 0 = A % M := by
 unfold pwA
 rw [Nat.pow_zero, Nat.pow_one]
theorem pwA_step (A M i : Nat) : pwA A M i * pwA A M i % M = pwA A M (i + 1) := by
 unfold pwA
 rw [← Nat.mul_mod, ← Nat.pow_add, Nat.pow_succ, Nat.mul_two]
theorem pwO_one {A N M i : Nat} (h : N / 2 ^ i % 2 = 1) : pwO A N M i * pwA A M i % M = pwO A N M (i + 1) := by
 unfold pwO pwA
 rw [← Nat.mul_mod, ← Nat.pow_add, Nat.mod_pow_succ, h, Nat.mul_one]
theorem pwO_nil {A N M i : Nat} (h : N / 2 ^ i % 2 = 0) : pwO A N M i = pwO A N M (i + 1) := by
 unfold pwO
 rw [Nat.mod_pow_succ, h, Nat.mul_zero, Nat.add_zero]
set_option maxRecDepth 100000 in
theorem m51 : Meets Try.prog 51 sp51 := by
 refine meets_of_owed (C := c51) ⟨tab_ok, lkS_ok ⟨m53, m90, m54, trivial⟩⟩ (by kernel_rfl) (by kernel_rfl : Try.prog.funcs[51]? = some Try.f51) (by kernel_rfl) (by kernel_rfl) (by kernel_rfl) _ ?_
 rintro _ ⟨a, n, m, rfl, ha, hn, hm, hm0⟩
 refine ⟨fun h => (by cases h), inv51 a n m, ?_⟩
 show owed c51 (inv51 a n m) Try.f51 [dgs (dg a), dgs (dg n), dgs (dg m)] (dgs (dg (powN (vD (dg a)) (vD (dg n)) (vD (dg m)))))
 rw [vc51]
 have hL : (dg n).length ≤ 16 := dg_len 16 n (Nat.lt_of_lt_of_le hn (by decide))
 have w1 : IntKind.i64.wrap (16 * (((dg n).length : Nat) : Int)) = ((16 * (dg n).length : Nat) : Int) := by rw [wi (by omega) (by omega)]; omega
 have o1 : vB 65536 [(1 : Int)] = 1 := by decide
 have lO : ∀ i, pwO a n m i < 2 ^ 256 := fun i => Nat.lt_trans (Nat.mod_lt _ hm0) hm
 have lA : ∀ i, pwA a m i < 2 ^ 256 := fun i => Nat.lt_trans (Nat.mod_lt _ hm0) hm
 have hmd := lens1 hm
 have had := lens1 ha
 have hnd := lens1 hn
 have hz : ¬ m = 0 := by omega
 simp (decide := true) only [w1, o1, vl_dg, nB_length, eq_self, true_and, and_true, ne_eq, not_false_eq_true, Int.toNat_natCast, show Int.toNat 0 = 0 from rfl, pwO_zero, pwA_zero, pwA_step]
 refine ⟨⟨_, _, rfl, ⟨by unfold okd; decide, by unfold len1; decide⟩, ⟨hmd.1, hmd.2.1⟩, by rw [vl_dg]; exact hz⟩, ⟨_, _, rfl, ⟨had.1, had.2.1⟩, ⟨hmd.1, hmd.2.1⟩, by rw [vl_dg]; exact hz⟩, ⟨_, _, rfl, hnd.1, hnd.2.2.2, by omega, by omega⟩, ?_, ?_⟩
 ·and_intros <;> first | rfl | trivial | omega
 intro x hx
 have bA := lens1 (lA x)
 have bO := lens1 (lO x)
 have bAA := lens2 (mul512 (lA x) (lA x))
 have bOA := lens2 (mul512 (lO x) (lA x))
 have p1 : ∃ l q : List Int, [D.ints IntKind.i64 (dg (pwA a m x)), D.ints IntKind.i64 (dg (pwA a m x))] = [D.ints IntKind.i64 l, D.ints IntKind.i64 q] ∧ (okd l ∧ lenS l) ∧ okd q ∧ lenS q := ⟨_, _, rfl, ⟨bA.1, bA.2.2.1⟩, bA.1, bA.2.2.1⟩
 have p2 : ∃ l q : List Int, [D.ints IntKind.i64 (dg (pwA a m x * pwA a m x)), D.ints IntKind.i64 (dg m)] = [D.ints IntKind.i64 l, D.ints IntKind.i64 q] ∧ (okd l ∧ len1 l) ∧ (okd q ∧ len1 q) ∧ ¬ vB 65536 q = 0 := ⟨_, _, rfl, ⟨bAA.1, bAA.2.1⟩, ⟨hmd.1, hmd.2.1⟩, by rw [vl_dg]; exact hz⟩
 have p3 : ∃ l q : List Int, [D.ints IntKind.i64 (dg (pwO a n m x)), D.ints IntKind.i64 (dg (pwA a m x))] = [D.ints IntKind.i64 l, D.ints IntKind.i64 q] ∧ (okd l ∧ lenS l) ∧ okd q ∧ lenS q := ⟨_, _, rfl, ⟨bO.1, bO.2.2.1⟩, bA.1, bA.2.2.1⟩
 have p4 : ∃ l q : List Int, [D.ints IntKind.i64 (dg (pwO a n m x * pwA a m x)), D.ints IntKind.i64 (dg m)] = [D.ints IntKind.i64 l, D.ints IntKind.i64 q] ∧ (okd l ∧ len1 l) ∧ (okd q ∧ len1 q) ∧ ¬ vB 65536 q = 0 := ⟨_, _, rfl, ⟨bOA.1, bOA.2.1⟩, ⟨hmd.1, hmd.2.1⟩, by rw [vl_dg]; exact hz⟩
 split
 ·rename_i h
  have h := of_decide_eq_true h
  have hxl : x < 16 * (dg n).length := by omega
  have e1 : IntKind.i64.wrap ((x : Int) + 1) = ((x + 1 : Nat) : Int) := by rw [wi (by omega) (by omega)]; omega
  simp only [e1, Int.toNat_natCast]
  refine ⟨by omega, ?_⟩
  split
  ·rename_i h2
   have h2 := eq_of_beq h2
   rw [nB_get _ _ _ _ hxl] at h2
   simp only [pwO_one (A := a) (M := m) (show n / 2 ^ x % 2 = 1 by omega)]
   and_intros <;> first | exact p1 | exact p2 | exact p3 | exact p4 | rfl | trivial | omega
  ·rename_i h2
   have h3 : n / 2 ^ x % 2 ≠ 1 := fun e => by rw [nB_get _ _ _ _ hxl, e] at h2; exact absurd h2 (by decide)
   have e2 := pwO_nil (A := a) (M := m) (show n / 2 ^ x % 2 = 0 by omega)
   and_intros <;> first | exact p1 | exact p2 | exact p3 | exact p4 | rfl | trivial | omega | (rw [← e2])
 ·rename_i h
  have h := of_decide_eq_false h
  obtain rfl : x = 16 * (dg n).length := by omega
  have hnl := vB_lt (b := 65536) (l := dg n) (dg_ok n)
  rw [vl_dg, show (65536 : Nat) = 2 ^ 16 by decide, ← Nat.pow_mul] at hnl
  unfold pwO powN
  rw [Nat.mod_eq_of_lt hnl]
end Go.Proofs.Ytfbaghocbipbiaa
namespace Go.Proofs.Ytfbaghocbipbiaa
open Go Go.Vg
noncomputable def dgO (l : List Int) : List Int := opq (dg (vB 18446744073709551616 l))
noncomputable def dgL : List Int := opq (dg LQ)
noncomputable def sp50o : Go.Vg.Spec := ⟨fun ds => ∃ l, ds = [.ints .u64 l] ∧ okw l ∧ l.length ≤ 100, fun ds => dgs (dgO (intsOf (ds.headD default))), false, [119]⟩
noncomputable def sp42 : Go.Vg.Spec := ⟨fun ds => ds.length = 0, fun _ => dgs dgL, false, []⟩
noncomputable def c42 : Ctx := ⟨tab, lkS [(80, sp80), (50, sp50o), (55, sp55)], [], [2]⟩
--KEEP Nat.gcd Go.Vg.opq Go.Vg.eqB Go.Vg.vB Go.Vg.nB Go.Vg.okd Go.Vg.okw Go.Vg.dg Go.Vg.dig Go.Vg.trimL okb lenOk lenS len1 sbd sbb dif bor cmpN shf i64ok subL dvq dvr dve sbD adl adc mulL mulH stL stH smN smC addL addK TimI TimJ isN invN ivX ivE InvI LQ ngS ivS dgP dgO dgL
set_option maxRecDepth 100000 in
theorem vc42  (F : D)  :
    (owed c42 (fun _ => none) Try.f42 [] F) = (
 True ∧
 (∃ (n : Int), [D.val (Value.int IntKind.i64 (252 : Int))] = [D.val (Value.int IntKind.i64 n)] ∧ (0 : Int) ≤ n ∧ n ≤ (1048576 : Int)) ∧
 ((1 : Nat) = (1 : Nat) ∧ (2 : Nat) ≤ (4096 : Nat)) ∧
 (∃ (l : List Int), [D.ints IntKind.u64 [(6346243789798364141 : Int), (1503914060200516822 : Int)]] = [D.ints IntKind.u64 l] ∧ okw l ∧ l.length ≤ (100 : Nat)) ∧
 (∃ (l : List Int), ∃ (m : List Int), [D.ints IntKind.i64 (dgP (252 : Nat)), D.ints IntKind.i64 (dgO [(6346243789798364141 : Int), (1503914060200516822 : Int)])] = [D.ints IntKind.i64 l, D.ints IntKind.i64 m] ∧ (okd l ∧ lenS l) ∧ okd m ∧ lenS m) ∧
 True ∧ (false = false ∧ True) ∧ D.ints IntKind.i64 (dg (vB (65536 : Nat) (dgP (252 : Nat)) + vB (65536 : Nat) (dgO [(6346243789798364141 : Int), (1503914060200516822 : Int)]))) = F) := by kernel_rfl
theorem m50o : Meets Try.prog 50 sp50o := by
 have e : sp50o = sp50 := by
  unfold sp50o sp50 dgO
  simp only [opq_eq]
 rw [e]; exact m50
theorem vB_LQ : 2 ^ 252 + vB 18446744073709551616 [6346243789798364141, 1503914060200516822] = LQ := by kernel_rfl
set_option maxRecDepth 100000 in
theorem m42 : Meets Try.prog 42 sp42 := by
 refine meets_of_owed (C := c42) ⟨tab_ok, lkS_ok ⟨m80, m50o, m55, trivial⟩⟩ (by kernel_rfl) (by kernel_rfl : Try.prog.funcs[42]? = some Try.f42) (by kernel_rfl) (by kernel_rfl) (by kernel_rfl) _ ?_
 intro ds hds
 obtain rfl : ds = [] := List.eq_nil_of_length_eq_zero hds
 refine ⟨fun h => (by cases h), fun _ => none, ?_⟩
 show owed c42 (fun _ => none) Try.f42 [] (dgs dgL)
 rw [vc42]
 have e1 : dgP 252 = dg (2 ^ 252) := opq_eq _
 have e2 : dgO [6346243789798364141, 1503914060200516822] = dg (vB 18446744073709551616 [6346243789798364141, 1503914060200516822]) := opq_eq _
 have e3 : dgL = dg LQ := opq_eq _
 have l1 := lens1 (x := 2 ^ 252) (Nat.pow_lt_pow_right (by decide) (by decide))
 have l2 := lens1 (x := vB 18446744073709551616 [6346243789798364141, 1503914060200516822]) (by have := vB_LQ; have := LQ_lt; omega)
 rw [e1, e2, e3]
 simp only [vl_dg, vB_LQ, eq_self, true_and, and_true]
 refine ⟨⟨_, rfl, by decide, by decide⟩, by decide, ⟨_, rfl, ?_, by decide⟩, ⟨_, _, rfl, ⟨l1.1, l1.2.2.1⟩, l2.1, l2.2.2.1⟩⟩
 intro x hx
 simp at hx
 rcases hx with rfl | rfl <;> decide
end Go.Proofs.Ytfbaghocbipbiaa
namespace Go.Proofs.Ytfbaghocbipbiaa
open Go Go.Vg
abbrev sh_ (x : Int) (v : List Int) : D := .st [i64 x, num4 v]
def xOf (d : D) : Int := numOf (fldOf d 0)
def yOf (d : D) : Nat := wv (arrOf (fldOf d 1))
def isSh (d : D) : Prop := ∃ x v, d = sh_ x v ∧ isN v ∧ (-9223372036854775808 ≤ x ∧ x ≤ 9223372036854775807)
def oks (l : List D) : Prop := (∀ d ∈ l, isSh d) ∧ l.length ≤ 140737488351232
def hasX (x : Int) : List D → Bool
 | [] => false
 | d :: r => decide (xOf d = x) || hasX x r
def sfI (l : List D) (i : Nat) : Int :=
 if xOf (l.getD i default) < 1 ∨ 255 < xOf (l.getD i default) then 1
 else if LQ ≤ yOf (l.getD i default) then 1
 else if hasX (xOf (l.getD i default)) (l.take i) = true then 1 else 0
def sfN (l : List D) : Nat → Int
 | 0 => 0
 | n + 1 => if sfN l n = 0 then sfI l n else sfN l n
def sfE (l : List D) (x : Int) : Int := if 20 < l.length then 2 else if l.length = 0 ∨ x < 0 ∨ 255 < x then 1 else sfN l l.length
def tL (h : Nat → Bool) : List D := (List.range 256).map fun k => bl (h k)
def sp46 : Go.Vg.Spec := ⟨fun ds => ∃ n : Nat, ds = [i64 n] ∧ n < 9223372036854775808, fun ds => n4 (numOf (ds.headD default)).toNat, true, [3]⟩
def sp43 : Go.Vg.Spec := ⟨fun ds => ∃ l x, ds = [.slc 5 l, i64 x] ∧ oks l, fun ds => i64 (sfE (xsOf (ds.headD default)) (numOf (ds.getD 1 default))), true, [22, 3]⟩
def sp8 : Go.Vg.Spec := ⟨fun ds => ∃ l x, ds = [.slc 5 l, i64 x] ∧ oks l, fun ds => i64 (sfE (xsOf (ds.headD default)) (numOf (ds.getD 1 default))), true, [22, 3]⟩
noncomputable def sp49 : Go.Vg.Spec := ⟨fun ds => ∃ a b, ds = [dgs (dg a), dgs (dg b)] ∧ a < LQ ∧ b < LQ, fun ds => dgs (dg ((vD (intsOf (ds.headD default)) + LQ - vD (intsOf (ds.getD 1 default))) % LQ)), false, [33, 33]⟩
def c43 : Ctx := ⟨tab, lkS [(82, sp82), (81, sp81)], [], []⟩
noncomputable def c8 : Ctx := ⟨tab, lkS [(41, sp41), (42, sp42), (40, sp40)], [], []⟩
noncomputable def c49 : Ctx := ⟨tab, lkS [(42, sp42), (55, sp55), (52, sp52), (53, sp53)], [], []⟩
def inv43 (l : List D) : Nat → Option Inv
 | 7 => some ⟨Nat, fun i => [(24, .d (i64 i))], fun i => [(5, .fix (.st (tL fun k => hasX k (l.take i))))], fun s => (slotN s 24).toNat, fun _ i => i ≤ l.length ∧ sfN l i = 0, fun i => l.length - i⟩
 | _ => none
--KEEP Nat.gcd List.replicate Go.Vg.opq Go.Vg.eqB Go.Vg.vB Go.Vg.nB Go.Vg.okd Go.Vg.okw Go.Vg.dg Go.Vg.dig Go.Vg.trimL okb lenOk lenS len1 sbd sbb dif bor cmpN shf i64ok subL dvq dvr dve sbD adl adc mulL mulH stL stH smN smC addL addK TimI TimJ isN invN ivX ivE InvI LQ ngS ivS dgP dgO dgL xOf yOf isSh oks hasX sfI sfN sfE tL Go.Vg.ones
set_option maxRecDepth 100000 in
theorem vc46  (n : Nat) (F : D)  :
    (owed c0s (fun _ => none) Try.f46 [i64 n] F) = (
 (True ∧ (4 : Nat) ≠ (0 : Nat)) ∧
 True ∧ True ∧ ((1 : Nat) = (1 : Nat) ∧ false = false ∧ ((0 : Nat) < (4 : Nat) ∧ ([] : List Nat) = [] ∧ true = true) ∧ True) ∧ (Sk.arr (4 : Nat) = Sk.arr (4 : Nat) ∧ (4 : Nat) ≠ (0 : Nat) ∧ (4 : Nat) = (4 : Nat) ∧ false = false) ∧ (((4 : Nat) ≠ (0 : Nat) ∧ (4 : Nat) = (4 : Nat) ∧ true = true) ∧ True) ∧ D.arr IntKind.u64 (4 : Nat) [IntKind.u64.wrap (↑n : Int), (0 : Int), (0 : Int), (0 : Int)] = F) := by kernel_rfl
set_option maxRecDepth 100000 in
theorem vc49  (a b : Nat) (F : D)  :
    (owed c49 (fun _ => none) Try.f49 [dgs (dg a), dgs (dg b)] F) = (
 True ∧
 True ∧
 (0 : Nat) = (0 : Nat) ∧
 (∃ (l : List Int), ∃ (m : List Int), [D.ints IntKind.i64 (dg a), D.ints IntKind.i64 dgL] = [D.ints IntKind.i64 l, D.ints IntKind.i64 m] ∧ (okd l ∧ lenS l) ∧ okd m ∧ lenS m) ∧
 True ∧
 (∃ (l : List Int), ∃ (m : List Int), [D.ints IntKind.i64 (dg (vB (65536 : Nat) (dg a) + vB (65536 : Nat) dgL)), D.ints IntKind.i64 (dg b)] = [D.ints IntKind.i64 l, D.ints IntKind.i64 m] ∧ (okd l ∧ lenS l) ∧ (okd m ∧ lenS m) ∧ vB (65536 : Nat) m ≤ vB (65536 : Nat) l) ∧
 (0 : Nat) = (0 : Nat) ∧
 (∃ (l : List Int), ∃ (m : List Int), [D.ints IntKind.i64 (dg (vB (65536 : Nat) (dg (vB (65536 : Nat) (dg a) + vB (65536 : Nat) dgL)) - vB (65536 : Nat) (dg b))), D.ints IntKind.i64 dgL] = [D.ints IntKind.i64 l, D.ints IntKind.i64 m] ∧ (okd l ∧ len1 l) ∧ (okd m ∧ len1 m) ∧ vB (65536 : Nat) m ≠ (0 : Nat)) ∧
 True ∧ (false = false ∧ True) ∧ D.ints IntKind.i64 (dg (vB (65536 : Nat) (dg (vB (65536 : Nat) (dg (vB (65536 : Nat) (dg a) + vB (65536 : Nat) dgL)) - vB (65536 : Nat) (dg b))) % vB (65536 : Nat) dgL)) = F) := by kernel_rfl
set_option maxRecDepth 100000 in
theorem vc43  (l : List D) (x : Int) (F : D)  :
    (owed c43 (inv43 l) Try.f43 [.slc 5 l, i64 x] F) = (
 True ∧
 True ∧
 True ∧
 True ∧
 match decide ((↑l.length : Int) > (20 : Int)) with
 | true => True ∧ (false = false ∧ True) ∧ D.val (Value.int IntKind.i64 (2 : Int)) = F
 | false =>
  True ∧
  True ∧
  True ∧
  True ∧
  match (↑l.length : Int) == (0 : Int) with
  | true => True ∧ True ∧ True ∧ True ∧ (false = false ∧ True) ∧ D.val (Value.int IntKind.i64 (1 : Int)) = F
  | false =>
   True ∧
   True ∧
   True ∧
   True ∧
   match decide (x < (0 : Int)) with
   | true => True ∧ True ∧ (false = false ∧ True) ∧ D.val (Value.int IntKind.i64 (1 : Int)) = F
   | false =>
    True ∧
    True ∧
    True ∧
    match decide (x > (255 : Int)) with
    | true => True ∧ (false = false ∧ True) ∧ D.val (Value.int IntKind.i64 (1 : Int)) = F
    | false =>
     (True ∧ (256 : Nat) ≠ (0 : Nat)) ∧
     True ∧
     True ∧
     True ∧
     (((AV.d (D.val (Value.int IntKind.i64 (0 : Int))) = AV.d (D.val (Value.int IntKind.i64 (↑(Int.toNat (0 : Int)) : Int))) ∧ True) ∧
     (some
     (Blk.fix
     (D.st
     [D.val (Value.bool false), D.val (Value.bool false), D.val (Value.bool false), D.val (Value.bool false), D.val (Value.bool false), D.val (Value.bool false), D.val (Value.bool false), D.val (Value.bool false), D.val (Value.bool false), D.val (Value.bool false), D.val (Value.bool false), D.val (Value.bool false),
     D.val (Value.bool false), D.val (Value.bool false), D.val (Value.bool false), D.val (Value.bool false), D.val (Value.bool false), D.val (Value.bool false), D.val (Value.bool false), D.val (Value.bool false), D.val (Value.bool false), D.val (Value.bool false), D.val (Value.bool false), D.val (Value.bool false),
     D.val (Value.bool false), D.val (Value.bool false), D.val (Value.bool false), D.val (Value.bool false), D.val (Value.bool false), D.val (Value.bool false), D.val (Value.bool false), D.val (Value.bool false), D.val (Value.bool false), D.val (Value.bool false), D.val (Value.bool false), D.val (Value.bool false),
     D.val (Value.bool false), D.val (Value.bool false), D.val (Value.bool false), D.val (Value.bool false), D.val (Value.bool false), D.val (Value.bool false), D.val (Value.bool false), D.val (Value.bool false), D.val (Value.bool false), D.val (Value.bool false), D.val (Value.bool false), D.val (Value.bool false),
     D.val (Value.bool false), D.val (Value.bool false), D.val (Value.bool false), D.val (Value.bool false), D.val (Value.bool false), D.val (Value.bool false), D.val (Value.bool false), D.val (Value.bool false), D.val (Value.bool false), D.val (Value.bool false), D.val (Value.bool false), D.val (Value.bool false),
     D.val (Value.bool false), D.val (Value.bool false), D.val (Value.bool false), D.val (Value.bool false), D.val (Value.bool false), D.val (Value.bool false), D.val (Value.bool false), D.val (Value.bool false), D.val (Value.bool false), D.val (Value.bool false), D.val (Value.bool false), D.val (Value.bool false),
     D.val (Value.bool false), D.val (Value.bool false), D.val (Value.bool false), D.val (Value.bool false), D.val (Value.bool false), D.val (Value.bool false), D.val (Value.bool false), D.val (Value.bool false), D.val (Value.bool false), D.val (Value.bool false), D.val (Value.bool false), D.val (Value.bool false),
     D.val (Value.bool false), D.val (Value.bool false), D.val (Value.bool false), D.val (Value.bool false), D.val (Value.bool false), D.val (Value.bool false), D.val (Value.bool false), D.val (Value.bool false), D.val (Value.bool false), D.val (Value.bool false), D.val (Value.bool false), D.val (Value.bool false),
     D.val (Value.bool false), D.val (Value.bool false), D.val (Value.bool false), D.val (Value.bool false), D.val (Value.bool false), D.val (Value.bool false), D.val (Value.bool false), D.val (Value.bool false), D.val (Value.bool false), D.val (Value.bool false), D.val (Value.bool false), D.val (Value.bool false),
     D.val (Value.bool false), D.val (Value.bool false), D.val (Value.bool false), D.val (Value.bool false), D.val (Value.bool false), D.val (Value.bool false), D.val (Value.bool false), D.val (Value.bool false), D.val (Value.bool false), D.val (Value.bool false), D.val (Value.bool false), D.val (Value.bool false),
     D.val (Value.bool false), D.val (Value.bool false), D.val (Value.bool false), D.val (Value.bool false), D.val (Value.bool false), D.val (Value.bool false), D.val (Value.bool false), D.val (Value.bool false), D.val (Value.bool false), D.val (Value.bool false), D.val (Value.bool false), D.val (Value.bool false),
     D.val (Value.bool false), D.val (Value.bool false), D.val (Value.bool false), D.val (Value.bool false), D.val (Value.bool false), D.val (Value.bool false), D.val (Value.bool false), D.val (Value.bool false), D.val (Value.bool false), D.val (Value.bool false), D.val (Value.bool false), D.val (Value.bool false),
     D.val (Value.bool false), D.val (Value.bool false), D.val (Value.bool false), D.val (Value.bool false), D.val (Value.bool false), D.val (Value.bool false), D.val (Value.bool false), D.val (Value.bool false), D.val (Value.bool false), D.val (Value.bool false), D.val (Value.bool false), D.val (Value.bool false),
     D.val (Value.bool false), D.val (Value.bool false), D.val (Value.bool false), D.val (Value.bool false), D.val (Value.bool false), D.val (Value.bool false), D.val (Value.bool false), D.val (Value.bool false), D.val (Value.bool false), D.val (Value.bool false), D.val (Value.bool false), D.val (Value.bool false),
     D.val (Value.bool false), D.val (Value.bool false), D.val (Value.bool false), D.val (Value.bool false), D.val (Value.bool false), D.val (Value.bool false), D.val (Value.bool false), D.val (Value.bool false), D.val (Value.bool false), D.val (Value.bool false), D.val (Value.bool false), D.val (Value.bool false),
     D.val (Value.bool false), D.val (Value.bool false), D.val (Value.bool false), D.val (Value.bool false), D.val (Value.bool false), D.val (Value.bool false), D.val (Value.bool false), D.val (Value.bool false), D.val (Value.bool false), D.val (Value.bool false), D.val (Value.bool false), D.val (Value.bool false),
     D.val (Value.bool false), D.val (Value.bool false), D.val (Value.bool false), D.val (Value.bool false), D.val (Value.bool false), D.val (Value.bool false), D.val (Value.bool false), D.val (Value.bool false), D.val (Value.bool false), D.val (Value.bool false), D.val (Value.bool false), D.val (Value.bool false),
     D.val (Value.bool false), D.val (Value.bool false), D.val (Value.bool false), D.val (Value.bool false), D.val (Value.bool false), D.val (Value.bool false), D.val (Value.bool false), D.val (Value.bool false), D.val (Value.bool false), D.val (Value.bool false), D.val (Value.bool false), D.val (Value.bool false),
     D.val (Value.bool false), D.val (Value.bool false), D.val (Value.bool false), D.val (Value.bool false), D.val (Value.bool false), D.val (Value.bool false), D.val (Value.bool false), D.val (Value.bool false), D.val (Value.bool false), D.val (Value.bool false), D.val (Value.bool false), D.val (Value.bool false),
     D.val (Value.bool false), D.val (Value.bool false), D.val (Value.bool false), D.val (Value.bool false), D.val (Value.bool false), D.val (Value.bool false), D.val (Value.bool false), D.val (Value.bool false), D.val (Value.bool false), D.val (Value.bool false), D.val (Value.bool false), D.val (Value.bool false),
     D.val (Value.bool false), D.val (Value.bool false), D.val (Value.bool false), D.val (Value.bool false), D.val (Value.bool false), D.val (Value.bool false), D.val (Value.bool false), D.val (Value.bool false), D.val (Value.bool false), D.val (Value.bool false), D.val (Value.bool false), D.val (Value.bool false),
     D.val (Value.bool false), D.val (Value.bool false), D.val (Value.bool false), D.val (Value.bool false)])) =
     some (Blk.fix (D.st (tL fun (k : Nat) => hasX (↑k : Int) (List.take (Int.toNat (0 : Int)) l)))) ∧
     True) ∧
     true = true) ∧
     Int.toNat (0 : Int) ≤ l.length ∧ sfN l (Int.toNat (0 : Int)) = (0 : Int)) ∧
     ∀ (x : Nat),
     x ≤ l.length ∧ sfN l x = (0 : Int) →
     true = true ∧
     True ∧
     match decide ((↑x : Int) < (↑l.length : Int)) with
     | true =>
      ((0 : Int) ≤ (↑x : Int) ∧
      (↑x : Int) < (↑l.length : Int) ∧
      (5 : Nat) ≠ (0 : Nat) ∧ (5 : Nat) = (5 : Nat) ∧ D.st [D.val (Value.int IntKind.i64 (numOf (fldOf (l.getD (↑x : Int).toNat (D.val (Value.bool false))) (0 : Nat)))), D.arr IntKind.u64 (4 : Nat) (arrOf (fldOf (l.getD (↑x : Int).toNat (D.val (Value.bool false))) (1 : Nat)))] = l.getD (↑x : Int).toNat (D.val (Value.bool false))) ∧
      ((5 : Nat) ≠ (0 : Nat) ∧ (5 : Nat) = (5 : Nat) ∧ true = true) ∧
      (True ∧ (5 : Nat) ≠ (0 : Nat)) ∧
      (Sk.st [Sk.one, Sk.arr (4 : Nat)] = Sk.st [Sk.one, Sk.arr (4 : Nat)] ∧ (5 : Nat) ≠ (0 : Nat) ∧ (5 : Nat) = (5 : Nat) ∧ false = false) ∧
      (Sk.st [Sk.one, Sk.arr (4 : Nat)] = Sk.st [Sk.one, Sk.arr (4 : Nat)] ∧ (0 : Nat) < (2 : Nat)) ∧
      ((1 : Nat) ≠ (0 : Nat) ∧ (1 : Nat) = (1 : Nat) ∧ false = false) ∧
      True ∧
      True ∧
      match decide (numOf (fldOf (l.getD (↑x : Int).toNat (D.val (Value.bool false))) (0 : Nat)) < (1 : Int)) with
      | true => True ∧ True ∧ True ∧ True ∧ True ∧ True ∧ (false = false ∧ True) ∧ D.val (Value.int IntKind.i64 (1 : Int)) = F
      | false =>
       (Sk.st [Sk.one, Sk.arr (4 : Nat)] = Sk.st [Sk.one, Sk.arr (4 : Nat)] ∧ (0 : Nat) < (2 : Nat)) ∧
       ((1 : Nat) ≠ (0 : Nat) ∧ (1 : Nat) = (1 : Nat) ∧ false = false) ∧
       True ∧
       True ∧
       True ∧
       match decide (numOf (fldOf (l.getD (↑x : Int).toNat (D.val (Value.bool false))) (0 : Nat)) > (255 : Int)) with
       | true => True ∧ True ∧ True ∧ True ∧ (false = false ∧ True) ∧ D.val (Value.int IntKind.i64 (1 : Int)) = F
       | false =>
        (Sk.st [Sk.one, Sk.arr (4 : Nat)] = Sk.st [Sk.one, Sk.arr (4 : Nat)] ∧ (1 : Nat) < (2 : Nat)) ∧
        ((4 : Nat) ≠ (0 : Nat) ∧ (4 : Nat) = (4 : Nat) ∧ true = true) ∧
        (0 : Nat) = (0 : Nat) ∧
        (∃ (l_1 : List Int),
        ∃ (m : List Int),
        [D.arr IntKind.u64 (4 : Nat) (arrOf (fldOf (l.getD (↑x : Int).toNat (D.val (Value.bool false))) (1 : Nat))), D.arr IntKind.u64 (4 : Nat) (nB (18446744073709551616 : Nat) (4 : Nat) LQ)] = [D.arr IntKind.u64 (4 : Nat) l_1, D.arr IntKind.u64 (4 : Nat) m] ∧
        (okw l_1 ∧ l_1.length = (4 : Nat)) ∧ okw m ∧ m.length = (4 : Nat)) ∧
        True ∧
        True ∧
        True ∧
        match decide (cmpN (vB (18446744073709551616 : Nat) (arrOf (fldOf (l.getD (↑x : Int).toNat (D.val (Value.bool false))) (1 : Nat)))) (vB (18446744073709551616 : Nat) (nB (18446744073709551616 : Nat) (4 : Nat) LQ)) ≥ (0 : Int)) with
        | true => True ∧ True ∧ (false = false ∧ True) ∧ D.val (Value.int IntKind.i64 (1 : Int)) = F
        | false =>
         (Sk.st [Sk.one, Sk.arr (4 : Nat)] = Sk.st [Sk.one, Sk.arr (4 : Nat)] ∧ (0 : Nat) < (2 : Nat)) ∧
         ((1 : Nat) ≠ (0 : Nat) ∧ (1 : Nat) = (1 : Nat) ∧ false = false) ∧
         ((0 : Int) ≤ numOf (fldOf (l.getD (↑x : Int).toNat (D.val (Value.bool false))) (0 : Nat)) ∧
         numOf (fldOf (l.getD (↑x : Int).toNat (D.val (Value.bool false))) (0 : Nat)) < (↑(256 : Nat) : Int) ∧ (tL fun (k : Nat) => hasX (↑k : Int) (List.take x l)).length = (256 : Nat) ∧ ones (tL fun (k : Nat) => hasX (↑k : Int) (List.take x l)) ∧ (1 : Nat) = (1 : Nat)) ∧
         (((1 : Nat) ≠ (0 : Nat) ∧
         (sk ((tL fun (k : Nat) => hasX (↑k : Int) (List.take x l)).getD (numOf (fldOf (l.getD (↑x : Int).toNat (D.val (Value.bool false))) (0 : Nat))).toNat (D.val (Value.bool false)))).size = (1 : Nat) ∧
         ((tL fun (k : Nat) => hasX (↑k : Int) (List.take x l)).getD (numOf (fldOf (l.getD (↑x : Int).toNat (D.val (Value.bool false))) (0 : Nat))).toNat (D.val (Value.bool false))).isAgg = false) ∧
         D.val (Value.bool (boolOf ((tL fun (k : Nat) => hasX (↑k : Int) (List.take x l)).getD (numOf (fldOf (l.getD (↑x : Int).toNat (D.val (Value.bool false))) (0 : Nat))).toNat (D.val (Value.bool false))))) =
         (tL fun (k : Nat) => hasX (↑k : Int) (List.take x l)).getD (numOf (fldOf (l.getD (↑x : Int).toNat (D.val (Value.bool false))) (0 : Nat))).toNat (D.val (Value.bool false))) ∧
         True ∧
         match boolOf ((tL fun (k : Nat) => hasX (↑k : Int) (List.take x l)).getD (numOf (fldOf (l.getD (↑x : Int).toNat (D.val (Value.bool false))) (0 : Nat))).toNat (D.val (Value.bool false))) with
         | true => True ∧ (false = false ∧ True) ∧ D.val (Value.int IntKind.i64 (1 : Int)) = F
         | false =>
          (Sk.st [Sk.one, Sk.arr (4 : Nat)] = Sk.st [Sk.one, Sk.arr (4 : Nat)] ∧ (0 : Nat) < (2 : Nat)) ∧
          ((1 : Nat) ≠ (0 : Nat) ∧ (1 : Nat) = (1 : Nat) ∧ false = false) ∧
          ((0 : Int) ≤ numOf (fldOf (l.getD (↑x : Int).toNat (D.val (Value.bool false))) (0 : Nat)) ∧
          numOf (fldOf (l.getD (↑x : Int).toNat (D.val (Value.bool false))) (0 : Nat)) < (↑(256 : Nat) : Int) ∧ (tL fun (k : Nat) => hasX (↑k : Int) (List.take x l)).length = (256 : Nat) ∧ ones (tL fun (k : Nat) => hasX (↑k : Int) (List.take x l)) ∧ (1 : Nat) = (1 : Nat)) ∧
          (((numOf (fldOf (l.getD (↑x : Int).toNat (D.val (Value.bool false))) (0 : Nat))).toNat < (tL fun (k : Nat) => hasX (↑k : Int) (List.take x l)).length ∧
          Sk.one = sk ((tL fun (k : Nat) => hasX (↑k : Int) (List.take x l)).getD (numOf (fldOf (l.getD (↑x : Int).toNat (D.val (Value.bool false))) (0 : Nat))).toNat (D.val (Value.bool false)))) ∧
          (1 : Nat) ≠ (0 : Nat) ∧ (1 : Nat) = (1 : Nat) ∧ false = false) ∧
          True ∧
          True ∧
          ((AV.d (D.val (Value.int IntKind.i64 (IntKind.i64.wrap ((↑x : Int) + (1 : Int))))) = AV.d (D.val (Value.int IntKind.i64 (↑(IntKind.i64.wrap ((↑x : Int) + (1 : Int))).toNat : Int))) ∧ True) ∧
          (some (Blk.fix (D.st ((tL fun (k : Nat) => hasX (↑k : Int) (List.take x l)).set (numOf (fldOf (l.getD (↑x : Int).toNat (D.val (Value.bool false))) (0 : Nat))).toNat (D.val (Value.bool true))))) =
          some (Blk.fix (D.st (tL fun (k : Nat) => hasX (↑k : Int) (List.take (IntKind.i64.wrap ((↑x : Int) + (1 : Int))).toNat l)))) ∧
          True) ∧
          true = true) ∧
          ((IntKind.i64.wrap ((↑x : Int) + (1 : Int))).toNat ≤ l.length ∧ sfN l (IntKind.i64.wrap ((↑x : Int) + (1 : Int))).toNat = (0 : Int)) ∧ l.length - (IntKind.i64.wrap ((↑x : Int) + (1 : Int))).toNat < l.length - x
     | false => True ∧ (false = false ∧ True) ∧ D.val (Value.int IntKind.i64 (0 : Int)) = F) := by kernel_rfl
end Go.Proofs.Ytfbaghocbipbiaa
namespace Go.Proofs.Ytfbaghocbipbiaa
open Go Go.Vg
theorem tL_len (h : Nat → Bool) : (tL h).length = 256 := by simp [tL]
theorem tL_get (h : Nat → Bool) {k : Nat} (hk : k < 256) (x : D) : (tL h).getD k x = bl (h k) := by
 rw [List.getD_eq_getElem?_getD, tL, List.getElem?_map, List.getElem?_range hk]; rfl
theorem tL_set (h : Nat → Bool) (k : Nat) (b : Bool) : (tL h).set k (bl b) = tL fun j => if j = k then b else h j := by
 unfold tL
 refine List.ext_getElem (by simp) fun j h1 h2 => ?_
 simp only [List.getElem_set, List.getElem_map, List.getElem_range]
 by_cases e : k = j
 ·rw [if_pos e, if_pos e.symm]
 ·rw [if_neg e, if_neg (fun a => e a.symm)]
theorem tL_congr {h g : Nat → Bool} (e : ∀ k, k < 256 → h k = g k) : tL h = tL g :=
 List.map_congr_left fun k hk => by rw [e k (List.mem_range.1 hk)]
theorem tL_ones (h : Nat → Bool) : Go.Vg.ones (tL h) := by
 intro d hd
 obtain ⟨k, _, rfl⟩ := List.mem_map.1 hd
 rfl
theorem elS {l : List D} (h : oks l) {x : Nat} (hx : x < l.length) : ∃ k v, l.getD x (.val (.bool false)) = sh_ k v ∧ isN v ∧ (-9223372036854775808 ≤ k ∧ k ≤ 9223372036854775807) := by
 have hm : l.getD x (.val (.bool false)) ∈ l := by
  rw [List.getD_eq_getElem?_getD, List.getElem?_eq_getElem hx]
  exact List.getElem_mem hx
 obtain ⟨k, v, e, h1, h2⟩ := h.1 _ hm
 exact ⟨k, v, e, h1, h2⟩
theorem hasX_app (k : Int) (d : D) : ∀ l : List D, hasX k (l ++ [d]) = (hasX k l || decide (xOf d = k))
 | [] => by simp [hasX]
 | x :: r => by rw [List.cons_append, hasX, hasX, hasX_app k d r, Bool.or_assoc]
theorem takeS {l : List D} {i : Nat} (h : i < l.length) : l.take (i + 1) = l.take i ++ [l.getD i default] := by
 rw [List.take_add_one, List.getD_eq_getElem?_getD, List.getElem?_eq_getElem h]; rfl
theorem sfN_stop {l : List D} {n : Nat} (h : sfN l n ≠ 0) : ∀ m, n ≤ m → sfN l m = sfN l n
 | 0, hm => by
  obtain rfl : n = 0 := by omega
  rfl
 | m + 1, hm => by
  by_cases e : n = m + 1
  ·rw [e]
  ·have ih := sfN_stop h m (by omega)
   rw [sfN, if_neg (by rw [ih]; exact h), ih]
theorem sf_at {l : List D} {x : Nat} (hx : x < l.length) (h0 : sfN l x = 0) {e : Int} (hI : sfI l x = e) (he : e ≠ 0) : sfN l l.length = e := by
 have h1 : sfN l (x + 1) = e := by rw [sfN, if_pos h0]; exact hI
 rw [sfN_stop (n := x + 1) (by rw [h1]; exact he) l.length hx, h1]
theorem sf_step {l : List D} {x : Nat} (h0 : sfN l x = 0) (hI : sfI l x = 0) : sfN l (x + 1) = 0 := by rw [sfN, if_pos h0]; exact hI
theorem tL_snoc {l : List D} {x n : Nat} (hx : x < l.length) (e : xOf (l.getD x default) = n) :
  (tL fun j => if j = n then true else hasX j (l.take x)) = tL fun j => hasX j (l.take (x + 1)) := by
 refine tL_congr fun j _ => ?_
 rw [takeS hx, hasX_app, e]
 by_cases h : j = n
 ·subst h; rw [if_pos rfl, decide_eq_true rfl, Bool.or_true]
 ·rw [if_neg h, decide_eq_false (show ¬(n : Int) = j by omega), Bool.or_false]
theorem s0 (k : Int) (v : List Int) : numOf (fldOf (sh_ k v) 0) = k := rfl
theorem s1 (k : Int) (v : List Int) : arrOf (fldOf (sh_ k v) 1) = v := rfl
theorem skb (b : Bool) : sk (bl b) = .one := rfl
theorem skz : Sk.one.size = 1 := rfl
theorem agb (b : Bool) : (bl b).isAgg = false := rfl
theorem bob (b : Bool) : boolOf (bl b) = b := rfl
theorem wSS {x n : Nat} (h : x < n) (hn : n ≤ 140737488351232) : IntKind.i64.wrap ((x : Int) + 1) = ((x + 1 : Nat) : Int) := by
 rw [show (x : Int) + 1 = ((x + 1 : Nat) : Int) by omega, wNi (n := x + 1) (by omega)]
theorem cmp_ge (a b : Nat) : decide (cmpN a b ≥ 0) = decide (b ≤ a) := by
 rw [decide_eq_decide]
 unfold cmpN
 split
 ·omega
 ·split <;> omega
set_option maxRecDepth 100000 in
theorem m46 : Meets Try.prog 46 sp46 := by
 refine meets_of_owed (C := c0s) ⟨tab_ok, fun f s h => by cases h⟩ (by kernel_rfl) (by kernel_rfl : Try.prog.funcs[46]? = some Try.f46) (by kernel_rfl) (by kernel_rfl) (by kernel_rfl) _ ?_
 rintro _ ⟨n, rfl, hn⟩
 refine ⟨fun _ => rfl, fun _ => none, ?_⟩
 show owed c0s (fun _ => none) Try.f46 [i64 n] (n4 n)
 rw [vc46]
 have e : IntKind.u64.wrap (n : Int) = (n : Int) := wu (by omega) (by omega)
 have e2 : nB 18446744073709551616 4 n = [(n : Int), 0, 0, 0] := by
  have h1 : n % 18446744073709551616 = n := Nat.mod_eq_of_lt (by omega)
  have h2 : n / 18446744073709551616 = 0 := Nat.div_eq_of_lt (by omega)
  simp [nB, h1, h2]
 show _ ∧ _
 rw [e]
 and_intros <;> first | trivial | rfl | decide | (intro h; cases h) | exact congrArg (fun z => D.arr .u64 4 z) e2.symm
set_option maxRecDepth 100000 in
theorem m49 : Meets Try.prog 49 sp49 := by
 refine meets_of_owed (C := c49) ⟨tab_ok, lkS_ok ⟨m42, m55, m52, m53, trivial⟩⟩ (by kernel_rfl) (by kernel_rfl : Try.prog.funcs[49]? = some Try.f49) (by kernel_rfl) (by kernel_rfl) (by kernel_rfl) _ ?_
 rintro _ ⟨a, b, rfl, ha, hb⟩
 refine ⟨fun h => (by cases h), fun _ => none, ?_⟩
 show owed c49 (fun _ => none) Try.f49 [dgs (dg a), dgs (dg b)] (dgs (dg ((vD (dg a) + LQ - vD (dg b)) % LQ)))
 rw [vc49]
 have e3 : dgL = dg LQ := opq_eq _
 have hb2 := LQ_big
 have la := lens1 (x := a) (by omega)
 have lb := lens1 (x := b) (by omega)
 have lq := lens1 LQ_lt
 have ls := lens1 (x := a + LQ) (by omega)
 have lm := lens1 (x := a + LQ - b) (by omega)
 have hq := LQ_pos
 rw [e3]
 simp only [vl_dg, eq_self, true_and, and_true]
 exact ⟨⟨_, _, rfl, ⟨la.1, la.2.2.1⟩, lq.1, lq.2.2.1⟩, ⟨_, _, rfl, ⟨ls.1, ls.2.2.1⟩, ⟨lb.1, lb.2.2.1⟩, by rw [vl_dg, vl_dg]; omega⟩, ⟨_, _, rfl, ⟨lm.1, lm.2.1⟩, ⟨lq.1, lq.2.1⟩, by rw [vl_dg]; omega⟩⟩
set_option maxRecDepth 100000 in
theorem m43 : Meets Try.prog 43 sp43 := by
 refine meets_of_owed (C := c43) ⟨tab_ok, lkS_ok ⟨m82, m81, trivial⟩⟩ (by kernel_rfl) (by kernel_rfl : Try.prog.funcs[43]? = some Try.f43) (by kernel_rfl) (by kernel_rfl) (by kernel_rfl) _ ?_
 rintro _ ⟨l, z, rfl, hl⟩
 refine ⟨fun _ => rfl, inv43 l, ?_⟩
 show owed c43 (inv43 l) Try.f43 [.slc 5 l, i64 z] (i64 (sfE l z))
 have hl2 := hl.2
 rw [vc43]
 simp (decide := true) only [LQ_n4, cmp_ge, eq_self, true_and, and_true, ne_eq, not_false_eq_true]
 unfold sfE
 split
 ·rename_i h
  have h := of_decide_eq_true h
  rw [if_pos (by omega)]
 rename_i h20
 have h20 : ¬ 20 < l.length := by have := of_decide_eq_false h20; omega
 rw [if_neg h20]
 split
 ·rename_i h
  have h := eq_of_beq h
  rw [if_pos (.inl (by omega))]
 rename_i hz
 have hz : l.length ≠ 0 := fun e => by rw [e] at hz; exact absurd hz (by decide)
 split
 ·rename_i h
  rw [if_pos (.inr (.inl (of_decide_eq_true h)))]
 rename_i hx0
 have hx0 := of_decide_eq_false hx0
 split
 ·rename_i h
  rw [if_pos (.inr (.inr (of_decide_eq_true h)))]
 rename_i hx1
 have hx1 := of_decide_eq_false hx1
 rw [if_neg (by omega)]
 refine ⟨?_, ?_⟩
 ·and_intros <;> first | rfl | exact Nat.zero_le _
 rintro x ⟨hx, h0⟩
 split
 ·rename_i h
  have h : x < l.length := by have := of_decide_eq_true h; omega
  obtain ⟨k, v, e, hv, hk⟩ := elS hl h
  have ek : xOf (l.getD x default) = k := by rw [show l.getD x default = sh_ k v from e]; rfl
  have ey : yOf (l.getD x default) = vB 18446744073709551616 v := by rw [show l.getD x default = sh_ k v from e]; rfl
  simp only [Int.toNat_natCast, e, s0, s1, wSS h hl2]
  refine ⟨⟨by omega, by omega, trivial⟩, ?_⟩
  split
  ·rename_i h3
   have h3 := of_decide_eq_true h3
   rw [sf_at h h0 (e := 1) (by unfold sfI; rw [ek, if_pos (.inl h3)]) (by decide)]
  rename_i h3
  have h3 := of_decide_eq_false h3
  split
  ·rename_i h4
   have h4 := of_decide_eq_true h4
   rw [sf_at h h0 (e := 1) (by unfold sfI; rw [ek, if_pos (.inr h4)]) (by decide)]
  rename_i h4
  have h4 := of_decide_eq_false h4
  obtain ⟨n, rfl⟩ : ∃ n : Nat, k = n := ⟨k.toNat, by omega⟩
  have hn : n < 256 := by omega
  refine ⟨⟨_, _, rfl, hv, isN_n4 LQ⟩, ?_⟩
  split
  ·rename_i h5
   have h5 := of_decide_eq_true h5
   rw [sf_at h h0 (e := 1) (by unfold sfI; rw [ek, ey, if_neg (by omega), if_pos h5]) (by decide)]
  rename_i h5
  have h5 := of_decide_eq_false h5
  simp only [Int.toNat_natCast, tL_get _ hn, tL_len, eq_true (tL_ones _), skb, skz, agb, bob, tL_set, true_and, and_true]
  have a1 : (0 : Int) ≤ (n : Int) ∧ (n : Int) < ((256 : Nat) : Int) := by omega
  refine ⟨a1, ?_⟩
  cases hh : hasX (n : Int) (l.take x)
  ·simp only
   have := tL_snoc h ek
   refine ⟨a1, hn, ?_, ⟨h, sf_step h0 ?_⟩, by omega⟩
   ·rw [this]
   ·unfold sfI
    rw [ek, ey, if_neg (by omega), if_neg h5, hh, if_neg (by decide)]
  ·simp only
   rw [sf_at h h0 (e := 1) (by unfold sfI; rw [ek, ey, if_neg (by omega), if_neg h5, hh, if_pos rfl]) (by decide)]
 ·rename_i h
  have h := of_decide_eq_false h
  obtain rfl : x = l.length := by omega
  rw [h0]
end Go.Proofs.Ytfbaghocbipbiaa
namespace Go.Proofs.Ytfbaghocbipbiaa
open Go Go.Vg
def inv8 (l : List D) : Nat → Option Inv
 | 6 => some ⟨Nat, fun i => [(25, .d (i64 i))], fun _ => [], fun s => (slotN s 25).toNat, fun _ i => i ≤ l.length ∧ sfN l i = 0, fun i => l.length - i⟩
 | 11 => some ⟨Nat, fun j => [(50, .d (i64 j))], fun _ => [], fun s => (slotN s 50).toNat, fun s j => j ≤ (slotN s 5).toNat ∧ hasX (xOf (l.getD (slotN s 5).toNat default)) (l.take j) = false, fun j => l.length - j⟩
 | _ => none
--KEEP Nat.gcd List.replicate Go.Vg.opq Go.Vg.eqB Go.Vg.vB Go.Vg.nB Go.Vg.okd Go.Vg.okw Go.Vg.dg Go.Vg.dig Go.Vg.trimL okb lenOk lenS len1 sbd sbb dif bor cmpN shf i64ok subL dvq dvr dve sbD adl adc mulL mulH stL stH smN smC addL addK TimI TimJ isN invN ivX ivE InvI LQ ngS ivS dgP dgO dgL xOf yOf isSh oks hasX sfI sfN sfE tL
set_option maxRecDepth 100000 in
theorem vc8  (l : List D) (x : Int) (F : D)  :
    (owed c8 (inv8 l) Try.f8 [.slc 5 l, i64 x] F) = (
 True ∧
 True ∧
 True ∧
 True ∧
 match decide ((↑l.length : Int) > (20 : Int)) with
 | true => True ∧ (false = false ∧ True) ∧ D.val (Value.int IntKind.i64 (2 : Int)) = F
 | false =>
  True ∧
  True ∧
  True ∧
  True ∧
  match (↑l.length : Int) == (0 : Int) with
  | true => True ∧ True ∧ True ∧ True ∧ (false = false ∧ True) ∧ D.val (Value.int IntKind.i64 (1 : Int)) = F
  | false =>
   True ∧
   True ∧
   True ∧
   True ∧
   match decide (x < (0 : Int)) with
   | true => True ∧ True ∧ (false = false ∧ True) ∧ D.val (Value.int IntKind.i64 (1 : Int)) = F
   | false =>
    True ∧
    True ∧
    True ∧
    match decide (x > (255 : Int)) with
    | true => True ∧ (false = false ∧ True) ∧ D.val (Value.int IntKind.i64 (1 : Int)) = F
    | false =>
     True ∧
     True ∧
     True ∧
     (((AV.d (D.val (Value.int IntKind.i64 (0 : Int))) = AV.d (D.val (Value.int IntKind.i64 (↑(Int.toNat (0 : Int)) : Int))) ∧ True) ∧ True ∧ true = true) ∧ Int.toNat (0 : Int) ≤ l.length ∧ sfN l (Int.toNat (0 : Int)) = (0 : Int)) ∧
     ∀ (x : Nat),
     x ≤ l.length ∧ sfN l x = (0 : Int) →
     true = true ∧
     True ∧
     match decide ((↑x : Int) < (↑l.length : Int)) with
     | true =>
      True ∧
      ((0 : Int) ≤ (↑x : Int) ∧
      (↑x : Int) < (↑l.length : Int) ∧
      (5 : Nat) ≠ (0 : Nat) ∧ (5 : Nat) = (5 : Nat) ∧ D.st [D.val (Value.int IntKind.i64 (numOf (fldOf (l.getD (↑x : Int).toNat (D.val (Value.bool false))) (0 : Nat)))), D.arr IntKind.u64 (4 : Nat) (arrOf (fldOf (l.getD (↑x : Int).toNat (D.val (Value.bool false))) (1 : Nat)))] = l.getD (↑x : Int).toNat (D.val (Value.bool false))) ∧
      ((5 : Nat) ≠ (0 : Nat) ∧ (5 : Nat) = (5 : Nat) ∧ true = true) ∧
      (True ∧ (5 : Nat) ≠ (0 : Nat)) ∧
      True ∧
      (Sk.st [Sk.one, Sk.arr (4 : Nat)] = Sk.st [Sk.one, Sk.arr (4 : Nat)] ∧ (5 : Nat) ≠ (0 : Nat) ∧ (5 : Nat) = (5 : Nat) ∧ false = false) ∧
      (Sk.st [Sk.one, Sk.arr (4 : Nat)] = Sk.st [Sk.one, Sk.arr (4 : Nat)] ∧ (0 : Nat) < (2 : Nat)) ∧
      ((1 : Nat) ≠ (0 : Nat) ∧ (1 : Nat) = (1 : Nat) ∧ false = false) ∧
      True ∧
      True ∧
      match decide (numOf (fldOf (l.getD (↑x : Int).toNat (D.val (Value.bool false))) (0 : Nat)) < (1 : Int)) with
      | true => True ∧ True ∧ True ∧ True ∧ (false = false ∧ True) ∧ D.val (Value.int IntKind.i64 (1 : Int)) = F
      | false =>
       (Sk.st [Sk.one, Sk.arr (4 : Nat)] = Sk.st [Sk.one, Sk.arr (4 : Nat)] ∧ (0 : Nat) < (2 : Nat)) ∧
       ((1 : Nat) ≠ (0 : Nat) ∧ (1 : Nat) = (1 : Nat) ∧ false = false) ∧
       True ∧
       True ∧
       True ∧
       match decide (numOf (fldOf (l.getD (↑x : Int).toNat (D.val (Value.bool false))) (0 : Nat)) > (255 : Int)) with
       | true => True ∧ True ∧ (false = false ∧ True) ∧ D.val (Value.int IntKind.i64 (1 : Int)) = F
       | false =>
        (Sk.st [Sk.one, Sk.arr (4 : Nat)] = Sk.st [Sk.one, Sk.arr (4 : Nat)] ∧ (1 : Nat) < (2 : Nat)) ∧
        ((4 : Nat) ≠ (0 : Nat) ∧ (4 : Nat) = (4 : Nat) ∧ true = true) ∧
        (∃ (l_1 : List Int), [D.arr IntKind.u64 (4 : Nat) (arrOf (fldOf (l.getD (↑x : Int).toNat (D.val (Value.bool false))) (1 : Nat)))] = [D.arr IntKind.u64 (4 : Nat) l_1] ∧ okw l_1 ∧ l_1.length = (4 : Nat)) ∧
        (0 : Nat) = (0 : Nat) ∧
        (∃ (l_1 : List Int), ∃ (m : List Int), [D.ints IntKind.i64 (dg (vB (18446744073709551616 : Nat) (arrOf (fldOf (l.getD (↑x : Int).toNat (D.val (Value.bool false))) (1 : Nat))))), D.ints IntKind.i64 dgL] = [D.ints IntKind.i64 l_1, D.ints IntKind.i64 m] ∧ (okd l_1 ∧ lenS l_1) ∧ okd m ∧ lenS m) ∧
        True ∧
        True ∧
        match decide (cmpN (vB (65536 : Nat) (dg (vB (18446744073709551616 : Nat) (arrOf (fldOf (l.getD (↑x : Int).toNat (D.val (Value.bool false))) (1 : Nat)))))) (vB (65536 : Nat) dgL) ≥ (0 : Int)) with
        | true => True ∧ (false = false ∧ True) ∧ D.val (Value.int IntKind.i64 (1 : Int)) = F
        | false =>
         True ∧
         True ∧
         ((0 : Int) ≤ (0 : Int) ∧ (0 : Int) ≤ (↑x : Int) ∧ (↑x : Int) ≤ (↑l.length : Int) ∧ (5 : Nat) ≠ (0 : Nat) ∧ (5 : Nat) = (5 : Nat)) ∧
         True ∧
         True ∧
         (((AV.d (D.val (Value.int IntKind.i64 (0 : Int))) = AV.d (D.val (Value.int IntKind.i64 (↑(Int.toNat (0 : Int)) : Int))) ∧ True) ∧
         (sm (some (Blk.fix (D.st [D.val (Value.int IntKind.i64 (numOf (fldOf (l.getD (↑x : Int).toNat (D.val (Value.bool false))) (0 : Nat)))), D.arr IntKind.u64 (4 : Nat) (arrOf (fldOf (l.getD (↑x : Int).toNat (D.val (Value.bool false))) (1 : Nat)))]))) ∧ True) ∧ true = true) ∧
         Int.toNat (0 : Int) ≤ (↑x : Int).toNat ∧ hasX (xOf (l.getD (↑x : Int).toNat (D.val (Value.bool false)))) (List.take (Int.toNat (0 : Int)) l) = false) ∧
         ∀ (x_1 : Nat),
         x_1 ≤ (↑x : Int).toNat ∧ hasX (xOf (l.getD (↑x : Int).toNat (D.val (Value.bool false)))) (List.take x_1 l) = false →
         true = true ∧
         True ∧
         match decide ((↑x_1 : Int) < (↑(List.drop (Int.toNat (0 : Int)) (List.take (↑x : Int).toNat l)).length : Int)) with
         | true =>
          ((0 : Int) ≤ (↑x_1 : Int) ∧
          (↑x_1 : Int) < (↑(List.drop (Int.toNat (0 : Int)) (List.take (↑x : Int).toNat l)).length : Int) ∧
          (5 : Nat) ≠ (0 : Nat) ∧
          (5 : Nat) = (5 : Nat) ∧
          D.st
          [D.val (Value.int IntKind.i64 (numOf (fldOf ((List.drop (Int.toNat (0 : Int)) (List.take (↑x : Int).toNat l)).getD (↑x_1 : Int).toNat (D.val (Value.bool false))) (0 : Nat)))),
          D.arr IntKind.u64 (4 : Nat) (arrOf (fldOf ((List.drop (Int.toNat (0 : Int)) (List.take (↑x : Int).toNat l)).getD (↑x_1 : Int).toNat (D.val (Value.bool false))) (1 : Nat)))] =
          (List.drop (Int.toNat (0 : Int)) (List.take (↑x : Int).toNat l)).getD (↑x_1 : Int).toNat (D.val (Value.bool false))) ∧
          ((5 : Nat) ≠ (0 : Nat) ∧ (5 : Nat) = (5 : Nat) ∧ true = true) ∧
          (True ∧ (5 : Nat) ≠ (0 : Nat)) ∧
          (Sk.st [Sk.one, Sk.arr (4 : Nat)] = Sk.st [Sk.one, Sk.arr (4 : Nat)] ∧ (5 : Nat) ≠ (0 : Nat) ∧ (5 : Nat) = (5 : Nat) ∧ false = false) ∧
          (Sk.st [Sk.one, Sk.arr (4 : Nat)] = Sk.st [Sk.one, Sk.arr (4 : Nat)] ∧ (0 : Nat) < (2 : Nat)) ∧
          ((1 : Nat) ≠ (0 : Nat) ∧ (1 : Nat) = (1 : Nat) ∧ false = false) ∧
          (Sk.st [Sk.one, Sk.arr (4 : Nat)] = Sk.st [Sk.one, Sk.arr (4 : Nat)] ∧ (0 : Nat) < (2 : Nat)) ∧
          ((1 : Nat) ≠ (0 : Nat) ∧ (1 : Nat) = (1 : Nat) ∧ false = false) ∧
          True ∧
          match numOf (fldOf ((List.drop (Int.toNat (0 : Int)) (List.take (↑x : Int).toNat l)).getD (↑x_1 : Int).toNat (D.val (Value.bool false))) (0 : Nat)) == numOf (fldOf (l.getD (↑x : Int).toNat (D.val (Value.bool false))) (0 : Nat)) with
          | true => True ∧ (false = false ∧ True) ∧ D.val (Value.int IntKind.i64 (1 : Int)) = F
          | false =>
           True ∧
           True ∧
           ((AV.d (D.val (Value.int IntKind.i64 (IntKind.i64.wrap ((↑x_1 : Int) + (1 : Int))))) = AV.d (D.val (Value.int IntKind.i64 (↑(IntKind.i64.wrap ((↑x_1 : Int) + (1 : Int))).toNat : Int))) ∧ True) ∧
           (sm
           (some
           (Blk.fix
           (D.st [D.val (Value.int IntKind.i64 (numOf (fldOf (l.getD (↑x : Int).toNat (D.val (Value.bool false))) (0 : Nat)))), D.arr IntKind.u64 (4 : Nat) (arrOf (fldOf (l.getD (↑x : Int).toNat (D.val (Value.bool false))) (1 : Nat)))]))) ∧
           True) ∧
           true = true) ∧
           ((IntKind.i64.wrap ((↑x_1 : Int) + (1 : Int))).toNat ≤ (↑x : Int).toNat ∧ hasX (xOf (l.getD (↑x : Int).toNat (D.val (Value.bool false)))) (List.take (IntKind.i64.wrap ((↑x_1 : Int) + (1 : Int))).toNat l) = false) ∧
           l.length - (IntKind.i64.wrap ((↑x_1 : Int) + (1 : Int))).toNat < l.length - x_1
         | false =>
          True ∧
          True ∧
          ((AV.d (D.val (Value.int IntKind.i64 (IntKind.i64.wrap ((↑x : Int) + (1 : Int))))) = AV.d (D.val (Value.int IntKind.i64 (↑(IntKind.i64.wrap ((↑x : Int) + (1 : Int))).toNat : Int))) ∧ True) ∧ True ∧ true = true) ∧
          ((IntKind.i64.wrap ((↑x : Int) + (1 : Int))).toNat ≤ l.length ∧ sfN l (IntKind.i64.wrap ((↑x : Int) + (1 : Int))).toNat = (0 : Int)) ∧ l.length - (IntKind.i64.wrap ((↑x : Int) + (1 : Int))).toNat < l.length - x
     | false => True ∧ (false = false ∧ True) ∧ D.val (Value.int IntKind.i64 (0 : Int)) = F) := by kernel_rfl
end Go.Proofs.Ytfbaghocbipbiaa
namespace Go.Proofs.Ytfbaghocbipbiaa
open Go Go.Vg
theorem dgL_v : vB 65536 dgL = LQ := by rw [show dgL = dg LQ from opq_eq _, vl_dg]
theorem dgL_l : okd dgL ∧ len1 dgL ∧ lenS dgL ∧ lenOk dgL := by rw [show dgL = dg LQ from opq_eq _]; exact lens1 LQ_lt
theorem hasX_take {l : List D} {i : Nat} : ∀ {j : Nat}, i < j → j ≤ l.length → hasX (xOf (l.getD i default)) (l.take j) = true
 | 0, h, _ => absurd h (Nat.not_lt_zero i)
 | j + 1, h, hj => by
  rw [takeS (by omega), hasX_app]
  by_cases e : i = j
  ·subst e; rw [decide_eq_true rfl, Bool.or_true]
  ·rw [hasX_take (by omega) (by omega), Bool.true_or]
set_option maxRecDepth 100000 in
theorem m8 : Meets Try.prog 8 sp8 := by
 refine meets_of_owed (C := c8) ⟨tab_ok, lkS_ok ⟨m41, m42, m40, trivial⟩⟩ (by kernel_rfl) (by kernel_rfl : Try.prog.funcs[8]? = some Try.f8) (by kernel_rfl) (by kernel_rfl) (by kernel_rfl) _ ?_
 rintro _ ⟨l, z, rfl, hl⟩
 refine ⟨fun _ => rfl, inv8 l, ?_⟩
 show owed c8 (inv8 l) Try.f8 [.slc 5 l, i64 z] (i64 (sfE l z))
 have hl2 := hl.2
 rw [vc8]
 simp (decide := true) only [dgL_v, vl_dg, cmp_ge, eq_self, true_and, and_true, ne_eq, not_false_eq_true]
 unfold sfE
 split
 ·rename_i h
  have h := of_decide_eq_true h
  rw [if_pos (by omega)]
 rename_i h20
 have h20 : ¬ 20 < l.length := by have := of_decide_eq_false h20; omega
 rw [if_neg h20]
 split
 ·rename_i h
  have h := eq_of_beq h
  rw [if_pos (.inl (by omega))]
 rename_i hz
 have hz : l.length ≠ 0 := fun e => by rw [e] at hz; exact absurd hz (by decide)
 split
 ·rename_i h
  rw [if_pos (.inr (.inl (of_decide_eq_true h)))]
 rename_i hx0
 have hx0 := of_decide_eq_false hx0
 split
 ·rename_i h
  rw [if_pos (.inr (.inr (of_decide_eq_true h)))]
 rename_i hx1
 have hx1 := of_decide_eq_false hx1
 rw [if_neg (by omega)]
 refine ⟨?_, ?_⟩
 ·and_intros <;> first | rfl | exact Nat.zero_le _
 rintro x ⟨hx, h0⟩
 split
 ·rename_i h
  have h : x < l.length := by have := of_decide_eq_true h; omega
  obtain ⟨k, v, e, hv, hk⟩ := elS hl h
  have ek : xOf (l.getD x default) = k := by rw [show l.getD x default = sh_ k v from e]; rfl
  have ey : yOf (l.getD x default) = vB 18446744073709551616 v := by rw [show l.getD x default = sh_ k v from e]; rfl
  have hvl := wv_lt hv.1 hv.2
  have lv := lens1 (x := vB 18446744073709551616 v) hvl
  have ek2 : xOf (sh_ k v) = k := rfl
  simp only [Int.toNat_natCast, e, s0, s1, ek2, wSS h hl2]
  refine ⟨⟨by omega, by omega, trivial⟩, ?_⟩
  split
  ·rename_i h3
   have h3 := of_decide_eq_true h3
   rw [sf_at h h0 (e := 1) (by unfold sfI; rw [ek, if_pos (.inl h3)]) (by decide)]
  rename_i h3
  have h3 := of_decide_eq_false h3
  split
  ·rename_i h4
   have h4 := of_decide_eq_true h4
   rw [sf_at h h0 (e := 1) (by unfold sfI; rw [ek, if_pos (.inr h4)]) (by decide)]
  rename_i h4
  have h4 := of_decide_eq_false h4
  refine ⟨⟨_, rfl, hv.1, hv.2⟩, ⟨_, _, rfl, ⟨lv.1, lv.2.2.1⟩, dgL_l.1, dgL_l.2.2.1⟩, ?_⟩
  split
  ·rename_i h5
   have h5 := of_decide_eq_true h5
   rw [sf_at h h0 (e := 1) (by unfold sfI; rw [ek, ey, if_neg (by omega), if_pos h5]) (by decide)]
  rename_i h5
  have h5 := of_decide_eq_false h5
  have hdt : List.drop (Int.toNat 0) (List.take x l) = List.take x l := rfl
  have hlen : (List.take x l).length = x := by rw [List.length_take]; omega
  simp only [hdt, hlen]
  refine ⟨⟨by omega, by omega⟩, ?_, ?_⟩
  ·and_intros <;> first | rfl | exact Nat.zero_le _
  rintro y ⟨hy, hny⟩
  split
  ·rename_i hyx
   have hyx : y < x := by have := of_decide_eq_true hyx; omega
   have hyl : y < l.length := by omega
   have hg : (List.take x l).getD y (D.val (Value.bool false)) = l.getD y (D.val (Value.bool false)) := by
    rw [List.getD_eq_getElem?_getD, List.getD_eq_getElem?_getD, List.getElem?_take, if_pos hyx]
   obtain ⟨k', v', e2, _, _⟩ := elS hl hyl
   have eky : xOf (l.getD y default) = k' := by rw [show l.getD y default = sh_ k' v' from e2]; rfl
   simp only [hg, e2, s0, s1, wSS hyl hl2, Int.toNat_natCast]
   refine ⟨⟨by omega, by omega, trivial⟩, ?_⟩
   split
   ·rename_i hkk
    have hkk := eq_of_beq hkk
    have hh : hasX k (l.take x) = true := by
     have := hasX_take hyx (Nat.le_of_lt h)
     rw [eky, hkk] at this
     exact this
    rw [sf_at h h0 (e := 1) (by unfold sfI; rw [ek, ey, if_neg (by omega), if_neg h5, hh, if_pos rfl]) (by decide)]
   ·rename_i hkk
    refine ⟨trivial, ⟨by omega, ?_⟩, by omega⟩
    rw [takeS hyl, hasX_app, hny, eky, Bool.false_or]
    exact decide_eq_false (fun a => by rw [a] at hkk; simp at hkk)
  ·rename_i hyx
   have hyx := of_decide_eq_false hyx
   obtain rfl : y = x := by omega
   refine ⟨trivial, ⟨h, sf_step h0 ?_⟩, by omega⟩
   unfold sfI
   rw [ek, ey, if_neg (by omega), if_neg h5, hny, if_neg (by decide)]
 ·rename_i h
  have h := of_decide_eq_false h
  obtain rfl : x = l.length := by omega
  rw [h0]
end Go.Proofs.Ytfbaghocbipbiaa
namespace Go.Proofs.Ytfbaghocbipbiaa
open Go Go.Vg
def xN (l : List D) (j : Nat) : Nat := (xOf (l.getD j default)).toNat
def upN (l : List D) (z i : Nat) : Nat → Nat
 | 0 => 1
 | j + 1 => if i = j then upN l z i j else upN l z i j * ((z + ngS (xN l j)) % LQ) % LQ
noncomputable def tmN (l : List D) (z i : Nat) : Nat := yOf (l.getD i default) * (upN l z i l.length * ivS (upN l (xN l i) i l.length) % LQ) % LQ
noncomputable def atN (l : List D) (z : Nat) : Nat → Nat
 | 0 => 0
 | i + 1 => (atN l z i + tmN l z i) % LQ
noncomputable def atR (l : List D) (x : Int) : Nat := if sfE l x = 0 then atN l x.toNat l.length else 0
noncomputable def sp9 : Go.Vg.Spec := ⟨fun ds => ∃ l x, ds = [.slc 5 l, i64 x] ∧ oks l, fun ds => .tup [n4 (atR (xsOf (ds.headD default)) (numOf (ds.getD 1 default))), i64 (sfE (xsOf (ds.headD default)) (numOf (ds.getD 1 default)))], true, [22, 3]⟩
noncomputable def c9 : Ctx := ⟨tab, lkS [(43, sp43), (46, sp46), (47, sp47), (45, sp45), (44, sp44), (48, sp48)], [], [20013013, 20043013, 20010010, 20009009, 20050009, 20053013, 20011011, 20007007, 20061009]⟩
noncomputable def inv9 (l : List D) (x : Int) : Nat → Option Inv
 | 6 => some ⟨Nat, fun i => [(23, .d (i64 i))], fun i => [(7, .fix (n4 (atN l x.toNat i)))], fun s => (slotN s 23).toNat, fun _ i => i ≤ l.length, fun i => l.length - i⟩
 | 10 => some ⟨Nat × Nat, fun p => [(32, .d (i64 p.2))], fun p => [(10, .fix (n4 (upN l x.toNat p.1 p.2))), (11, .fix (n4 (upN l (xN l p.1) p.1 p.2)))], fun s => ((slotN s 8).toNat, (slotN s 32).toNat), fun s p => (p.1 : Int) = slotN s 8 ∧ p.2 ≤ l.length, fun p => l.length - p.2⟩
 | _ => none
--KEEP Nat.gcd List.replicate Go.Vg.opq Go.Vg.eqB Go.Vg.vB Go.Vg.nB Go.Vg.okd Go.Vg.okw Go.Vg.dg Go.Vg.dig Go.Vg.trimL okb lenOk lenS len1 sbd sbb dif bor cmpN shf i64ok subL dvq dvr dve sbD adl adc mulL mulH stL stH smN smC addL addK TimI TimJ isN invN ivX ivE InvI LQ ngS ivS dgP dgO dgL xOf yOf isSh oks hasX sfI sfN sfE tL xN upN tmN atN atR
set_option maxRecDepth 100000 in
theorem vc9  (l : List D) (x : Int) (F : D)  :
    (owed c9 (inv9 l x) Try.f9 [.slc 5 l, i64 x] F) = (
 (True ∧ (4 : Nat) ≠ (0 : Nat)) ∧
 True ∧
 True ∧
 True ∧
 (∃ (l_1 : List D), ∃ (x_1 : Int), [D.slc (5 : Nat) l, D.val (Value.int IntKind.i64 x)] = [D.slc (5 : Nat) l_1, D.val (Value.int IntKind.i64 x_1)] ∧ oks l_1) ∧
 True ∧
 True ∧
 True ∧
 match sfE l x != (0 : Int) with
 | true => ((1 : Nat) = (1 : Nat) ∧ True) ∧ True ∧ (Sk.arr (4 : Nat) = Sk.arr (4 : Nat) ∧ (4 : Nat) ≠ (0 : Nat) ∧ (4 : Nat) = (4 : Nat) ∧ false = false) ∧ True ∧ (((4 : Nat) ≠ (0 : Nat) ∧ (4 : Nat) = (4 : Nat) ∧ true = true) ∧ false = false ∧ True) ∧ D.tup [D.arr IntKind.u64 (4 : Nat) [(0 : Int), (0 : Int), (0 : Int), (0 : Int)], D.val (Value.int IntKind.i64 (sfE l x))] = F
 | false =>
  (True ∧ (4 : Nat) ≠ (0 : Nat)) ∧
  True ∧
  True ∧
  True ∧
  (((AV.d (D.val (Value.int IntKind.i64 (0 : Int))) = AV.d (D.val (Value.int IntKind.i64 (↑(Int.toNat (0 : Int)) : Int))) ∧ True) ∧
  (sm (some (Blk.fix (D.arr IntKind.u64 (4 : Nat) [(0 : Int), (0 : Int), (0 : Int), (0 : Int)]))) ∧ some (Blk.fix (D.arr IntKind.u64 (4 : Nat) [(0 : Int), (0 : Int), (0 : Int), (0 : Int)])) = some (Blk.fix (D.arr IntKind.u64 (4 : Nat) (nB (18446744073709551616 : Nat) (4 : Nat) (atN l x.toNat (Int.toNat (0 : Int)))))) ∧ True) ∧ true = true) ∧
  Int.toNat (0 : Int) ≤ l.length) ∧
  ∀ (x_1 : Nat),
  x_1 ≤ l.length →
  true = true ∧
  True ∧
  match decide ((↑x_1 : Int) < (↑l.length : Int)) with
  | true =>
   True ∧
   ((0 : Int) ≤ (↑x_1 : Int) ∧
   (↑x_1 : Int) < (↑l.length : Int) ∧
   (5 : Nat) ≠ (0 : Nat) ∧ (5 : Nat) = (5 : Nat) ∧ D.st [D.val (Value.int IntKind.i64 (numOf (fldOf (l.getD (↑x_1 : Int).toNat (D.val (Value.bool false))) (0 : Nat)))), D.arr IntKind.u64 (4 : Nat) (arrOf (fldOf (l.getD (↑x_1 : Int).toNat (D.val (Value.bool false))) (1 : Nat)))] = l.getD (↑x_1 : Int).toNat (D.val (Value.bool false))) ∧
   ((5 : Nat) ≠ (0 : Nat) ∧ (5 : Nat) = (5 : Nat) ∧ true = true) ∧
   (True ∧ (5 : Nat) ≠ (0 : Nat)) ∧
   True ∧
   (Nat.beq (9 : Nat) (9 : Nat) = true ∧ Sk.st [Sk.one, Sk.arr (4 : Nat)] = Sk.st [Sk.one, Sk.arr (4 : Nat)] ∧ (5 : Nat) ≠ (0 : Nat) ∧ (5 : Nat) = (5 : Nat) ∧ false = false) ∧
   ((1 : Nat) = (1 : Nat) ∧ false = false ∧ ((0 : Nat) < (4 : Nat) ∧ ([] : List Nat) = [] ∧ true = true) ∧ True) ∧
   ((1 : Nat) = (1 : Nat) ∧ false = false ∧ ((0 : Nat) < (4 : Nat) ∧ ([] : List Nat) = [] ∧ true = true) ∧ True) ∧
   (True ∧ (4 : Nat) ≠ (0 : Nat)) ∧
   (True ∧ (4 : Nat) ≠ (0 : Nat)) ∧
   (Nat.beq (10 : Nat) (10 : Nat) = true ∧ Sk.arr (4 : Nat) = Sk.arr (4 : Nat) ∧ (4 : Nat) ≠ (0 : Nat) ∧ (4 : Nat) = (4 : Nat) ∧ false = false) ∧
   (Nat.beq (11 : Nat) (11 : Nat) = true ∧ Sk.arr (4 : Nat) = Sk.arr (4 : Nat) ∧ (4 : Nat) ≠ (0 : Nat) ∧ (4 : Nat) = (4 : Nat) ∧ false = false) ∧
   True ∧
   True ∧
   True ∧
   (((AV.d (D.val (Value.int IntKind.i64 (0 : Int))) = AV.d (D.val (Value.int IntKind.i64 (↑(0 : Nat) : Int))) ∧ True) ∧
   (sm (some (Blk.fix (D.arr IntKind.u64 (4 : Nat) [(0 : Int), (0 : Int), (0 : Int), (0 : Int)]))) ∧
   sm (some (Blk.fix (D.arr IntKind.u64 (4 : Nat) (nB (18446744073709551616 : Nat) (4 : Nat) (atN l x.toNat x_1))))) ∧
   sm (some (Blk.fix (D.st [D.val (Value.int IntKind.i64 (numOf (fldOf (l.getD (↑x_1 : Int).toNat (D.val (Value.bool false))) (0 : Nat)))), D.arr IntKind.u64 (4 : Nat) (arrOf (fldOf (l.getD (↑x_1 : Int).toNat (D.val (Value.bool false))) (1 : Nat)))]))) ∧
   some (Blk.fix (D.arr IntKind.u64 (4 : Nat) [(1 : Int), (0 : Int), (0 : Int), (0 : Int)])) = some (Blk.fix (D.arr IntKind.u64 (4 : Nat) (nB (18446744073709551616 : Nat) (4 : Nat) (upN l x.toNat (↑x_1 : Int).toNat (0 : Nat))))) ∧
   some (Blk.fix (D.arr IntKind.u64 (4 : Nat) [(1 : Int), (0 : Int), (0 : Int), (0 : Int)])) = some (Blk.fix (D.arr IntKind.u64 (4 : Nat) (nB (18446744073709551616 : Nat) (4 : Nat) (upN l (xN l (↑x_1 : Int).toNat) (↑x_1 : Int).toNat (0 : Nat))))) ∧ True) ∧
   true = true) ∧
   (↑(↑x_1 : Int).toNat : Int) = (↑x_1 : Int) ∧ (0 : Nat) ≤ l.length) ∧
   ∀ (x_2 : Nat × Nat),
   (↑x_2.fst : Int) = (↑x_1 : Int) ∧ x_2.snd ≤ l.length →
   true = true ∧
   True ∧
   match decide ((↑x_2.snd : Int) < (↑l.length : Int)) with
   | true =>
    True ∧
    ((0 : Int) ≤ (↑x_2.snd : Int) ∧
    (↑x_2.snd : Int) < (↑l.length : Int) ∧
    (5 : Nat) ≠ (0 : Nat) ∧
    (5 : Nat) = (5 : Nat) ∧
    D.st [D.val (Value.int IntKind.i64 (numOf (fldOf (l.getD (↑x_2.snd : Int).toNat (D.val (Value.bool false))) (0 : Nat)))), D.arr IntKind.u64 (4 : Nat) (arrOf (fldOf (l.getD (↑x_2.snd : Int).toNat (D.val (Value.bool false))) (1 : Nat)))] = l.getD (↑x_2.snd : Int).toNat (D.val (Value.bool false))) ∧
    ((5 : Nat) ≠ (0 : Nat) ∧ (5 : Nat) = (5 : Nat) ∧ true = true) ∧
    (True ∧ (5 : Nat) ≠ (0 : Nat)) ∧
    True ∧
    (Nat.beq (13 : Nat) (13 : Nat) = true ∧ Sk.st [Sk.one, Sk.arr (4 : Nat)] = Sk.st [Sk.one, Sk.arr (4 : Nat)] ∧ (5 : Nat) ≠ (0 : Nat) ∧ (5 : Nat) = (5 : Nat) ∧ false = false) ∧
    True ∧
    True ∧
    True ∧
    match (↑x_1 : Int) != (↑x_2.snd : Int) with
    | true =>
     (Nat.beq (10 : Nat) (10 : Nat) = true ∧ (4 : Nat) ≠ (0 : Nat) ∧ (4 : Nat) = (4 : Nat) ∧ true = true) ∧
     True ∧
     (∃ (n : Nat), [D.val (Value.int IntKind.i64 x)] = [D.val (Value.int IntKind.i64 (↑n : Int))] ∧ n < (9223372036854775808 : Nat)) ∧
     (Nat.beq (13 : Nat) (13 : Nat) = true ∧ Sk.st [Sk.one, Sk.arr (4 : Nat)] = Sk.st [Sk.one, Sk.arr (4 : Nat)] ∧ (0 : Nat) < (2 : Nat)) ∧
     (Nat.beq (13 : Nat) (13 : Nat) = true ∧ (1 : Nat) ≠ (0 : Nat) ∧ (1 : Nat) = (1 : Nat) ∧ false = false) ∧
     (∃ (n : Nat), [D.val (Value.int IntKind.i64 (numOf (fldOf (l.getD (↑x_2.snd : Int).toNat (D.val (Value.bool false))) (0 : Nat))))] = [D.val (Value.int IntKind.i64 (↑n : Int))] ∧ n < (9223372036854775808 : Nat)) ∧
     (∃ (l_1 : List Int), [D.arr IntKind.u64 (4 : Nat) (nB (18446744073709551616 : Nat) (4 : Nat) (numOf (fldOf (l.getD (↑x_2.snd : Int).toNat (D.val (Value.bool false))) (0 : Nat))).toNat)] = [D.arr IntKind.u64 (4 : Nat) l_1] ∧ isN l_1) ∧
     (∃ (l_1 : List Int),
     ∃ (m : List Int),
     [D.arr IntKind.u64 (4 : Nat) (nB (18446744073709551616 : Nat) (4 : Nat) x.toNat),
     D.arr IntKind.u64 (4 : Nat) (nB (18446744073709551616 : Nat) (4 : Nat) (ngS (vB (18446744073709551616 : Nat) (nB (18446744073709551616 : Nat) (4 : Nat) (numOf (fldOf (l.getD (↑x_2.snd : Int).toNat (D.val (Value.bool false))) (0 : Nat))).toNat))))] =
     [D.arr IntKind.u64 (4 : Nat) l_1, D.arr IntKind.u64 (4 : Nat) m] ∧
     isN l_1 ∧ isN m) ∧
     (∃ (l_1 : List Int),
     ∃ (m : List Int),
     [D.arr IntKind.u64 (4 : Nat) (nB (18446744073709551616 : Nat) (4 : Nat) (upN l x.toNat x_2.fst x_2.snd)),
     D.arr IntKind.u64 (4 : Nat)
     (nB (18446744073709551616 : Nat) (4 : Nat)
     ((vB (18446744073709551616 : Nat) (nB (18446744073709551616 : Nat) (4 : Nat) x.toNat) +
     vB (18446744073709551616 : Nat) (nB (18446744073709551616 : Nat) (4 : Nat) (ngS (vB (18446744073709551616 : Nat) (nB (18446744073709551616 : Nat) (4 : Nat) (numOf (fldOf (l.getD (↑x_2.snd : Int).toNat (D.val (Value.bool false))) (0 : Nat))).toNat))))) %
     LQ))] =
     [D.arr IntKind.u64 (4 : Nat) l_1, D.arr IntKind.u64 (4 : Nat) m] ∧
     isN l_1 ∧ isN m) ∧
     (Nat.beq (10 : Nat) (10 : Nat) = true ∧ Sk.arr (4 : Nat) = Sk.arr (4 : Nat) ∧ (4 : Nat) ≠ (0 : Nat) ∧ (4 : Nat) = (4 : Nat) ∧ false = false) ∧
     (Nat.beq (11 : Nat) (11 : Nat) = true ∧ (4 : Nat) ≠ (0 : Nat) ∧ (4 : Nat) = (4 : Nat) ∧ true = true) ∧
     (Nat.beq (9 : Nat) (9 : Nat) = true ∧ Sk.st [Sk.one, Sk.arr (4 : Nat)] = Sk.st [Sk.one, Sk.arr (4 : Nat)] ∧ (0 : Nat) < (2 : Nat)) ∧
     (Nat.beq (9 : Nat) (9 : Nat) = true ∧ (1 : Nat) ≠ (0 : Nat) ∧ (1 : Nat) = (1 : Nat) ∧ false = false) ∧
     (∃ (n : Nat), [D.val (Value.int IntKind.i64 (numOf (fldOf (l.getD (↑x_1 : Int).toNat (D.val (Value.bool false))) (0 : Nat))))] = [D.val (Value.int IntKind.i64 (↑n : Int))] ∧ n < (9223372036854775808 : Nat)) ∧
     (Nat.beq (13 : Nat) (13 : Nat) = true ∧ Sk.st [Sk.one, Sk.arr (4 : Nat)] = Sk.st [Sk.one, Sk.arr (4 : Nat)] ∧ (0 : Nat) < (2 : Nat)) ∧
     (Nat.beq (13 : Nat) (13 : Nat) = true ∧ (1 : Nat) ≠ (0 : Nat) ∧ (1 : Nat) = (1 : Nat) ∧ false = false) ∧
     (∃ (n : Nat), [D.val (Value.int IntKind.i64 (numOf (fldOf (l.getD (↑x_2.snd : Int).toNat (D.val (Value.bool false))) (0 : Nat))))] = [D.val (Value.int IntKind.i64 (↑n : Int))] ∧ n < (9223372036854775808 : Nat)) ∧
     (∃ (l_1 : List Int), [D.arr IntKind.u64 (4 : Nat) (nB (18446744073709551616 : Nat) (4 : Nat) (numOf (fldOf (l.getD (↑x_2.snd : Int).toNat (D.val (Value.bool false))) (0 : Nat))).toNat)] = [D.arr IntKind.u64 (4 : Nat) l_1] ∧ isN l_1) ∧
     (∃ (l_1 : List Int),
     ∃ (m : List Int),
     [D.arr IntKind.u64 (4 : Nat) (nB (18446744073709551616 : Nat) (4 : Nat) (numOf (fldOf (l.getD (↑x_1 : Int).toNat (D.val (Value.bool false))) (0 : Nat))).toNat),
     D.arr IntKind.u64 (4 : Nat) (nB (18446744073709551616 : Nat) (4 : Nat) (ngS (vB (18446744073709551616 : Nat) (nB (18446744073709551616 : Nat) (4 : Nat) (numOf (fldOf (l.getD (↑x_2.snd : Int).toNat (D.val (Value.bool false))) (0 : Nat))).toNat))))] =
     [D.arr IntKind.u64 (4 : Nat) l_1, D.arr IntKind.u64 (4 : Nat) m] ∧
     isN l_1 ∧ isN m) ∧
     (∃ (l_1 : List Int),
     ∃ (m : List Int),
     [D.arr IntKind.u64 (4 : Nat) (nB (18446744073709551616 : Nat) (4 : Nat) (upN l (xN l x_2.fst) x_2.fst x_2.snd)),
     D.arr IntKind.u64 (4 : Nat)
     (nB (18446744073709551616 : Nat) (4 : Nat)
     ((vB (18446744073709551616 : Nat) (nB (18446744073709551616 : Nat) (4 : Nat) (numOf (fldOf (l.getD (↑x_1 : Int).toNat (D.val (Value.bool false))) (0 : Nat))).toNat) +
     vB (18446744073709551616 : Nat)
     (nB (18446744073709551616 : Nat) (4 : Nat) (ngS (vB (18446744073709551616 : Nat) (nB (18446744073709551616 : Nat) (4 : Nat) (numOf (fldOf (l.getD (↑x_2.snd : Int).toNat (D.val (Value.bool false))) (0 : Nat))).toNat))))) %
     LQ))] =
     [D.arr IntKind.u64 (4 : Nat) l_1, D.arr IntKind.u64 (4 : Nat) m] ∧
     isN l_1 ∧ isN m) ∧
     (Nat.beq (11 : Nat) (11 : Nat) = true ∧ Sk.arr (4 : Nat) = Sk.arr (4 : Nat) ∧ (4 : Nat) ≠ (0 : Nat) ∧ (4 : Nat) = (4 : Nat) ∧ false = false) ∧
     True ∧
     True ∧
     ((AV.d (D.val (Value.int IntKind.i64 (IntKind.i64.wrap ((↑x_2.snd : Int) + (1 : Int))))) = AV.d (D.val (Value.int IntKind.i64 (↑(IntKind.i64.wrap ((↑x_2.snd : Int) + (1 : Int))).toNat : Int))) ∧ True) ∧
     (sm (some (Blk.fix (D.arr IntKind.u64 (4 : Nat) [(0 : Int), (0 : Int), (0 : Int), (0 : Int)]))) ∧
     sm (some (Blk.fix (D.arr IntKind.u64 (4 : Nat) (nB (18446744073709551616 : Nat) (4 : Nat) (atN l x.toNat x_1))))) ∧
     sm
     (some
     (Blk.fix
     (D.st [D.val (Value.int IntKind.i64 (numOf (fldOf (l.getD (↑x_1 : Int).toNat (D.val (Value.bool false))) (0 : Nat)))), D.arr IntKind.u64 (4 : Nat) (arrOf (fldOf (l.getD (↑x_1 : Int).toNat (D.val (Value.bool false))) (1 : Nat)))]))) ∧
     some
     (Blk.fix
     (D.arr IntKind.u64 (4 : Nat)
     (nB (18446744073709551616 : Nat) (4 : Nat)
     (vB (18446744073709551616 : Nat) (nB (18446744073709551616 : Nat) (4 : Nat) (upN l x.toNat x_2.fst x_2.snd)) *
     vB (18446744073709551616 : Nat)
     (nB (18446744073709551616 : Nat) (4 : Nat)
     ((vB (18446744073709551616 : Nat) (nB (18446744073709551616 : Nat) (4 : Nat) x.toNat) +
     vB (18446744073709551616 : Nat)
     (nB (18446744073709551616 : Nat) (4 : Nat)
     (ngS (vB (18446744073709551616 : Nat) (nB (18446744073709551616 : Nat) (4 : Nat) (numOf (fldOf (l.getD (↑x_2.snd : Int).toNat (D.val (Value.bool false))) (0 : Nat))).toNat))))) %
     LQ)) %
     LQ)))) =
     some (Blk.fix (D.arr IntKind.u64 (4 : Nat) (nB (18446744073709551616 : Nat) (4 : Nat) (upN l x.toNat (↑x_1 : Int).toNat (IntKind.i64.wrap ((↑x_2.snd : Int) + (1 : Int))).toNat)))) ∧
     some
     (Blk.fix
     (D.arr IntKind.u64 (4 : Nat)
     (nB (18446744073709551616 : Nat) (4 : Nat)
     (vB (18446744073709551616 : Nat) (nB (18446744073709551616 : Nat) (4 : Nat) (upN l (xN l x_2.fst) x_2.fst x_2.snd)) *
     vB (18446744073709551616 : Nat)
     (nB (18446744073709551616 : Nat) (4 : Nat)
     ((vB (18446744073709551616 : Nat) (nB (18446744073709551616 : Nat) (4 : Nat) (numOf (fldOf (l.getD (↑x_1 : Int).toNat (D.val (Value.bool false))) (0 : Nat))).toNat) +
     vB (18446744073709551616 : Nat)
     (nB (18446744073709551616 : Nat) (4 : Nat)
     (ngS (vB (18446744073709551616 : Nat) (nB (18446744073709551616 : Nat) (4 : Nat) (numOf (fldOf (l.getD (↑x_2.snd : Int).toNat (D.val (Value.bool false))) (0 : Nat))).toNat))))) %
     LQ)) %
     LQ)))) =
     some (Blk.fix (D.arr IntKind.u64 (4 : Nat) (nB (18446744073709551616 : Nat) (4 : Nat) (upN l (xN l (↑x_1 : Int).toNat) (↑x_1 : Int).toNat (IntKind.i64.wrap ((↑x_2.snd : Int) + (1 : Int))).toNat)))) ∧
     True) ∧
     true = true) ∧
     ((↑(↑x_1 : Int).toNat : Int) = (↑x_1 : Int) ∧ (IntKind.i64.wrap ((↑x_2.snd : Int) + (1 : Int))).toNat ≤ l.length) ∧ l.length - (IntKind.i64.wrap ((↑x_2.snd : Int) + (1 : Int))).toNat < l.length - x_2.snd
    | false =>
     True ∧
     True ∧
     ((AV.d (D.val (Value.int IntKind.i64 (IntKind.i64.wrap ((↑x_2.snd : Int) + (1 : Int))))) = AV.d (D.val (Value.int IntKind.i64 (↑(IntKind.i64.wrap ((↑x_2.snd : Int) + (1 : Int))).toNat : Int))) ∧ True) ∧
     (sm (some (Blk.fix (D.arr IntKind.u64 (4 : Nat) [(0 : Int), (0 : Int), (0 : Int), (0 : Int)]))) ∧
     sm (some (Blk.fix (D.arr IntKind.u64 (4 : Nat) (nB (18446744073709551616 : Nat) (4 : Nat) (atN l x.toNat x_1))))) ∧
     sm (some (Blk.fix (D.st [D.val (Value.int IntKind.i64 (numOf (fldOf (l.getD (↑x_1 : Int).toNat (D.val (Value.bool false))) (0 : Nat)))), D.arr IntKind.u64 (4 : Nat) (arrOf (fldOf (l.getD (↑x_1 : Int).toNat (D.val (Value.bool false))) (1 : Nat)))]))) ∧
     some (Blk.fix (D.arr IntKind.u64 (4 : Nat) (nB (18446744073709551616 : Nat) (4 : Nat) (upN l x.toNat x_2.fst x_2.snd)))) =
     some (Blk.fix (D.arr IntKind.u64 (4 : Nat) (nB (18446744073709551616 : Nat) (4 : Nat) (upN l x.toNat (↑x_1 : Int).toNat (IntKind.i64.wrap ((↑x_2.snd : Int) + (1 : Int))).toNat)))) ∧
     some (Blk.fix (D.arr IntKind.u64 (4 : Nat) (nB (18446744073709551616 : Nat) (4 : Nat) (upN l (xN l x_2.fst) x_2.fst x_2.snd)))) =
     some (Blk.fix (D.arr IntKind.u64 (4 : Nat) (nB (18446744073709551616 : Nat) (4 : Nat) (upN l (xN l (↑x_1 : Int).toNat) (↑x_1 : Int).toNat (IntKind.i64.wrap ((↑x_2.snd : Int) + (1 : Int))).toNat)))) ∧
     True) ∧
     true = true) ∧
     ((↑(↑x_1 : Int).toNat : Int) = (↑x_1 : Int) ∧ (IntKind.i64.wrap ((↑x_2.snd : Int) + (1 : Int))).toNat ≤ l.length) ∧ l.length - (IntKind.i64.wrap ((↑x_2.snd : Int) + (1 : Int))).toNat < l.length - x_2.snd
   | false =>
    (Nat.beq (7 : Nat) (7 : Nat) = true ∧ (4 : Nat) ≠ (0 : Nat) ∧ (4 : Nat) = (4 : Nat) ∧ true = true) ∧
    (Nat.beq (9 : Nat) (9 : Nat) = true ∧ Sk.st [Sk.one, Sk.arr (4 : Nat)] = Sk.st [Sk.one, Sk.arr (4 : Nat)] ∧ (1 : Nat) < (2 : Nat)) ∧
    (Nat.beq (9 : Nat) (9 : Nat) = true ∧ (4 : Nat) ≠ (0 : Nat) ∧ (4 : Nat) = (4 : Nat) ∧ true = true) ∧
    (Nat.beq (10 : Nat) (10 : Nat) = true ∧ (4 : Nat) ≠ (0 : Nat) ∧ (4 : Nat) = (4 : Nat) ∧ true = true) ∧
    (Nat.beq (11 : Nat) (11 : Nat) = true ∧ (4 : Nat) ≠ (0 : Nat) ∧ (4 : Nat) = (4 : Nat) ∧ true = true) ∧
    (∃ (l_1 : List Int), [D.arr IntKind.u64 (4 : Nat) (nB (18446744073709551616 : Nat) (4 : Nat) (upN l (xN l x_2.fst) x_2.fst x_2.snd))] = [D.arr IntKind.u64 (4 : Nat) l_1] ∧ isN l_1) ∧
    (∃ (l_1 : List Int),
    ∃ (m : List Int),
    [D.arr IntKind.u64 (4 : Nat) (nB (18446744073709551616 : Nat) (4 : Nat) (upN l x.toNat x_2.fst x_2.snd)),
    D.arr IntKind.u64 (4 : Nat) (nB (18446744073709551616 : Nat) (4 : Nat) (ivS (vB (18446744073709551616 : Nat) (nB (18446744073709551616 : Nat) (4 : Nat) (upN l (xN l x_2.fst) x_2.fst x_2.snd)))))] =
    [D.arr IntKind.u64 (4 : Nat) l_1, D.arr IntKind.u64 (4 : Nat) m] ∧
    isN l_1 ∧ isN m) ∧
    (∃ (l_1 : List Int),
    ∃ (m : List Int),
    [D.arr IntKind.u64 (4 : Nat) (arrOf (fldOf (l.getD (↑x_1 : Int).toNat (D.val (Value.bool false))) (1 : Nat))),
    D.arr IntKind.u64 (4 : Nat)
    (nB (18446744073709551616 : Nat) (4 : Nat)
    (vB (18446744073709551616 : Nat) (nB (18446744073709551616 : Nat) (4 : Nat) (upN l x.toNat x_2.fst x_2.snd)) *
    vB (18446744073709551616 : Nat) (nB (18446744073709551616 : Nat) (4 : Nat) (ivS (vB (18446744073709551616 : Nat) (nB (18446744073709551616 : Nat) (4 : Nat) (upN l (xN l x_2.fst) x_2.fst x_2.snd))))) %
    LQ))] =
    [D.arr IntKind.u64 (4 : Nat) l_1, D.arr IntKind.u64 (4 : Nat) m] ∧
    isN l_1 ∧ isN m) ∧
    (∃ (l_1 : List Int),
    ∃ (m : List Int),
    [D.arr IntKind.u64 (4 : Nat) (nB (18446744073709551616 : Nat) (4 : Nat) (atN l x.toNat x_1)),
    D.arr IntKind.u64 (4 : Nat)
    (nB (18446744073709551616 : Nat) (4 : Nat)
    (vB (18446744073709551616 : Nat) (arrOf (fldOf (l.getD (↑x_1 : Int).toNat (D.val (Value.bool false))) (1 : Nat))) *
    vB (18446744073709551616 : Nat)
    (nB (18446744073709551616 : Nat) (4 : Nat)
    (vB (18446744073709551616 : Nat) (nB (18446744073709551616 : Nat) (4 : Nat) (upN l x.toNat x_2.fst x_2.snd)) *
    vB (18446744073709551616 : Nat) (nB (18446744073709551616 : Nat) (4 : Nat) (ivS (vB (18446744073709551616 : Nat) (nB (18446744073709551616 : Nat) (4 : Nat) (upN l (xN l x_2.fst) x_2.fst x_2.snd))))) %
    LQ)) %
    LQ))] =
    [D.arr IntKind.u64 (4 : Nat) l_1, D.arr IntKind.u64 (4 : Nat) m] ∧
    isN l_1 ∧ isN m) ∧
    (Nat.beq (7 : Nat) (7 : Nat) = true ∧ Sk.arr (4 : Nat) = Sk.arr (4 : Nat) ∧ (4 : Nat) ≠ (0 : Nat) ∧ (4 : Nat) = (4 : Nat) ∧ false = false) ∧
    True ∧
    True ∧
    ((AV.d (D.val (Value.int IntKind.i64 (IntKind.i64.wrap ((↑x_1 : Int) + (1 : Int))))) = AV.d (D.val (Value.int IntKind.i64 (↑(IntKind.i64.wrap ((↑x_1 : Int) + (1 : Int))).toNat : Int))) ∧ True) ∧
    (sm (some (Blk.fix (D.arr IntKind.u64 (4 : Nat) [(0 : Int), (0 : Int), (0 : Int), (0 : Int)]))) ∧
    some
    (Blk.fix
    (D.arr IntKind.u64 (4 : Nat)
    (nB (18446744073709551616 : Nat) (4 : Nat)
    ((vB (18446744073709551616 : Nat) (nB (18446744073709551616 : Nat) (4 : Nat) (atN l x.toNat x_1)) +
    vB (18446744073709551616 : Nat)
    (nB (18446744073709551616 : Nat) (4 : Nat)
    (vB (18446744073709551616 : Nat) (arrOf (fldOf (l.getD (↑x_1 : Int).toNat (D.val (Value.bool false))) (1 : Nat))) *
    vB (18446744073709551616 : Nat)
    (nB (18446744073709551616 : Nat) (4 : Nat)
    (vB (18446744073709551616 : Nat) (nB (18446744073709551616 : Nat) (4 : Nat) (upN l x.toNat x_2.fst x_2.snd)) *
    vB (18446744073709551616 : Nat) (nB (18446744073709551616 : Nat) (4 : Nat) (ivS (vB (18446744073709551616 : Nat) (nB (18446744073709551616 : Nat) (4 : Nat) (upN l (xN l x_2.fst) x_2.fst x_2.snd))))) %
    LQ)) %
    LQ))) %
    LQ)))) =
    some (Blk.fix (D.arr IntKind.u64 (4 : Nat) (nB (18446744073709551616 : Nat) (4 : Nat) (atN l x.toNat (IntKind.i64.wrap ((↑x_1 : Int) + (1 : Int))).toNat)))) ∧
    True) ∧
    true = true) ∧
    (IntKind.i64.wrap ((↑x_1 : Int) + (1 : Int))).toNat ≤ l.length ∧ l.length - (IntKind.i64.wrap ((↑x_1 : Int) + (1 : Int))).toNat < l.length - x_1
  | false =>
   (Nat.beq (7 : Nat) (7 : Nat) = true ∧ (4 : Nat) ≠ (0 : Nat) ∧ (4 : Nat) = (4 : Nat) ∧ true = true) ∧
   (Sk.arr (4 : Nat) = Sk.arr (4 : Nat) ∧ (4 : Nat) ≠ (0 : Nat) ∧ (4 : Nat) = (4 : Nat) ∧ false = false) ∧ True ∧ (((4 : Nat) ≠ (0 : Nat) ∧ (4 : Nat) = (4 : Nat) ∧ true = true) ∧ false = false ∧ True) ∧ D.tup [D.arr IntKind.u64 (4 : Nat) (nB (18446744073709551616 : Nat) (4 : Nat) (atN l x.toNat x_1)), D.val (Value.int IntKind.i64 (0 : Int))] = F) := by kernel_rfl
end Go.Proofs.Ytfbaghocbipbiaa
namespace Go.Proofs.Ytfbaghocbipbiaa
open Go Go.Vg
theorem upN_lt (l : List D) (z i : Nat) : ∀ j, upN l z i j < 2 ^ 256
 | 0 => by
  show 1 < 2 ^ 256
  exact Nat.one_lt_two_pow (by decide)
 | j + 1 => by
  rw [upN]
  split
  ·exact upN_lt l z i j
  ·exact md_256 _
theorem up_n4 (l : List D) (z i j : Nat) : vB 18446744073709551616 (nB 18446744073709551616 4 (upN l z i j)) = upN l z i j := n4v (upN_lt l z i j)
theorem ng_n4 (a : Nat) : vB 18446744073709551616 (nB 18446744073709551616 4 (ngS a)) = ngS a := n4v (md_256 _)
theorem iv_n4 (a : Nat) : vB 18446744073709551616 (nB 18446744073709551616 4 (ivS a)) = ivS a := n4v (by unfold ivS; rw [opq_eq]; exact md_256 _)
theorem at_lt (l : List D) (z : Nat) : ∀ i, atN l z i < 2 ^ 256
 | 0 => by
  show 0 < 2 ^ 256
  exact Nat.two_pow_pos _
 | i + 1 => by
  rw [atN]
  exact md_256 _
theorem at_n4 (l : List D) (z i : Nat) : vB 18446744073709551616 (nB 18446744073709551616 4 (atN l z i)) = atN l z i := n4v (at_lt l z i)
theorem sm_n4 {n : Nat} (h : n < 9223372036854775808) : vB 18446744073709551616 (nB 18446744073709551616 4 n) = n := n4v (Nat.lt_trans h (by decide))
theorem sf_zero {l : List D} {n : Nat} (h : sfN l n = 0) : ∀ i, i < n → sfI l i = 0 := by
 induction n with
 | zero => exact fun i hi => absurd hi (Nat.not_lt_zero i)
 | succ n ih =>
  intro i hi
  have h0 : sfN l n = 0 := by
   by_cases e : sfN l n = 0
   ·exact e
   ·rw [sfN, if_neg e] at h; exact h
  rw [sfN, if_pos h0] at h
  by_cases e : i = n
  ·rw [e]; exact h
  ·exact ih h0 i (by omega)
structure FineS (l : List D) (x : Int) : Prop where
 x0 : 0 ≤ x ∧ x ≤ 255
 len : 0 < l.length ∧ l.length ≤ 20
 at_ : ∀ i, i < l.length → (1 ≤ xOf (l.getD i default) ∧ xOf (l.getD i default) ≤ 255) ∧ yOf (l.getD i default) < LQ ∧ hasX (xOf (l.getD i default)) (l.take i) = false
theorem fineS {l : List D} {x : Int} (h : sfE l x = 0) : FineS l x := by
 unfold sfE at h
 split at h
 ·exact absurd h (by decide)
 rename_i h1
 split at h
 ·exact absurd h (by decide)
 rename_i h2
 refine ⟨by omega, by omega, fun i hi => ?_⟩
 have := sf_zero h i hi
 unfold sfI at this
 split at this
 ·exact absurd this (by decide)
 rename_i h3
 split at this
 ·exact absurd this (by decide)
 rename_i h4
 split at this
 ·exact absurd this (by decide)
 rename_i h5
 exact ⟨by omega, by omega, by simpa using h5⟩
set_option maxRecDepth 100000 in
theorem m9 : Meets Try.prog 9 sp9 := by
 refine meets_of_owed (C := c9) ⟨tab_ok, lkS_ok ⟨m43, m46, m47, m45, m44, m48, trivial⟩⟩ (by kernel_rfl) (by kernel_rfl : Try.prog.funcs[9]? = some Try.f9) (by kernel_rfl) (by kernel_rfl) (by kernel_rfl) _ ?_
 rintro _ ⟨l, x, rfl, hl⟩
 refine ⟨fun _ => rfl, inv9 l x, ?_⟩
 show owed c9 (inv9 l x) Try.f9 [.slc 5 l, i64 x] (.tup [n4 (atR l x), i64 (sfE l x)])
 rw [vc9]
 have hl2 := hl.2
 have ex1 : (∃ (l_1 : List D), ∃ (x_1 : Int), [D.slc 5 l, D.val (Value.int IntKind.i64 x)] = [D.slc 5 l_1, D.val (Value.int IntKind.i64 x_1)] ∧ oks l_1) = True := eq_true ⟨_, _, rfl, hl⟩
 have exn : ∀ n : Nat, n < 9223372036854775808 → (∃ (n_1 : Nat), [D.val (Value.int IntKind.i64 (n : Int))] = [D.val (Value.int IntKind.i64 (n_1 : Int))] ∧ n_1 < 9223372036854775808) = True := fun n hn => eq_true ⟨n, rfl, hn⟩
 have exN : ∀ a b : Nat, (∃ (l_1 : List Int), ∃ (m : List Int), [D.arr IntKind.u64 4 (nB 18446744073709551616 4 a), D.arr IntKind.u64 4 (nB 18446744073709551616 4 b)] = [D.arr IntKind.u64 4 l_1, D.arr IntKind.u64 4 m] ∧ isN l_1 ∧ isN m) = True := fun a b => eq_true ⟨_, _, rfl, isN_n4 a, isN_n4 b⟩
 have exN1 : ∀ a : Nat, (∃ (l_1 : List Int), [D.arr IntKind.u64 4 (nB 18446744073709551616 4 a)] = [D.arr IntKind.u64 4 l_1] ∧ isN l_1) = True := fun a => eq_true ⟨_, rfl, isN_n4 a⟩
 have exY : ∀ (v : List Int) (b : Nat), isN v → (∃ (l_1 : List Int), ∃ (m : List Int), [D.arr IntKind.u64 4 v, D.arr IntKind.u64 4 (nB 18446744073709551616 4 b)] = [D.arr IntKind.u64 4 l_1, D.arr IntKind.u64 4 m] ∧ isN l_1 ∧ isN m) = True := fun v b hv => eq_true ⟨_, _, rfl, hv, isN_n4 b⟩
 simp (decide := true) only [ex1, exN, exN1, up_n4, ng_n4, iv_n4, at_n4, md_n4, eq_self, true_and, and_true, ne_eq, not_false_eq_true]
 split
 ·rename_i h
  have h := bne_iff_ne.1 h
  rw [show atR l x = 0 from if_neg h]
  rfl
 rename_i h
 have h := bne_eq_false_iff_eq.1 h
 have hf := fineS h
 rw [show atR l x = atN l x.toNat l.length from if_pos h, h]
 obtain ⟨z, rfl⟩ : ∃ z : Nat, x = z := ⟨x.toNat, by have := hf.x0; omega⟩
 have hz : z < 9223372036854775808 := by have := hf.x0; omega
 simp only [Int.toNat_natCast, exn z hz, sm_n4 hz, true_and]
 have z0 : [(0 : Int), 0, 0, 0] = nB 18446744073709551616 4 (atN l z 0) := by rw [atN]; rfl
 have o0 : ∀ w i, [(1 : Int), 0, 0, 0] = nB 18446744073709551616 4 (upN l w i 0) := fun w i => by rw [upN]; rfl
 refine ⟨?_, fun i hi => ?_⟩
 ·and_intros <;> first | rfl | exact Nat.zero_le _ | exact congrArg (fun q => some (Blk.fix (D.arr .u64 4 q))) z0
 split
 ·rename_i hlt
  have hlt : i < l.length := by have := of_decide_eq_true hlt; omega
  obtain ⟨k, v, e, hv, _⟩ := elS hl hlt
  have ek : xOf (l.getD i default) = k := by rw [show l.getD i default = sh_ k v from e]; rfl
  have ey : yOf (l.getD i default) = vB 18446744073709551616 v := by rw [show l.getD i default = sh_ k v from e]; rfl
  have hk := (hf.at_ i hlt).1
  rw [ek] at hk
  obtain ⟨n, rfl⟩ : ∃ n : Nat, k = n := ⟨k.toNat, by omega⟩
  have hn : n < 9223372036854775808 := by omega
  have exi : xN l i = n := by unfold xN; rw [ek]; rfl
  simp only [e, s0, s1, Int.toNat_natCast, exn n hn, sm_n4 hn, exY v _ hv, wSS hlt hl2, true_and, and_true]
  refine ⟨⟨by omega, by omega⟩, ?_, ?_⟩
  ·and_intros <;> first | rfl | exact Nat.zero_le _ | exact congrArg (fun q => some (Blk.fix (D.arr .u64 4 q))) (o0 _ _)
  rintro ⟨i', j⟩ ⟨hii, hj⟩
  obtain rfl : i' = i := by simp only at hii; omega
  simp only at hj ⊢
  split
  ·rename_i hlj
   have hlj : j < l.length := by have := of_decide_eq_true hlj; omega
   obtain ⟨k2, v2, e2, hv2, _⟩ := elS hl hlj
   have ek2 : xOf (l.getD j default) = k2 := by rw [show l.getD j default = sh_ k2 v2 from e2]; rfl
   have hk2 := (hf.at_ j hlj).1
   rw [ek2] at hk2
   obtain ⟨n2, rfl⟩ : ∃ n : Nat, k2 = n := ⟨k2.toNat, by omega⟩
   have hn2 : n2 < 9223372036854775808 := by omega
   have exj : xN l j = n2 := by unfold xN; rw [ek2]; rfl
   simp only [e2, s0, s1, Int.toNat_natCast, exn n2 hn2, sm_n4 hn2, wSS hlj hl2, exi, true_and, and_true]
   refine ⟨⟨by omega, by omega⟩, ?_⟩
   split
   ·rename_i hne
    have hne : i' ≠ j := fun a => by rw [a] at hne; simp at hne
    have u1 : ∀ w, upN l w i' (j + 1) = upN l w i' j * ((w + ngS n2) % LQ) % LQ := fun w => by rw [upN, if_neg hne, exj]
    simp only [u1, true_and]
    and_intros <;> first | rfl | omega | trivial
   ·rename_i hne
    have hne : i' = j := by have := bne_eq_false_iff_eq.1 hne; omega
    have u1 : ∀ w, upN l w i' (j + 1) = upN l w i' j := fun w => by rw [upN, if_pos hne]
    simp only [u1, true_and]
    and_intros <;> first | rfl | omega | trivial
  ·rename_i hlj
   have hlj := of_decide_eq_false hlj
   obtain rfl : j = l.length := by omega
   have u2 : atN l z (i' + 1) = (atN l z i' + vB 18446744073709551616 v * (upN l z i' l.length * ivS (upN l n i' l.length) % LQ) % LQ) % LQ := by
    rw [atN, tmN, ey, exi]
   simp only [exi, u2]
   and_intros <;> first | rfl | omega | trivial
 ·rename_i hlt
  have hlt := of_decide_eq_false hlt
  obtain rfl : i = l.length := by omega
  and_intros <;> first | rfl | trivial
end Go.Proofs.Ytfbaghocbipbiaa
namespace Go.Proofs.Ytfbaghocbipbiaa
open Go Go.Vg
noncomputable def tbN (l : List D) : Nat → Nat → Nat
 | 0, i => yOf (l.getD i default)
 | k + 1, i => if k + 1 ≤ i then ((tbN l k i + LQ - tbN l k (i - 1)) % LQ) * ivS ((xN l i + LQ - xN l (i - (k + 1))) % LQ) % LQ else tbN l k i
noncomputable def hrN (l : List D) (z : Nat) : Nat → Nat
 | 0 => 0
 | t + 1 => (hrN l z t * ((z + LQ - xN l (l.length - 1 - t)) % LQ) + tbN l (l.length - 1) (l.length - 1 - t)) % LQ
noncomputable def sbO (l m : List Int) : List Int := opq (dg ((vD l + LQ - vD m) % LQ))
noncomputable def mnO (l m : List Int) : List Int := opq (dg (vD l - vD m))
noncomputable def pwQ (l n m : List Int) : List Int := opq (dg (powN (vD l) (vD n) (vD m)))
noncomputable def tmO (l m : List Int) : List Int := opq (dg (vD l * vD m))
noncomputable def rsO (l m : List Int) : List Int := opq (dg (vD l % vD m))
noncomputable def plO (l m : List Int) : List Int := opq (dg (vD l + vD m))
noncomputable def sp49o : Go.Vg.Spec := ⟨sp49.pre, fun ds => dgs (sbO (intsOf (ds.headD default)) (intsOf (ds.getD 1 default))), false, [33, 33]⟩
noncomputable def sp52o : Go.Vg.Spec := ⟨sp52.pre, fun ds => dgs (mnO (intsOf (ds.headD default)) (intsOf (ds.getD 1 default))), false, [33, 33]⟩
noncomputable def sp51o : Go.Vg.Spec := ⟨sp51.pre, fun ds => dgs (pwQ (intsOf (ds.headD default)) (intsOf (ds.getD 1 default)) (intsOf (ds.getD 2 default))), false, [33, 33, 33]⟩
noncomputable def sp54o : Go.Vg.Spec := ⟨sp54.pre, fun ds => dgs (tmO (intsOf (ds.headD default)) (intsOf (ds.getD 1 default))), false, [33, 33]⟩
noncomputable def sp53o : Go.Vg.Spec := ⟨sp53.pre, fun ds => dgs (rsO (intsOf (ds.headD default)) (intsOf (ds.getD 1 default))), false, [33, 33]⟩
noncomputable def sp55o : Go.Vg.Spec := ⟨sp55.pre, fun ds => dgs (plO (intsOf (ds.headD default)) (intsOf (ds.getD 1 default))), false, [33, 33]⟩
def rwL (f : Nat → List Int) (n : Nat) : List D := (List.range n).map fun j => .ints .i64 (f j)
noncomputable def fA (l : List D) (i j : Nat) : List Int := if j < i then dg (yOf (l.getD j default)) else []
noncomputable def fB (l : List D) (k t j : Nat) : List Int := dg (if l.length - 1 - t < j then tbN l (k + 1) j else tbN l k j)
noncomputable def fC (l : List D) (k j : Nat) : List Int := dg (tbN l k j)
noncomputable def sp10 : Go.Vg.Spec := ⟨fun ds => ∃ l, ∃ z : Nat, ds = [.slc 5 l, i64 z] ∧ oks l ∧ sfE l z = 0, fun ds => n4 (hrN (xsOf (ds.headD default)) (numOf (ds.getD 1 default)).toNat (xsOf (ds.headD default)).length), true, [22, 3]⟩
noncomputable def c10 : Ctx := ⟨tab, lkS [(41, sp41), (50, sp50o), (49, sp49o), (42, sp42), (52, sp52o), (51, sp51o), (54, sp54o), (53, sp53o), (55, sp55o), (56, sp56)], [16], []⟩
noncomputable def inv10 (l : List D) (z : Nat) : Nat → Option Inv
 | 3 => some ⟨Nat, fun i => [(19, .d (i64 i))], fun i => [(16, .row 33 (.slc 1 (rwL (fA l i) l.length)))], fun s => (slotN s 19).toNat, fun _ i => i ≤ l.length, fun i => l.length - i⟩
 | 8 => some ⟨Nat, fun k => [(8, .d (i64 (k + 1 : Nat)))], fun k => [(16, .row 33 (.slc 1 (rwL (fC l k) l.length)))], fun s => (slotN s 8).toNat - 1, fun _ k => k + 1 ≤ l.length, fun k => l.length - k⟩
 | 11 => some ⟨Nat × Nat, fun p => [(9, .d (i64 (l.length - 1 - p.2 : Nat)))], fun p => [(16, .row 33 (.slc 1 (rwL (fB l p.1 p.2) l.length)))], fun s => ((slotN s 8).toNat - 1, l.length - 1 - (slotN s 9).toNat), fun s p => ((p.1 + 1 : Nat) : Int) = slotN s 8 ∧ p.2 ≤ l.length - 1 - p.1, fun p => l.length - p.2⟩
 | 18 => some ⟨Nat, fun t => [(13, .d (.val (.int .i64 ((l.length : Int) - 1 - t)))), (12, .d (dgs (dg (hrN l z t))))], fun _ => [], fun s => ((l.length : Int) - 1 - slotN s 13).toNat, fun _ t => t ≤ l.length, fun t => l.length - t⟩
 | _ => none
--KEEP Nat.gcd List.replicate Go.Vg.opq Go.Vg.eqB Go.Vg.vB Go.Vg.nB Go.Vg.okd Go.Vg.okw Go.Vg.dg Go.Vg.dig Go.Vg.trimL okb lenOk lenS len1 sbd sbb dif bor cmpN shf i64ok subL dvq dvr dve sbD adl adc mulL mulH stL stH smN smC addL addK TimI TimJ isN invN ivX ivE InvI LQ ngS ivS dgP dgO dgL xOf yOf isSh oks hasX sfI sfN sfE tL xN upN tmN atN atR tbN hrN rwL fA fB fC powN n256 sbO mnO pwQ tmO rsO plO
set_option maxRecDepth 100000 in
theorem vc10  (l : List D) (z : Nat) (F : D)  :
    (owed c10 (inv10 l z) Try.f10 [.slc 5 l, i64 z] F) = (
 (True ∧ (4 : Nat) ≠ (0 : Nat)) ∧
 True ∧
 True ∧
 ((0 : Int) ≤ (↑l.length : Int) ∧ (↑l.length : Int) ≤ (↑l.length : Int) ∧ (↑l.length : Int) ≤ (281474976710656 : Int) ∧ (↑(24 : Nat) : Int) * (↑l.length : Int) ≤ (281474976710656 : Int) ∧ (1 : Nat) = (1 : Nat)) ∧
 True ∧
 True ∧
 True ∧
 True ∧
 (((sm (AV.d (D.slc (5 : Nat) l)) ∧
 sm (AV.d (D.val (Value.int IntKind.i64 (↑z : Int)))) ∧
 sm (AV.ptr (4 : Nat) []) ∧
 sm (AV.row (16 : Nat)) ∧ sm (AV.d (D.slc (5 : Nat) l)) ∧ sm (AV.d (D.val (Value.int IntKind.i64 (↑l.length : Int)))) ∧ sm (AV.row (16 : Nat)) ∧ sm (AV.d (D.slc (5 : Nat) l)) ∧ sm (AV.d (D.val (Value.int IntKind.i64 (↑l.length : Int)))) ∧ AV.d (D.val (Value.int IntKind.i64 (0 : Int))) = AV.d (D.val (Value.int IntKind.i64 (↑(Int.toNat (0 : Int)) : Int))) ∧ True) ∧
 (sm (some (Blk.fix (D.arr IntKind.u64 (4 : Nat) [(0 : Int), (0 : Int), (0 : Int), (0 : Int)]))) ∧ some (Blk.row (33 : TypeId) (D.slc (1 : Nat) (List.replicate (↑l.length : Int).toNat (D.ints IntKind.i64 [])))) = some (Blk.row (33 : TypeId) (D.slc (1 : Nat) (rwL (fA l (Int.toNat (0 : Int))) l.length))) ∧ True) ∧ true = true) ∧
 Int.toNat (0 : Int) ≤ l.length) ∧
 ∀ (x : Nat),
 x ≤ l.length →
 true = true ∧
 True ∧
 match decide ((↑x : Int) < (↑l.length : Int)) with
 | true =>
  True ∧
  ((0 : Int) ≤ (↑x : Int) ∧
  (↑x : Int) < (↑l.length : Int) ∧ (5 : Nat) ≠ (0 : Nat) ∧ (5 : Nat) = (5 : Nat) ∧ D.st [D.val (Value.int IntKind.i64 (numOf (fldOf (l.getD (↑x : Int).toNat (D.val (Value.bool false))) (0 : Nat)))), D.arr IntKind.u64 (4 : Nat) (arrOf (fldOf (l.getD (↑x : Int).toNat (D.val (Value.bool false))) (1 : Nat)))] = l.getD (↑x : Int).toNat (D.val (Value.bool false))) ∧
  ((5 : Nat) ≠ (0 : Nat) ∧ (5 : Nat) = (5 : Nat) ∧ true = true) ∧
  (True ∧ (5 : Nat) ≠ (0 : Nat)) ∧
  True ∧
  (Sk.st [Sk.one, Sk.arr (4 : Nat)] = Sk.st [Sk.one, Sk.arr (4 : Nat)] ∧ (5 : Nat) ≠ (0 : Nat) ∧ (5 : Nat) = (5 : Nat) ∧ false = false) ∧
  True ∧
  True ∧
  (Sk.st [Sk.one, Sk.arr (4 : Nat)] = Sk.st [Sk.one, Sk.arr (4 : Nat)] ∧ (1 : Nat) < (2 : Nat)) ∧
  ((4 : Nat) ≠ (0 : Nat) ∧ (4 : Nat) = (4 : Nat) ∧ true = true) ∧
  (∃ (l_1 : List Int), [D.arr IntKind.u64 (4 : Nat) (arrOf (fldOf (l.getD (↑x : Int).toNat (D.val (Value.bool false))) (1 : Nat)))] = [D.arr IntKind.u64 (4 : Nat) l_1] ∧ okw l_1 ∧ l_1.length = (4 : Nat)) ∧
  ((0 : Int) ≤ (↑x : Int) ∧ (↑x : Int) < (↑(rwL (fA l x) l.length).length : Int) ∧ (1 : Nat) ≠ (0 : Nat) ∧ (1 : Nat) = (1 : Nat)) ∧
  ((↑x : Int).toNat < (rwL (fA l x) l.length).length ∧ (1 : Nat) = (1 : Nat) ∧ (1 : Nat) = (1 : Nat)) ∧
  True ∧
  True ∧
  ((sm (AV.d (D.slc (5 : Nat) l)) ∧
  sm (AV.d (D.val (Value.int IntKind.i64 (↑z : Int)))) ∧
  sm (AV.ptr (4 : Nat) []) ∧
  sm (AV.row (16 : Nat)) ∧
  sm (AV.d (D.slc (5 : Nat) l)) ∧
  sm (AV.d (D.val (Value.int IntKind.i64 (↑l.length : Int)))) ∧
  sm (AV.row (16 : Nat)) ∧ sm (AV.d (D.slc (5 : Nat) l)) ∧ sm (AV.d (D.val (Value.int IntKind.i64 (↑l.length : Int)))) ∧ AV.d (D.val (Value.int IntKind.i64 (IntKind.i64.wrap ((↑x : Int) + (1 : Int))))) = AV.d (D.val (Value.int IntKind.i64 (↑(IntKind.i64.wrap ((↑x : Int) + (1 : Int))).toNat : Int))) ∧ True) ∧
  (sm (some (Blk.fix (D.arr IntKind.u64 (4 : Nat) [(0 : Int), (0 : Int), (0 : Int), (0 : Int)]))) ∧
  some (Blk.row (33 : TypeId) (D.slc (1 : Nat) ((rwL (fA l x) l.length).set (↑x : Int).toNat (D.ints IntKind.i64 (dg (vB (18446744073709551616 : Nat) (arrOf (fldOf (l.getD (↑x : Int).toNat (D.val (Value.bool false))) (1 : Nat))))))))) =
  some (Blk.row (33 : TypeId) (D.slc (1 : Nat) (rwL (fA l (IntKind.i64.wrap ((↑x : Int) + (1 : Int))).toNat) l.length))) ∧
  True) ∧
  true = true) ∧
  (IntKind.i64.wrap ((↑x : Int) + (1 : Int))).toNat ≤ l.length ∧ l.length - (IntKind.i64.wrap ((↑x : Int) + (1 : Int))).toNat < l.length - x
 | false =>
  True ∧
  (((sm (AV.d (D.slc (5 : Nat) l)) ∧
  sm (AV.d (D.val (Value.int IntKind.i64 (↑z : Int)))) ∧
  sm (AV.ptr (4 : Nat) []) ∧
  sm (AV.row (16 : Nat)) ∧
  AV.d (D.val (Value.int IntKind.i64 (1 : Int))) = AV.d (D.val (Value.int IntKind.i64 (↑(1 : Nat) : Int))) ∧
  sm (AV.d (D.slc (5 : Nat) l)) ∧ sm (AV.d (D.val (Value.int IntKind.i64 (↑l.length : Int)))) ∧ sm (AV.row (16 : Nat)) ∧ sm (AV.d (D.slc (5 : Nat) l)) ∧ sm (AV.d (D.val (Value.int IntKind.i64 (↑l.length : Int)))) ∧ sm (AV.d (D.val (Value.int IntKind.i64 (↑x : Int)))) ∧ sm (AV.d (D.val (Value.bool (decide ((↑x : Int) < (↑l.length : Int)))))) ∧ True) ∧
  (sm (some (Blk.fix (D.arr IntKind.u64 (4 : Nat) [(0 : Int), (0 : Int), (0 : Int), (0 : Int)]))) ∧ some (Blk.row (33 : TypeId) (D.slc (1 : Nat) (rwL (fA l x) l.length))) = some (Blk.row (33 : TypeId) (D.slc (1 : Nat) (rwL (fC l ((1 : Nat) - (1 : Nat))) l.length))) ∧ True) ∧ true = true) ∧
  (1 : Nat) ≤ l.length) ∧
  ∀ (x_1 : Nat),
  x_1 + (1 : Nat) ≤ l.length →
  true = true ∧
  True ∧
  True ∧
  True ∧
  True ∧
  match decide ((↑(x_1 + (1 : Nat)) : Int) < (↑l.length : Int)) with
  | true =>
   True ∧
   True ∧
   True ∧
   True ∧
   (((sm (AV.d (D.slc (5 : Nat) l)) ∧
   sm (AV.d (D.val (Value.int IntKind.i64 (↑z : Int)))) ∧
   sm (AV.ptr (4 : Nat) []) ∧
   sm (AV.row (16 : Nat)) ∧
   sm (AV.d (D.val (Value.int IntKind.i64 (↑(x_1 + (1 : Nat)) : Int)))) ∧
   AV.d (D.val (Value.int IntKind.i64 (IntKind.i64.wrap ((↑l.length : Int) - (1 : Int))))) = AV.d (D.val (Value.int IntKind.i64 (↑(l.length - (1 : Nat) - (l.length - (1 : Nat) - (IntKind.i64.wrap ((↑l.length : Int) - (1 : Int))).toNat)) : Int))) ∧
   sm (AV.d (D.slc (5 : Nat) l)) ∧
   sm (AV.d (D.val (Value.int IntKind.i64 (↑l.length : Int)))) ∧
   sm (AV.row (16 : Nat)) ∧
   sm (AV.d (D.slc (5 : Nat) l)) ∧
   sm (AV.d (D.val (Value.int IntKind.i64 (↑l.length : Int)))) ∧
   sm (AV.d (D.val (Value.int IntKind.i64 (↑x : Int)))) ∧
   sm (AV.d (D.val (Value.bool (decide ((↑x : Int) < (↑l.length : Int)))))) ∧
   sm (AV.d (D.val (Value.int IntKind.i64 (↑(x_1 + (1 : Nat)) : Int)))) ∧
   sm (AV.d (D.slc (5 : Nat) l)) ∧
   sm (AV.d (D.val (Value.int IntKind.i64 (↑l.length : Int)))) ∧
   sm (AV.d (D.val (Value.bool (decide ((↑(x_1 + (1 : Nat)) : Int) < (↑l.length : Int)))))) ∧ sm (AV.d (D.slc (5 : Nat) l)) ∧ sm (AV.d (D.val (Value.int IntKind.i64 (↑l.length : Int)))) ∧ sm (AV.d (D.val (Value.int IntKind.i64 (IntKind.i64.wrap ((↑l.length : Int) - (1 : Int)))))) ∧ True) ∧
   (sm (some (Blk.fix (D.arr IntKind.u64 (4 : Nat) [(0 : Int), (0 : Int), (0 : Int), (0 : Int)]))) ∧
   some (Blk.row (33 : TypeId) (D.slc (1 : Nat) (rwL (fC l x_1) l.length))) = some (Blk.row (33 : TypeId) (D.slc (1 : Nat) (rwL (fB l ((↑(x_1 + (1 : Nat)) : Int).toNat - (1 : Nat)) (l.length - (1 : Nat) - (IntKind.i64.wrap ((↑l.length : Int) - (1 : Int))).toNat)) l.length))) ∧ True) ∧
   true = true) ∧
   (↑((↑(x_1 + (1 : Nat)) : Int).toNat - (1 : Nat) + (1 : Nat)) : Int) = (↑(x_1 + (1 : Nat)) : Int) ∧ l.length - (1 : Nat) - (IntKind.i64.wrap ((↑l.length : Int) - (1 : Int))).toNat ≤ l.length - (1 : Nat) - ((↑(x_1 + (1 : Nat)) : Int).toNat - (1 : Nat))) ∧
   ∀ (x_2 : Nat × Nat),
   (↑(x_2.fst + (1 : Nat)) : Int) = (↑(x_1 + (1 : Nat)) : Int) ∧ x_2.snd ≤ l.length - (1 : Nat) - x_2.fst →
   true = true ∧
   True ∧
   True ∧
   True ∧
   match decide ((↑(l.length - (1 : Nat) - x_2.snd) : Int) ≥ (↑(x_1 + (1 : Nat)) : Int)) with
   | true =>
    True ∧
    True ∧
    ((0 : Int) ≤ (↑(l.length - (1 : Nat) - x_2.snd) : Int) ∧
    (↑(l.length - (1 : Nat) - x_2.snd) : Int) < (↑l.length : Int) ∧
    (5 : Nat) ≠ (0 : Nat) ∧
    (5 : Nat) = (5 : Nat) ∧
    D.st [D.val (Value.int IntKind.i64 (numOf (fldOf (l.getD (↑(l.length - (1 : Nat) - x_2.snd) : Int).toNat (D.val (Value.bool false))) (0 : Nat)))), D.arr IntKind.u64 (4 : Nat) (arrOf (fldOf (l.getD (↑(l.length - (1 : Nat) - x_2.snd) : Int).toNat (D.val (Value.bool false))) (1 : Nat)))] =
    l.getD (↑(l.length - (1 : Nat) - x_2.snd) : Int).toNat (D.val (Value.bool false))) ∧
    (Sk.st [Sk.one, Sk.arr (4 : Nat)] = Sk.st [Sk.one, Sk.arr (4 : Nat)] ∧ (0 : Nat) < (2 : Nat)) ∧
    ((1 : Nat) ≠ (0 : Nat) ∧ (1 : Nat) = (1 : Nat) ∧ false = false) ∧
    True ∧
    ((1 : Nat) = (1 : Nat) ∧ (1 : Nat) ≤ (4096 : Nat)) ∧
    (∃ (l_1 : List Int), [D.ints IntKind.u64 [IntKind.u64.wrap (numOf (fldOf (l.getD (↑(l.length - (1 : Nat) - x_2.snd) : Int).toNat (D.val (Value.bool false))) (0 : Nat)))]] = [D.ints IntKind.u64 l_1] ∧ okw l_1 ∧ l_1.length ≤ (100 : Nat)) ∧
    True ∧
    True ∧
    True ∧
    True ∧
    ((0 : Int) ≤ IntKind.i64.wrap ((↑(l.length - (1 : Nat) - x_2.snd) : Int) - (↑(x_1 + (1 : Nat)) : Int)) ∧
    IntKind.i64.wrap ((↑(l.length - (1 : Nat) - x_2.snd) : Int) - (↑(x_1 + (1 : Nat)) : Int)) < (↑l.length : Int) ∧
    (5 : Nat) ≠ (0 : Nat) ∧
    (5 : Nat) = (5 : Nat) ∧
    D.st
    [D.val (Value.int IntKind.i64 (numOf (fldOf (l.getD (IntKind.i64.wrap ((↑(l.length - (1 : Nat) - x_2.snd) : Int) - (↑(x_1 + (1 : Nat)) : Int))).toNat (D.val (Value.bool false))) (0 : Nat)))),
    D.arr IntKind.u64 (4 : Nat) (arrOf (fldOf (l.getD (IntKind.i64.wrap ((↑(l.length - (1 : Nat) - x_2.snd) : Int) - (↑(x_1 + (1 : Nat)) : Int))).toNat (D.val (Value.bool false))) (1 : Nat)))] =
    l.getD (IntKind.i64.wrap ((↑(l.length - (1 : Nat) - x_2.snd) : Int) - (↑(x_1 + (1 : Nat)) : Int))).toNat (D.val (Value.bool false))) ∧
    (Sk.st [Sk.one, Sk.arr (4 : Nat)] = Sk.st [Sk.one, Sk.arr (4 : Nat)] ∧ (0 : Nat) < (2 : Nat)) ∧
    ((1 : Nat) ≠ (0 : Nat) ∧ (1 : Nat) = (1 : Nat) ∧ false = false) ∧
    True ∧
    ((1 : Nat) = (1 : Nat) ∧ (1 : Nat) ≤ (4096 : Nat)) ∧
    (∃ (l_1 : List Int), [D.ints IntKind.u64 [IntKind.u64.wrap (numOf (fldOf (l.getD (IntKind.i64.wrap ((↑(l.length - (1 : Nat) - x_2.snd) : Int) - (↑(x_1 + (1 : Nat)) : Int))).toNat (D.val (Value.bool false))) (0 : Nat)))]] = [D.ints IntKind.u64 l_1] ∧ okw l_1 ∧ l_1.length ≤ (100 : Nat)) ∧
    (∃ (a : Nat),
    ∃ (b : Nat),
    [D.ints IntKind.i64 (dgO [IntKind.u64.wrap (numOf (fldOf (l.getD (↑(l.length - (1 : Nat) - x_2.snd) : Int).toNat (D.val (Value.bool false))) (0 : Nat)))]),
    D.ints IntKind.i64 (dgO [IntKind.u64.wrap (numOf (fldOf (l.getD (IntKind.i64.wrap ((↑(l.length - (1 : Nat) - x_2.snd) : Int) - (↑(x_1 + (1 : Nat)) : Int))).toNat (D.val (Value.bool false))) (0 : Nat)))])] =
    [D.ints IntKind.i64 (dg a), D.ints IntKind.i64 (dg b)] ∧
    a < LQ ∧ b < LQ) ∧
    True ∧
    True ∧
    (0 : Nat) = (0 : Nat) ∧
    ((1 : Nat) = (1 : Nat) ∧ (1 : Nat) ≤ (4096 : Nat)) ∧
    (∃ (l : List Int), ∃ (m : List Int), [D.ints IntKind.i64 dgL, D.ints IntKind.i64 [(2 : Int)]] = [D.ints IntKind.i64 l, D.ints IntKind.i64 m] ∧ (okd l ∧ lenS l) ∧ (okd m ∧ lenS m) ∧ vB (65536 : Nat) m ≤ vB (65536 : Nat) l) ∧
    (0 : Nat) = (0 : Nat) ∧
    (∃ (a : Nat),
    ∃ (n : Nat),
    ∃ (m : Nat),
    [D.ints IntKind.i64
    (sbO (dgO [IntKind.u64.wrap (numOf (fldOf (l.getD (↑(l.length - (1 : Nat) - x_2.snd) : Int).toNat (D.val (Value.bool false))) (0 : Nat)))])
    (dgO [IntKind.u64.wrap (numOf (fldOf (l.getD (IntKind.i64.wrap ((↑(l.length - (1 : Nat) - x_2.snd) : Int) - (↑(x_1 + (1 : Nat)) : Int))).toNat (D.val (Value.bool false))) (0 : Nat)))])),
    D.ints IntKind.i64 (mnO dgL [(2 : Int)]), D.ints IntKind.i64 dgL] =
    [D.ints IntKind.i64 (dg a), D.ints IntKind.i64 (dg n), D.ints IntKind.i64 (dg m)] ∧
    n256 a ∧ n256 n ∧ n256 m ∧ (0 : Nat) < m) ∧
    True ∧
    True ∧
    True ∧
    True ∧
    True ∧
    ((0 : Int) ≤ (↑(l.length - (1 : Nat) - x_2.snd) : Int) ∧ (↑(l.length - (1 : Nat) - x_2.snd) : Int) < (↑(rwL (fB l x_2.fst x_2.snd) l.length).length : Int) ∧ (1 : Nat) ≠ (0 : Nat) ∧ (1 : Nat) = (1 : Nat)) ∧
    ((↑(l.length - (1 : Nat) - x_2.snd) : Int).toNat < (rwL (fB l x_2.fst x_2.snd) l.length).length ∧
    (1 : Nat) ≠ (0 : Nat) ∧
    (1 : Nat) = (1 : Nat) ∧
    D.ints IntKind.i64 (intsOf ((rwL (fB l x_2.fst x_2.snd) l.length).getD (↑(l.length - (1 : Nat) - x_2.snd) : Int).toNat (D.val (Value.bool false)))) =
    (rwL (fB l x_2.fst x_2.snd) l.length).getD (↑(l.length - (1 : Nat) - x_2.snd) : Int).toNat (D.val (Value.bool false)) ∧
    false = false) ∧
    True ∧
    True ∧
    True ∧
    ((0 : Int) ≤ IntKind.i64.wrap ((↑(l.length - (1 : Nat) - x_2.snd) : Int) - (1 : Int)) ∧
    IntKind.i64.wrap ((↑(l.length - (1 : Nat) - x_2.snd) : Int) - (1 : Int)) < (↑(rwL (fB l x_2.fst x_2.snd) l.length).length : Int) ∧ (1 : Nat) ≠ (0 : Nat) ∧ (1 : Nat) = (1 : Nat)) ∧
    ((IntKind.i64.wrap ((↑(l.length - (1 : Nat) - x_2.snd) : Int) - (1 : Int))).toNat < (rwL (fB l x_2.fst x_2.snd) l.length).length ∧
    (1 : Nat) ≠ (0 : Nat) ∧
    (1 : Nat) = (1 : Nat) ∧
    D.ints IntKind.i64 (intsOf ((rwL (fB l x_2.fst x_2.snd) l.length).getD (IntKind.i64.wrap ((↑(l.length - (1 : Nat) - x_2.snd) : Int) - (1 : Int))).toNat (D.val (Value.bool false)))) =
    (rwL (fB l x_2.fst x_2.snd) l.length).getD (IntKind.i64.wrap ((↑(l.length - (1 : Nat) - x_2.snd) : Int) - (1 : Int))).toNat (D.val (Value.bool false)) ∧
    false = false) ∧
    (∃ (a : Nat),
    ∃ (b : Nat),
    [D.ints IntKind.i64 (intsOf ((rwL (fB l x_2.fst x_2.snd) l.length).getD (↑(l.length - (1 : Nat) - x_2.snd) : Int).toNat (D.val (Value.bool false)))),
    D.ints IntKind.i64 (intsOf ((rwL (fB l x_2.fst x_2.snd) l.length).getD (IntKind.i64.wrap ((↑(l.length - (1 : Nat) - x_2.snd) : Int) - (1 : Int))).toNat (D.val (Value.bool false))))] =
    [D.ints IntKind.i64 (dg a), D.ints IntKind.i64 (dg b)] ∧
    a < LQ ∧ b < LQ) ∧
    True ∧
    (∃ (l_1 : List Int),
    ∃ (m : List Int),
    [D.ints IntKind.i64
    (sbO (intsOf ((rwL (fB l x_2.fst x_2.snd) l.length).getD (↑(l.length - (1 : Nat) - x_2.snd) : Int).toNat (D.val (Value.bool false))))
    (intsOf ((rwL (fB l x_2.fst x_2.snd) l.length).getD (IntKind.i64.wrap ((↑(l.length - (1 : Nat) - x_2.snd) : Int) - (1 : Int))).toNat (D.val (Value.bool false))))),
    D.ints IntKind.i64
    (pwQ
    (sbO (dgO [IntKind.u64.wrap (numOf (fldOf (l.getD (↑(l.length - (1 : Nat) - x_2.snd) : Int).toNat (D.val (Value.bool false))) (0 : Nat)))])
    (dgO [IntKind.u64.wrap (numOf (fldOf (l.getD (IntKind.i64.wrap ((↑(l.length - (1 : Nat) - x_2.snd) : Int) - (↑(x_1 + (1 : Nat)) : Int))).toNat (D.val (Value.bool false))) (0 : Nat)))]))
    (mnO dgL [(2 : Int)]) dgL)] =
    [D.ints IntKind.i64 l_1, D.ints IntKind.i64 m] ∧
    (okd l_1 ∧ lenS l_1) ∧ okd m ∧ lenS m) ∧
    (0 : Nat) = (0 : Nat) ∧
    (∃ (l_1 : List Int),
    ∃ (m : List Int),
    [D.ints IntKind.i64
    (tmO
    (sbO (intsOf ((rwL (fB l x_2.fst x_2.snd) l.length).getD (↑(l.length - (1 : Nat) - x_2.snd) : Int).toNat (D.val (Value.bool false))))
    (intsOf ((rwL (fB l x_2.fst x_2.snd) l.length).getD (IntKind.i64.wrap ((↑(l.length - (1 : Nat) - x_2.snd) : Int) - (1 : Int))).toNat (D.val (Value.bool false)))))
    (pwQ
    (sbO (dgO [IntKind.u64.wrap (numOf (fldOf (l.getD (↑(l.length - (1 : Nat) - x_2.snd) : Int).toNat (D.val (Value.bool false))) (0 : Nat)))])
    (dgO [IntKind.u64.wrap (numOf (fldOf (l.getD (IntKind.i64.wrap ((↑(l.length - (1 : Nat) - x_2.snd) : Int) - (↑(x_1 + (1 : Nat)) : Int))).toNat (D.val (Value.bool false))) (0 : Nat)))]))
    (mnO dgL [(2 : Int)]) dgL)),
    D.ints IntKind.i64 dgL] =
    [D.ints IntKind.i64 l_1, D.ints IntKind.i64 m] ∧
    (okd l_1 ∧ len1 l_1) ∧ (okd m ∧ len1 m) ∧ vB (65536 : Nat) m ≠ (0 : Nat)) ∧
    ((0 : Int) ≤ (↑(l.length - (1 : Nat) - x_2.snd) : Int) ∧ (↑(l.length - (1 : Nat) - x_2.snd) : Int) < (↑(rwL (fB l x_2.fst x_2.snd) l.length).length : Int) ∧ (1 : Nat) ≠ (0 : Nat) ∧ (1 : Nat) = (1 : Nat)) ∧
    ((↑(l.length - (1 : Nat) - x_2.snd) : Int).toNat < (rwL (fB l x_2.fst x_2.snd) l.length).length ∧ (1 : Nat) = (1 : Nat) ∧ (1 : Nat) = (1 : Nat)) ∧
    True ∧
    True ∧
    True ∧
    ((sm (AV.d (D.slc (5 : Nat) l)) ∧
    sm (AV.d (D.val (Value.int IntKind.i64 (↑z : Int)))) ∧
    sm (AV.ptr (4 : Nat) []) ∧
    sm (AV.row (16 : Nat)) ∧
    sm (AV.d (D.val (Value.int IntKind.i64 (↑(x_1 + (1 : Nat)) : Int)))) ∧
    AV.d (D.val (Value.int IntKind.i64 (IntKind.i64.wrap ((↑(l.length - (1 : Nat) - x_2.snd) : Int) - (1 : Int))))) =
    AV.d (D.val (Value.int IntKind.i64 (↑(l.length - (1 : Nat) - (l.length - (1 : Nat) - (IntKind.i64.wrap ((↑(l.length - (1 : Nat) - x_2.snd) : Int) - (1 : Int))).toNat)) : Int))) ∧
    sm (AV.d (D.slc (5 : Nat) l)) ∧
    sm (AV.d (D.val (Value.int IntKind.i64 (↑l.length : Int)))) ∧
    sm (AV.row (16 : Nat)) ∧
    sm (AV.d (D.slc (5 : Nat) l)) ∧
    sm (AV.d (D.val (Value.int IntKind.i64 (↑l.length : Int)))) ∧
    sm (AV.d (D.val (Value.int IntKind.i64 (↑x : Int)))) ∧
    sm (AV.d (D.val (Value.bool (decide ((↑x : Int) < (↑l.length : Int)))))) ∧
    sm (AV.d (D.val (Value.int IntKind.i64 (↑(x_1 + (1 : Nat)) : Int)))) ∧
    sm (AV.d (D.slc (5 : Nat) l)) ∧
    sm (AV.d (D.val (Value.int IntKind.i64 (↑l.length : Int)))) ∧
    sm (AV.d (D.val (Value.bool (decide ((↑(x_1 + (1 : Nat)) : Int) < (↑l.length : Int)))))) ∧
    sm (AV.d (D.slc (5 : Nat) l)) ∧
    sm (AV.d (D.val (Value.int IntKind.i64 (↑l.length : Int)))) ∧ sm (AV.d (D.val (Value.int IntKind.i64 (IntKind.i64.wrap ((↑l.length : Int) - (1 : Int)))))) ∧ True) ∧
    (sm (some (Blk.fix (D.arr IntKind.u64 (4 : Nat) [(0 : Int), (0 : Int), (0 : Int), (0 : Int)]))) ∧
    some
    (Blk.row (33 : TypeId)
    (D.slc (1 : Nat)
    ((rwL (fB l x_2.fst x_2.snd) l.length).set (↑(l.length - (1 : Nat) - x_2.snd) : Int).toNat
    (D.ints IntKind.i64
    (rsO
    (tmO
    (sbO (intsOf ((rwL (fB l x_2.fst x_2.snd) l.length).getD (↑(l.length - (1 : Nat) - x_2.snd) : Int).toNat (D.val (Value.bool false))))
    (intsOf ((rwL (fB l x_2.fst x_2.snd) l.length).getD (IntKind.i64.wrap ((↑(l.length - (1 : Nat) - x_2.snd) : Int) - (1 : Int))).toNat (D.val (Value.bool false)))))
    (pwQ
    (sbO (dgO [IntKind.u64.wrap (numOf (fldOf (l.getD (↑(l.length - (1 : Nat) - x_2.snd) : Int).toNat (D.val (Value.bool false))) (0 : Nat)))])
    (dgO [IntKind.u64.wrap (numOf (fldOf (l.getD (IntKind.i64.wrap ((↑(l.length - (1 : Nat) - x_2.snd) : Int) - (↑(x_1 + (1 : Nat)) : Int))).toNat (D.val (Value.bool false))) (0 : Nat)))]))
    (mnO dgL [(2 : Int)]) dgL))
    dgL))))) =
    some
    (Blk.row (33 : TypeId)
    (D.slc (1 : Nat) (rwL (fB l ((↑(x_1 + (1 : Nat)) : Int).toNat - (1 : Nat)) (l.length - (1 : Nat) - (IntKind.i64.wrap ((↑(l.length - (1 : Nat) - x_2.snd) : Int) - (1 : Int))).toNat)) l.length))) ∧
    True) ∧
    true = true) ∧
    ((↑((↑(x_1 + (1 : Nat)) : Int).toNat - (1 : Nat) + (1 : Nat)) : Int) = (↑(x_1 + (1 : Nat)) : Int) ∧
    l.length - (1 : Nat) - (IntKind.i64.wrap ((↑(l.length - (1 : Nat) - x_2.snd) : Int) - (1 : Int))).toNat ≤ l.length - (1 : Nat) - ((↑(x_1 + (1 : Nat)) : Int).toNat - (1 : Nat))) ∧
    l.length - (l.length - (1 : Nat) - (IntKind.i64.wrap ((↑(l.length - (1 : Nat) - x_2.snd) : Int) - (1 : Int))).toNat) < l.length - x_2.snd
   | false =>
    True ∧
    True ∧
    True ∧
    ((sm (AV.d (D.slc (5 : Nat) l)) ∧
    sm (AV.d (D.val (Value.int IntKind.i64 (↑z : Int)))) ∧
    sm (AV.ptr (4 : Nat) []) ∧
    sm (AV.row (16 : Nat)) ∧
    AV.d (D.val (Value.int IntKind.i64 (IntKind.i64.wrap ((↑(x_1 + (1 : Nat)) : Int) + (1 : Int))))) = AV.d (D.val (Value.int IntKind.i64 (↑((IntKind.i64.wrap ((↑(x_1 + (1 : Nat)) : Int) + (1 : Int))).toNat - (1 : Nat) + (1 : Nat)) : Int))) ∧
    sm (AV.d (D.slc (5 : Nat) l)) ∧
    sm (AV.d (D.val (Value.int IntKind.i64 (↑l.length : Int)))) ∧
    sm (AV.row (16 : Nat)) ∧ sm (AV.d (D.slc (5 : Nat) l)) ∧ sm (AV.d (D.val (Value.int IntKind.i64 (↑l.length : Int)))) ∧ sm (AV.d (D.val (Value.int IntKind.i64 (↑x : Int)))) ∧ sm (AV.d (D.val (Value.bool (decide ((↑x : Int) < (↑l.length : Int)))))) ∧ True) ∧
    (sm (some (Blk.fix (D.arr IntKind.u64 (4 : Nat) [(0 : Int), (0 : Int), (0 : Int), (0 : Int)]))) ∧
    some (Blk.row (33 : TypeId) (D.slc (1 : Nat) (rwL (fB l x_2.fst x_2.snd) l.length))) = some (Blk.row (33 : TypeId) (D.slc (1 : Nat) (rwL (fC l ((IntKind.i64.wrap ((↑(x_1 + (1 : Nat)) : Int) + (1 : Int))).toNat - (1 : Nat))) l.length))) ∧ True) ∧
    true = true) ∧
    (IntKind.i64.wrap ((↑(x_1 + (1 : Nat)) : Int) + (1 : Int))).toNat - (1 : Nat) + (1 : Nat) ≤ l.length ∧ l.length - ((IntKind.i64.wrap ((↑(x_1 + (1 : Nat)) : Int) + (1 : Int))).toNat - (1 : Nat)) < l.length - x_1
  | false =>
   True ∧
   True ∧
   True ∧
   True ∧
   True ∧
   (((sm (AV.d (D.slc (5 : Nat) l)) ∧
   sm (AV.d (D.val (Value.int IntKind.i64 (↑z : Int)))) ∧
   sm (AV.ptr (4 : Nat) []) ∧
   sm (AV.row (16 : Nat)) ∧
   sm (AV.d (D.val (Value.int IntKind.i64 (↑(x_1 + (1 : Nat)) : Int)))) ∧
   dg (hrN l z ((↑l.length : Int) - (1 : Int) - IntKind.i64.wrap ((↑l.length : Int) - (1 : Int))).toNat) = [] ∧
   AV.d (D.val (Value.int IntKind.i64 (IntKind.i64.wrap ((↑l.length : Int) - (1 : Int))))) = AV.d (D.val (Value.int IntKind.i64 ((↑l.length : Int) - (1 : Int) - (↑((↑l.length : Int) - (1 : Int) - IntKind.i64.wrap ((↑l.length : Int) - (1 : Int))).toNat : Int)))) ∧
   sm (AV.d (D.slc (5 : Nat) l)) ∧
   sm (AV.d (D.val (Value.int IntKind.i64 (↑l.length : Int)))) ∧
   sm (AV.row (16 : Nat)) ∧
   sm (AV.d (D.slc (5 : Nat) l)) ∧
   sm (AV.d (D.val (Value.int IntKind.i64 (↑l.length : Int)))) ∧
   sm (AV.d (D.val (Value.int IntKind.i64 (↑x : Int)))) ∧
   sm (AV.d (D.val (Value.bool (decide ((↑x : Int) < (↑l.length : Int)))))) ∧
   sm (AV.d (D.val (Value.int IntKind.i64 (↑(x_1 + (1 : Nat)) : Int)))) ∧
   sm (AV.d (D.slc (5 : Nat) l)) ∧
   sm (AV.d (D.val (Value.int IntKind.i64 (↑l.length : Int)))) ∧
   sm (AV.d (D.val (Value.bool (decide ((↑(x_1 + (1 : Nat)) : Int) < (↑l.length : Int)))))) ∧ sm (AV.d (D.slc (5 : Nat) l)) ∧ sm (AV.d (D.val (Value.int IntKind.i64 (↑l.length : Int)))) ∧ sm (AV.d (D.val (Value.int IntKind.i64 (IntKind.i64.wrap ((↑l.length : Int) - (1 : Int)))))) ∧ True) ∧
   (sm (some (Blk.fix (D.arr IntKind.u64 (4 : Nat) [(0 : Int), (0 : Int), (0 : Int), (0 : Int)]))) ∧ sm (some (Blk.row (33 : TypeId) (D.slc (1 : Nat) (rwL (fC l x_1) l.length)))) ∧ True) ∧ true = true) ∧
   ((↑l.length : Int) - (1 : Int) - IntKind.i64.wrap ((↑l.length : Int) - (1 : Int))).toNat ≤ l.length) ∧
   ∀ (x_2 : Nat),
   x_2 ≤ l.length →
   true = true ∧
   True ∧
   True ∧
   match decide ((↑l.length : Int) - (1 : Int) - (↑x_2 : Int) ≥ (0 : Int)) with
   | true =>
    True ∧
    True ∧
    True ∧
    ((1 : Nat) = (1 : Nat) ∧ (1 : Nat) ≤ (4096 : Nat)) ∧
    (∃ (l : List Int), [D.ints IntKind.u64 [IntKind.u64.wrap (↑z : Int)]] = [D.ints IntKind.u64 l] ∧ okw l ∧ l.length ≤ (100 : Nat)) ∧
    True ∧
    True ∧
    ((0 : Int) ≤ (↑l.length : Int) - (1 : Int) - (↑x_2 : Int) ∧
    (↑l.length : Int) - (1 : Int) - (↑x_2 : Int) < (↑l.length : Int) ∧
    (5 : Nat) ≠ (0 : Nat) ∧
    (5 : Nat) = (5 : Nat) ∧
    D.st [D.val (Value.int IntKind.i64 (numOf (fldOf (l.getD ((↑l.length : Int) - (1 : Int) - (↑x_2 : Int)).toNat (D.val (Value.bool false))) (0 : Nat)))), D.arr IntKind.u64 (4 : Nat) (arrOf (fldOf (l.getD ((↑l.length : Int) - (1 : Int) - (↑x_2 : Int)).toNat (D.val (Value.bool false))) (1 : Nat)))] =
    l.getD ((↑l.length : Int) - (1 : Int) - (↑x_2 : Int)).toNat (D.val (Value.bool false))) ∧
    (Sk.st [Sk.one, Sk.arr (4 : Nat)] = Sk.st [Sk.one, Sk.arr (4 : Nat)] ∧ (0 : Nat) < (2 : Nat)) ∧
    ((1 : Nat) ≠ (0 : Nat) ∧ (1 : Nat) = (1 : Nat) ∧ false = false) ∧
    True ∧
    ((1 : Nat) = (1 : Nat) ∧ (1 : Nat) ≤ (4096 : Nat)) ∧
    (∃ (l_1 : List Int), [D.ints IntKind.u64 [IntKind.u64.wrap (numOf (fldOf (l.getD ((↑l.length : Int) - (1 : Int) - (↑x_2 : Int)).toNat (D.val (Value.bool false))) (0 : Nat)))]] = [D.ints IntKind.u64 l_1] ∧ okw l_1 ∧ l_1.length ≤ (100 : Nat)) ∧
    (∃ (a : Nat),
    ∃ (b : Nat),
    [D.ints IntKind.i64 (dgO [IntKind.u64.wrap (↑z : Int)]), D.ints IntKind.i64 (dgO [IntKind.u64.wrap (numOf (fldOf (l.getD ((↑l.length : Int) - (1 : Int) - (↑x_2 : Int)).toNat (D.val (Value.bool false))) (0 : Nat)))])] = [D.ints IntKind.i64 (dg a), D.ints IntKind.i64 (dg b)] ∧ a < LQ ∧ b < LQ) ∧
    (∃ (l_1 : List Int),
    ∃ (m : List Int),
    [D.ints IntKind.i64 (dg (hrN l z x_2)), D.ints IntKind.i64 (sbO (dgO [IntKind.u64.wrap (↑z : Int)]) (dgO [IntKind.u64.wrap (numOf (fldOf (l.getD ((↑l.length : Int) - (1 : Int) - (↑x_2 : Int)).toNat (D.val (Value.bool false))) (0 : Nat)))]))] = [D.ints IntKind.i64 l_1, D.ints IntKind.i64 m] ∧
    (okd l_1 ∧ lenS l_1) ∧ okd m ∧ lenS m) ∧
    True ∧
    True ∧
    ((0 : Int) ≤ (↑l.length : Int) - (1 : Int) - (↑x_2 : Int) ∧ (↑l.length : Int) - (1 : Int) - (↑x_2 : Int) < (↑(rwL (fC l x_1) l.length).length : Int) ∧ (1 : Nat) ≠ (0 : Nat) ∧ (1 : Nat) = (1 : Nat)) ∧
    (((↑l.length : Int) - (1 : Int) - (↑x_2 : Int)).toNat < (rwL (fC l x_1) l.length).length ∧
    (1 : Nat) ≠ (0 : Nat) ∧
    (1 : Nat) = (1 : Nat) ∧
    D.ints IntKind.i64 (intsOf ((rwL (fC l x_1) l.length).getD ((↑l.length : Int) - (1 : Int) - (↑x_2 : Int)).toNat (D.val (Value.bool false)))) = (rwL (fC l x_1) l.length).getD ((↑l.length : Int) - (1 : Int) - (↑x_2 : Int)).toNat (D.val (Value.bool false)) ∧ false = false) ∧
    (∃ (l_1 : List Int),
    ∃ (m : List Int),
    [D.ints IntKind.i64 (tmO (dg (hrN l z x_2)) (sbO (dgO [IntKind.u64.wrap (↑z : Int)]) (dgO [IntKind.u64.wrap (numOf (fldOf (l.getD ((↑l.length : Int) - (1 : Int) - (↑x_2 : Int)).toNat (D.val (Value.bool false))) (0 : Nat)))]))),
    D.ints IntKind.i64 (intsOf ((rwL (fC l x_1) l.length).getD ((↑l.length : Int) - (1 : Int) - (↑x_2 : Int)).toNat (D.val (Value.bool false))))] =
    [D.ints IntKind.i64 l_1, D.ints IntKind.i64 m] ∧
    (okd l_1 ∧ lenS l_1) ∧ okd m ∧ lenS m) ∧
    (0 : Nat) = (0 : Nat) ∧
    (∃ (l_1 : List Int),
    ∃ (m : List Int),
    [D.ints IntKind.i64
    (plO (tmO (dg (hrN l z x_2)) (sbO (dgO [IntKind.u64.wrap (↑z : Int)]) (dgO [IntKind.u64.wrap (numOf (fldOf (l.getD ((↑l.length : Int) - (1 : Int) - (↑x_2 : Int)).toNat (D.val (Value.bool false))) (0 : Nat)))])))
    (intsOf ((rwL (fC l x_1) l.length).getD ((↑l.length : Int) - (1 : Int) - (↑x_2 : Int)).toNat (D.val (Value.bool false))))),
    D.ints IntKind.i64 dgL] =
    [D.ints IntKind.i64 l_1, D.ints IntKind.i64 m] ∧
    (okd l_1 ∧ len1 l_1) ∧ (okd m ∧ len1 m) ∧ vB (65536 : Nat) m ≠ (0 : Nat)) ∧
    True ∧
    True ∧
    True ∧
    True ∧
    ((sm (AV.d (D.slc (5 : Nat) l)) ∧
    sm (AV.d (D.val (Value.int IntKind.i64 (↑z : Int)))) ∧
    sm (AV.ptr (4 : Nat) []) ∧
    sm (AV.row (16 : Nat)) ∧
    sm (AV.d (D.val (Value.int IntKind.i64 (↑(x_1 + (1 : Nat)) : Int)))) ∧
    AV.d
    (D.ints IntKind.i64
    (rsO
    (plO (tmO (dg (hrN l z x_2)) (sbO (dgO [IntKind.u64.wrap (↑z : Int)]) (dgO [IntKind.u64.wrap (numOf (fldOf (l.getD ((↑l.length : Int) - (1 : Int) - (↑x_2 : Int)).toNat (D.val (Value.bool false))) (0 : Nat)))])))
    (intsOf ((rwL (fC l x_1) l.length).getD ((↑l.length : Int) - (1 : Int) - (↑x_2 : Int)).toNat (D.val (Value.bool false)))))
    dgL)) =
    AV.d (D.ints IntKind.i64 (dg (hrN l z ((↑l.length : Int) - (1 : Int) - IntKind.i64.wrap ((↑l.length : Int) - (1 : Int) - (↑x_2 : Int) - (1 : Int))).toNat))) ∧
    AV.d (D.val (Value.int IntKind.i64 (IntKind.i64.wrap ((↑l.length : Int) - (1 : Int) - (↑x_2 : Int) - (1 : Int))))) =
    AV.d (D.val (Value.int IntKind.i64 ((↑l.length : Int) - (1 : Int) - (↑((↑l.length : Int) - (1 : Int) - IntKind.i64.wrap ((↑l.length : Int) - (1 : Int) - (↑x_2 : Int) - (1 : Int))).toNat : Int)))) ∧
    sm (AV.d (D.slc (5 : Nat) l)) ∧
    sm (AV.d (D.val (Value.int IntKind.i64 (↑l.length : Int)))) ∧
    sm (AV.row (16 : Nat)) ∧
    sm (AV.d (D.slc (5 : Nat) l)) ∧
    sm (AV.d (D.val (Value.int IntKind.i64 (↑l.length : Int)))) ∧
    sm (AV.d (D.val (Value.int IntKind.i64 (↑x : Int)))) ∧
    sm (AV.d (D.val (Value.bool (decide ((↑x : Int) < (↑l.length : Int)))))) ∧
    sm (AV.d (D.val (Value.int IntKind.i64 (↑(x_1 + (1 : Nat)) : Int)))) ∧
    sm (AV.d (D.slc (5 : Nat) l)) ∧
    sm (AV.d (D.val (Value.int IntKind.i64 (↑l.length : Int)))) ∧
    sm (AV.d (D.val (Value.bool (decide ((↑(x_1 + (1 : Nat)) : Int) < (↑l.length : Int)))))) ∧
    sm (AV.d (D.slc (5 : Nat) l)) ∧ sm (AV.d (D.val (Value.int IntKind.i64 (↑l.length : Int)))) ∧ sm (AV.d (D.val (Value.int IntKind.i64 (IntKind.i64.wrap ((↑l.length : Int) - (1 : Int)))))) ∧ True) ∧
    (sm (some (Blk.fix (D.arr IntKind.u64 (4 : Nat) [(0 : Int), (0 : Int), (0 : Int), (0 : Int)]))) ∧ sm (some (Blk.row (33 : TypeId) (D.slc (1 : Nat) (rwL (fC l x_1) l.length)))) ∧ True) ∧ true = true) ∧
    ((↑l.length : Int) - (1 : Int) - IntKind.i64.wrap ((↑l.length : Int) - (1 : Int) - (↑x_2 : Int) - (1 : Int))).toNat ≤ l.length ∧ l.length - ((↑l.length : Int) - (1 : Int) - IntKind.i64.wrap ((↑l.length : Int) - (1 : Int) - (↑x_2 : Int) - (1 : Int))).toNat < l.length - x_2
   | false =>
    True ∧
    (∃ (l_1 : List Int), [D.ints IntKind.i64 (dg (hrN l z x_2))] = [D.ints IntKind.i64 l_1] ∧ okd l_1 ∧ lenOk l_1) ∧
    (Sk.arr (4 : Nat) = Sk.arr (4 : Nat) ∧ (4 : Nat) ≠ (0 : Nat) ∧ (4 : Nat) = (4 : Nat) ∧ false = false) ∧ (((4 : Nat) ≠ (0 : Nat) ∧ (4 : Nat) = (4 : Nat) ∧ true = true) ∧ True) ∧ D.arr IntKind.u64 (4 : Nat) (nB (18446744073709551616 : Nat) (4 : Nat) (vB (65536 : Nat) (dg (hrN l z x_2)))) = F) := by kernel_rfl
end Go.Proofs.Ytfbaghocbipbiaa
namespace Go.Proofs.Ytfbaghocbipbiaa
open Go Go.Vg
theorem m49o : Meets Try.prog 49 sp49o := by
 have e : sp49o = sp49 := by
  unfold sp49o sbO
  simp only [opq_eq]
  rfl
 rw [e]; exact m49
theorem m52o : Meets Try.prog 52 sp52o := by
 have e : sp52o = sp52 := by
  unfold sp52o mnO
  simp only [opq_eq]
  rfl
 rw [e]; exact m52
theorem m51o : Meets Try.prog 51 sp51o := by
 have e : sp51o = sp51 := by
  unfold sp51o pwQ
  simp only [opq_eq]
  rfl
 rw [e]; exact m51
theorem m54o : Meets Try.prog 54 sp54o := by
 have e : sp54o = sp54 := by
  unfold sp54o tmO
  simp only [opq_eq]
  rfl
 rw [e]; exact m54
theorem m53o : Meets Try.prog 53 sp53o := by
 have e : sp53o = sp53 := by
  unfold sp53o rsO
  simp only [opq_eq]
  rfl
 rw [e]; exact m53
theorem m55o : Meets Try.prog 55 sp55o := by
 have e : sp55o = sp55 := by
  unfold sp55o plO
  simp only [opq_eq]
  rfl
 rw [e]; exact m55
theorem vd_dg (n : Nat) : vD (dg n) = n := vl_dg n
theorem sb_dg (a b : Nat) : sbO (dg a) (dg b) = dg ((a + LQ - b) % LQ) := by unfold sbO; rw [opq_eq, vd_dg, vd_dg]
theorem dgL_eq : dgL = dg LQ := opq_eq _
theorem mn_dg : mnO dgL [2] = dg (LQ - 2) := by unfold mnO; rw [opq_eq, dgL_eq, vd_dg]; rfl
theorem pw_dg (a : Nat) : pwQ (dg a) (dg (LQ - 2)) (dg LQ) = dg (ivS a) := by unfold pwQ ivS powN; rw [opq_eq, opq_eq, vd_dg, vd_dg, vd_dg]
theorem tm_dg (a b : Nat) : tmO (dg a) (dg b) = dg (a * b) := by unfold tmO; rw [opq_eq, vd_dg, vd_dg]
theorem rs_dg (a b : Nat) : rsO (dg a) (dg b) = dg (a % b) := by unfold rsO; rw [opq_eq, vd_dg, vd_dg]
theorem pl_dg (a b : Nat) : plO (dg a) (dg b) = dg (a + b) := by unfold plO; rw [opq_eq, vd_dg, vd_dg]
theorem do_dg {n : Nat} (h : n < 18446744073709551616) : dgO [IntKind.u64.wrap (n : Int)] = dg n := by
 unfold dgO
 rw [opq_eq, wu (by omega) (by omega)]
 simp [vB]
theorem rwL_len (f : Nat → List Int) (n : Nat) : (rwL f n).length = n := by simp [rwL]
theorem rwL_get (f : Nat → List Int) {n i : Nat} (h : i < n) (x : D) : (rwL f n).getD i x = .ints .i64 (f i) := by
 rw [List.getD_eq_getElem?_getD, rwL, List.getElem?_map, List.getElem?_range h]; rfl
theorem rwL_set (f : Nat → List Int) (n i : Nat) (v : List Int) : (rwL f n).set i (.ints .i64 v) = rwL (fun j => if j = i then v else f j) n := by
 unfold rwL
 refine List.ext_getElem (by simp) fun j h1 h2 => ?_
 simp only [List.getElem_set, List.getElem_map, List.getElem_range]
 by_cases e : i = j
 ·rw [if_pos e, if_pos e.symm]
 ·rw [if_neg e, if_neg (fun a => e a.symm)]
theorem rwL_congr {f g : Nat → List Int} {n : Nat} (e : ∀ k, k < n → f k = g k) : rwL f n = rwL g n :=
 List.map_congr_left fun k hk => by rw [e k (List.mem_range.1 hk)]
theorem rwL_nil (n : Nat) : List.replicate n (D.ints .i64 []) = rwL (fun _ => []) n := by
 refine List.ext_getElem (by simp [rwL]) fun j h1 h2 => ?_
 simp [rwL]
theorem ivS_lt (a : Nat) : ivS a < LQ := by unfold ivS; rw [opq_eq]; exact md_lt _
theorem tb_lt {l : List D} (hy : ∀ i, i < l.length → yOf (l.getD i default) < LQ) : ∀ k i, i < l.length → tbN l k i < LQ
 | 0, i, h => by rw [tbN]; exact hy i h
 | k + 1, i, h => by
  rw [tbN]
  split
  ·exact md_lt _
  ·exact tb_lt hy k i h
theorem hr_lt (l : List D) (z : Nat) : ∀ t, hrN l z t < LQ
 | 0 => by rw [hrN]; exact LQ_pos
 | t + 1 => by rw [hrN]; exact md_lt _
theorem fineX {l : List D} {z : Int} (hf : FineS l z) (hl : oks l) {i : Nat} (hi : i < l.length) :
  ∃ n v, l.getD i (.val (.bool false)) = sh_ ((n : Nat) : Int) v ∧ isN v ∧ (1 ≤ n ∧ n ≤ 255) ∧ xN l i = n ∧ yOf (l.getD i default) = vB 18446744073709551616 v := by
 obtain ⟨k, v, e, hv, _⟩ := elS hl hi
 have ek : xOf (l.getD i default) = k := by rw [show l.getD i default = sh_ k v from e]; rfl
 have ey : yOf (l.getD i default) = vB 18446744073709551616 v := by rw [show l.getD i default = sh_ k v from e]; rfl
 have hk := (hf.at_ i hi).1
 rw [ek] at hk
 obtain ⟨n, rfl⟩ : ∃ n : Nat, k = n := ⟨k.toNat, by omega⟩
 exact ⟨n, v, e, hv, by omega, by unfold xN; rw [ek]; rfl, ey⟩
end Go.Proofs.Ytfbaghocbipbiaa
namespace Go.Proofs.Ytfbaghocbipbiaa
open Go Go.Vg
theorem mn_dg2 : mnO (dg LQ) [2] = dg (LQ - 2) := dgL_eq ▸ mn_dg
theorem ex_w (n : Nat) : (∃ l : List Int, [D.ints IntKind.u64 [IntKind.u64.wrap (n : Int)]] = [D.ints IntKind.u64 l] ∧ okw l ∧ l.length ≤ 100) = True := by
 refine eq_true ⟨_, rfl, ?_, by simp⟩
 intro x hx
 simp only [List.mem_singleton] at hx
 subst hx
 rw [w64]; omega
theorem ex_s {a b : Nat} (ha : a < 2 ^ 256) (hb : b < 2 ^ 256) : (∃ (l : List Int), ∃ (m : List Int), [D.ints .i64 (dg a), D.ints .i64 (dg b)] = [dgs l, dgs m] ∧ (okd l ∧ lenS l) ∧ okd m ∧ lenS m) = True := by
 have la := lens1 ha
 have lb := lens1 hb
 exact eq_true ⟨_, _, rfl, ⟨la.1, la.2.2.1⟩, lb.1, lb.2.2.1⟩
theorem ex_b {a b : Nat} (ha : a < LQ) (hb : b < LQ) : (∃ a_1 b_1, [D.ints .i64 (dg a), D.ints .i64 (dg b)] = [D.ints .i64 (dg a_1), D.ints .i64 (dg b_1)] ∧ a_1 < LQ ∧ b_1 < LQ) = True := eq_true ⟨_, _, rfl, ha, hb⟩
theorem ex_m2 : (∃ (l : List Int), ∃ (m : List Int), [D.ints .i64 (dg LQ), D.ints .i64 [2]] = [D.ints .i64 l, D.ints .i64 m] ∧ (okd l ∧ lenS l) ∧ (okd m ∧ lenS m) ∧ vB 65536 m ≤ vB 65536 l) = True := by
 have la := lens1 LQ_lt
 refine eq_true ⟨_, _, rfl, ⟨la.1, la.2.2.1⟩, ⟨?_, by unfold lenS; decide⟩, ?_⟩
 ·intro x hx
  simp only [List.mem_singleton] at hx
  subst hx; decide
 ·rw [vl_dg]; unfold LQ; decide
theorem ex_p {a : Nat} (ha : a < LQ) : (∃ a_1 n m, [D.ints .i64 (dg a), D.ints .i64 (dg (LQ - 2)), D.ints .i64 (dg LQ)] = [D.ints .i64 (dg a_1), D.ints .i64 (dg n), D.ints .i64 (dg m)] ∧ n256 a_1 ∧ n256 n ∧ n256 m ∧ 0 < m) = True := by
 have hq := LQ_lt
 refine eq_true ⟨_, _, _, rfl, ?_, ?_, LQ_lt, LQ_pos⟩ <;> (unfold n256; omega)
theorem lens5 {x : Nat} (h : x < LQ * LQ + LQ) : okd (dg x) ∧ len1 (dg x) ∧ lenS (dg x) := by
 have := lens (x := x) (Nat.lt_trans h (by unfold LQ; decide))
 exact ⟨this.1, this.2.1, this.2.2.1⟩
theorem ex_r {a : Nat} (ha : a < LQ * LQ + LQ) : (∃ (l : List Int), ∃ (m : List Int), [D.ints .i64 (dg a), D.ints .i64 (dg LQ)] = [D.ints .i64 l, D.ints .i64 m] ∧ (okd l ∧ len1 l) ∧ (okd m ∧ len1 m) ∧ ¬vB 65536 m = 0) = True := by
 have la := lens5 ha
 have lb := lens1 LQ_lt
 exact eq_true ⟨_, _, rfl, ⟨la.1, la.2.1⟩, ⟨lb.1, lb.2.1⟩, by rw [vl_dg]; exact Nat.ne_of_gt LQ_pos⟩
theorem ex_q {a b : Nat} (ha : a < LQ * LQ + LQ) (hb : b < LQ * LQ + LQ) : (∃ (l : List Int), ∃ (m : List Int), [D.ints .i64 (dg a), D.ints .i64 (dg b)] = [D.ints .i64 l, D.ints .i64 m] ∧ (okd l ∧ lenS l) ∧ okd m ∧ lenS m) = True := by
 have la := lens5 ha
 have lb := lens5 hb
 exact eq_true ⟨_, _, rfl, ⟨la.1, la.2.2⟩, lb.1, lb.2.2⟩
theorem ltLL {a : Nat} (h : a < LQ) : a < LQ * LQ + LQ := Nat.lt_of_lt_of_le h (Nat.le_add_left _ _)
theorem addLL {a b c : Nat} (ha : a < LQ) (hb : b < LQ) (hc : c < LQ) : a * b + c < LQ * LQ + LQ := by
 have := Nat.mul_le_mul (Nat.le_of_lt ha) (Nat.le_of_lt hb)
 omega
theorem mulLL {a b : Nat} (ha : a < LQ) (hb : b < LQ) : a * b < LQ * LQ + LQ := by
 have := addLL ha hb LQ_pos
 omega
set_option maxRecDepth 100000 in
theorem m10 : Meets Try.prog 10 sp10 := by
 refine meets_of_owed (C := c10) ⟨tab_ok, lkS_ok ⟨m41, m50o, m49o, m42, m52o, m51o, m54o, m53o, m55o, m56, trivial⟩⟩ (by kernel_rfl) (by kernel_rfl : Try.prog.funcs[10]? = some Try.f10) (by kernel_rfl) (by kernel_rfl) (by kernel_rfl) _ ?_
 rintro _ ⟨l, z, rfl, hl, hz⟩
 refine ⟨fun _ => rfl, inv10 l z, ?_⟩
 show owed c10 (inv10 l z) Try.f10 [.slc 5 l, i64 z] (n4 (hrN l z l.length))
 have hf := fineS hz
 have hx0 := hf.x0
 have hlen := hf.len
 have hy : ∀ i, i < l.length → yOf (l.getD i default) < LQ := fun i hi => (hf.at_ i hi).2.1
 have hq : 255 < LQ := by unfold LQ; decide
 have hl2 := hl.2
 rw [vc10]
 simp (decide := true) only [rwL_len, dgL_eq, eq_self, true_and, and_true, ne_eq, not_false_eq_true]
 refine ⟨⟨by omega, by omega, by omega, by omega⟩, ?_, fun i hi => ?_⟩
 ·rw [Int.toNat_natCast, rwL_nil, show fA l (Int.toNat 0) = fun _ => [] from funext fun j => if_neg (Nat.not_lt_zero _)]
  exact ⟨⟨rfl, rfl⟩, Nat.zero_le _⟩
 split
 ·rename_i hlt
  have hlt : i < l.length := by have := of_decide_eq_true hlt; omega
  obtain ⟨n, v, e, hv, hn, hx, hy2⟩ := fineX hf hl hlt
  simp only [Int.toNat_natCast, e, s0, s1, wSS hlt hl2, true_and, and_true, rwL_set]
  refine ⟨⟨by omega, by omega⟩, ⟨v, rfl, hv⟩, ⟨by omega, by omega⟩, hlt, ?_⟩
  rw [show rwL (fun j => if j = i then dg (vB 18446744073709551616 v) else fA l i j) l.length = rwL (fA l (i + 1)) l.length from rwL_congr fun j hj => by
   unfold fA
   by_cases ej : j = i
   ·subst ej; rw [if_pos rfl, if_pos (Nat.lt_succ_self j), hy2]
   ·rw [if_neg ej]
    by_cases h2 : j < i
    ·rw [if_pos h2, if_pos (by omega)]
    ·rw [if_neg h2, if_neg (by omega)]]
  exact ⟨rfl, hlt, by omega⟩
 rename_i hlt
 have hlt := of_decide_eq_false hlt
 obtain rfl : i = l.length := by omega
 refine ⟨?_, fun k hk => ?_⟩
 ·rw [show rwL (fA l l.length) l.length = rwL (fC l (1 - 1)) l.length from rwL_congr fun j hj => by
   unfold fA fC
   rw [if_pos hj, Nat.sub_self, tbN]]
  exact ⟨⟨rfl, rfl⟩, hlen.1⟩
 split
 ·rename_i hlk
  have hlk : k + 1 < l.length := by have := of_decide_eq_true hlk; omega
  rw [show IntKind.i64.wrap ((l.length : Int) - 1) = ((l.length - 1 : Nat) : Int) by rw [wi (by omega) (by omega)]; omega]
  simp only [Int.toNat_natCast, Nat.sub_self, Nat.sub_zero, Nat.add_sub_cancel, eq_self, true_and, and_true]
  refine ⟨⟨?_, by omega⟩, ?_⟩
  ·exact congrArg (fun q => some (Blk.row 33 (.slc 1 q))) (rwL_congr fun j hj => by
    unfold fC fB
    rw [if_neg (by omega)])
  rintro ⟨k', t⟩ ⟨hkk, ht⟩
  obtain rfl : k' = k := by simp only at hkk; omega
  simp only at ht ⊢
  split
  ·rename_i hge
   have hge : k' + 1 ≤ l.length - 1 - t := by have := of_decide_eq_true hge; omega
   obtain ⟨i, hi⟩ : ∃ i, i = l.length - 1 - t := ⟨_, rfl⟩
   rw [← hi] at hge ⊢
   have hil : i < l.length := by omega
   obtain ⟨n, v, e, hv, hn, hx, hy2⟩ := fineX hf hl hil
   obtain ⟨n2, v2, e2, hv2, hn2, hx2, hy22⟩ := fineX hf hl (show i - (k' + 1) < l.length by omega)
   have w1 : IntKind.i64.wrap ((i : Int) - ((k' + 1 : Nat) : Int)) = ((i - (k' + 1) : Nat) : Int) := by rw [wi (by omega) (by omega)]; omega
   have w2 : IntKind.i64.wrap ((i : Int) - 1) = ((i - 1 : Nat) : Int) := by rw [wi (by omega) (by omega)]; omega
   have g1 : (rwL (fB l k' t) l.length).getD i (.val (.bool false)) = .ints .i64 (dg (tbN l k' i)) := by
    rw [rwL_get _ hil, fB, if_neg (by omega)]
   have g2 : (rwL (fB l k' t) l.length).getD (i - 1) (.val (.bool false)) = .ints .i64 (dg (tbN l k' (i - 1))) := by
    rw [rwL_get _ (by omega), fB, if_neg (by omega)]
   have l1 := tb_lt hy k' i hil
   have l2 := tb_lt hy k' (i - 1) (by omega)
   have wn : ∀ n : Nat, n ≤ 255 → dgO [IntKind.u64.wrap (n : Int)] = dg n := fun n h => do_dg (by omega)
   simp only [w1, w2, Int.toNat_natCast, e, e2, s0, s1, ex_w, g1, g2, wn n hn.2, wn n2 hn2.2, intsOf, sb_dg, mn_dg2, pw_dg, ex_b (Nat.lt_of_le_of_lt hn.2 hq) (Nat.lt_of_le_of_lt hn2.2 hq), ex_m2, ex_p (md_lt _), ex_b l1 l2, ex_q (ltLL (md_lt _)) (ltLL (ivS_lt _)), tm_dg, ex_r (mulLL (md_lt _) (ivS_lt _)), rs_dg, rwL_set, true_and, and_true]
   have ej : l.length - 1 - (i - 1) = t + 1 := by omega
   have ei : l.length - 1 - (t + 1) = i - 1 := by omega
   rw [ej, ei]
   rw [show rwL (fun j => if j = i then dg ((tbN l k' i + LQ - tbN l k' (i - 1)) % LQ * ivS ((n + LQ - n2) % LQ) % LQ) else fB l k' t j) l.length = rwL (fB l k' (t + 1)) l.length from rwL_congr fun j hj => by
    unfold fB
    rw [ei, ← hi]
    by_cases ej : j = i
    ·subst ej
     rw [if_pos rfl, if_pos (by omega), tbN, if_pos hge, hx, hx2]
    ·rw [if_neg ej]
     by_cases h2 : i < j
     ·rw [if_pos h2, if_pos (by omega)]
     ·rw [if_neg h2, if_neg (by omega)]]
   and_intros <;> first | rfl | omega
  ·rename_i hge
   have hge : l.length - 1 - t < k' + 1 := by have := of_decide_eq_false hge; omega
   have w1 : IntKind.i64.wrap (((k' + 1 : Nat) : Int) + 1) = ((k' + 2 : Nat) : Int) := by rw [wi (by omega) (by omega)]; omega
   rw [w1]
   simp only [Int.toNat_natCast, show k' + 2 - 1 = k' + 1 from rfl]
   rw [show rwL (fB l k' t) l.length = rwL (fC l (k' + 1)) l.length from rwL_congr fun j hj => by
    unfold fB fC
    by_cases h2 : l.length - 1 - t < j
    ·rw [if_pos h2]
    ·rw [if_neg h2, tbN, if_neg (by omega)]]
   and_intros <;> first | trivial | rfl | omega
 ·rename_i hlk
  have hlk := of_decide_eq_false hlk
  obtain rfl : k = l.length - 1 := by omega
  have w1 : IntKind.i64.wrap ((l.length : Int) - 1) = (l.length : Int) - 1 := wi (by omega) (by omega)
  rw [w1]
  refine ⟨⟨⟨?_, by rw [Int.sub_self, show (l.length : Int) - 1 - ((Int.toNat 0 : Nat) : Int) = (l.length : Int) - 1 from Int.sub_zero _]⟩, by omega⟩, fun t ht => ?_⟩
  ·rw [Int.sub_self, Int.toNat_zero, hrN]; rfl
  split
  ·rename_i hge
   have hge : t < l.length := by have := of_decide_eq_true hge; omega
   obtain ⟨i, hi⟩ : ∃ i, i = l.length - 1 - t := ⟨_, rfl⟩
   have ei : (l.length : Int) - 1 - (t : Int) = (i : Int) := by omega
   have hil : i < l.length := by omega
   obtain ⟨n, v, e, hv, hn, hx, hy2⟩ := fineX hf hl hil
   have g1 : (rwL (fC l (l.length - 1)) l.length).getD i (.val (.bool false)) = .ints .i64 (dg (tbN l (l.length - 1) i)) := rwL_get _ hil _
   have l1 := tb_lt hy (l.length - 1) i hil
   have l2 := hr_lt l z t
   have wn : ∀ n : Nat, n ≤ 255 → dgO [IntKind.u64.wrap (n : Int)] = dg n := fun n h => do_dg (by omega)
   have w2 : IntKind.i64.wrap ((i : Int) - 1) = (i : Int) - 1 := wi (by omega) (by omega)
   rw [ei]
   simp only [w2, Int.toNat_natCast, e, s0, s1, ex_w, g1, wn n hn.2, wn z (by omega), intsOf, sb_dg, ex_b (a := z) (b := n) (by omega) (by omega), tm_dg, pl_dg, rs_dg, ex_q (ltLL l2) (ltLL (md_lt _)), ex_q (mulLL l2 (md_lt _)) (ltLL l1), ex_r (addLL l2 (md_lt _) l1), true_and, and_true]
   have ej : ((l.length : Int) - 1 - ((i : Int) - 1)).toNat = t + 1 := by omega
   have ek : (l.length : Int) - 1 - ((t + 1 : Nat) : Int) = (i : Int) - 1 := by omega
   rw [ej, ek]
   have eh : hrN l z (t + 1) = (hrN l z t * ((z + LQ - n) % LQ) + tbN l (l.length - 1) i) % LQ := by rw [hrN, ← hi, hx]
   rw [eh]
   and_intros <;> first | rfl | omega
  ·rename_i hge
   have hge := of_decide_eq_false hge
   obtain rfl : t = l.length := by omega
   have la := lens1 (Nat.lt_trans (hr_lt l z l.length) LQ_lt)
   exact ⟨⟨_, rfl, la.1, la.2.2.2⟩, by rw [vl_dg]⟩
end Go.Proofs.Ytfbaghocbipbiaa
namespace Go.Np
section
variable {p : Nat} [NeZero p]
def nb (x : Nat → Fin p) (z : Fin p) (a : Nat) : Nat → Fin p
 | 0 => 1
 | k + 1 => nb x z a k * (z - x (a + k))
def sN (x : Nat → Fin p) (z : Fin p) (a : Nat) (c : Nat → Fin p) : Nat → Fin p
 | 0 => 0
 | k + 1 => sN x z a c k + c k * nb x z a k
def Dst (x : Nat → Fin p) (m : Nat) : Prop := ∀ i j, i < m → j < m → i ≠ j → ∃ v, (x i - x j) * v = 1
theorem nb_succ (x : Nat → Fin p) (z : Fin p) (a k : Nat) : nb x z a (k + 1) = nb x z a k * (z - x (a + k)) := rfl
theorem sN_succ (x : Nat → Fin p) (z : Fin p) (a : Nat) (c : Nat → Fin p) (k : Nat) : sN x z a c (k + 1) = sN x z a c k + c k * nb x z a k := rfl
theorem nb_zero (x : Nat → Fin p) (a i : Nat) : ∀ k, i < k → nb x (x (a + i)) a k = 0
 | 0, h => absurd h (Nat.not_lt_zero i)
 | k + 1, h => by
  rw [nb]
  by_cases e : i = k
  ·subst e; grind
  ·rw [nb_zero x a i k (by omega)]; grind
theorem sN_zero (x : Nat → Fin p) (z : Fin p) (a : Nat) (c : Nat → Fin p) : ∀ m, (∀ j, j < m → c j = 0) → sN x z a c m = 0
 | 0, _ => rfl
 | m + 1, h => by
  rw [sN, sN_zero x z a c m fun j hj => h j (by omega), h m (by omega)]; grind
theorem sN_congr (x : Nat → Fin p) (z : Fin p) (a : Nat) {c d : Nat → Fin p} : ∀ m, (∀ j, j < m → c j = d j) → sN x z a c m = sN x z a d m
 | 0, _ => rfl
 | m + 1, h => by rw [sN, sN, sN_congr x z a m fun j hj => h j (by omega), h m (by omega)]
theorem sN_at (x : Nat → Fin p) (a k : Nat) (c : Nat → Fin p) (hc : ∀ j, j < k → c j = 0) : ∀ m, k < m → sN x (x (a + k)) a c m = c k * nb x (x (a + k)) a k
 | 0, h => absurd h (Nat.not_lt_zero k)
 | m + 1, h => by
  rw [sN]
  by_cases e : k = m
  ·subst e; rw [sN_zero x _ a c k hc]; grind
  ·rw [sN_at x a k c hc m (by omega), nb_zero x a k m (by omega)]; grind
theorem nb_unit (x : Nat → Fin p) {a n i : Nat} (hd : Dst x n) (hi : a + i < n) : ∀ k, k ≤ i → ∃ v, nb x (x (a + i)) a k * v = 1
 | 0, _ => ⟨1, by rw [nb]; grind⟩
 | k + 1, h => by
  obtain ⟨v, hv⟩ := nb_unit x hd hi k (by omega)
  obtain ⟨u, hu⟩ := hd (a + i) (a + k) hi (by omega) (by omega)
  refine ⟨v * u, ?_⟩
  rw [nb]; grind
theorem uniq {x : Nat → Fin p} {a n m : Nat} {c : Nat → Fin p} (hd : Dst x n) (hm : a + m ≤ n) (h : ∀ i, i < m → sN x (x (a + i)) a c m = 0) : ∀ k, k < m → c k = 0 := by
 intro k
 induction k using Nat.strongRecOn with
 | _ k ih =>
  intro hk
  have h1 := h k hk
  rw [sN_at x a k c (fun j hj => ih j hj (by omega)) m hk] at h1
  obtain ⟨v, hv⟩ := nb_unit x hd (show a + k < n by omega) k (Nat.le_refl _)
  grind
theorem sN_lin (x : Nat → Fin p) (z : Fin p) (a : Nat) (c d : Nat → Fin p) (u v : Fin p) : ∀ m, sN x z a (fun k => u * c k + v * d k) m = u * sN x z a c m + v * sN x z a d m
 | 0 => by simp only [sN]; grind
 | m + 1 => by simp only [sN, sN_lin x z a c d u v m]; grind
theorem uniq2 {x : Nat → Fin p} {a n m : Nat} {c d : Nat → Fin p} (hd : Dst x n) (hm : a + m ≤ n) (h : ∀ i, i < m → sN x (x (a + i)) a c m = sN x (x (a + i)) a d m) (z : Fin p) : sN x z a c m = sN x z a d m := by
 have := uniq (c := fun k => 1 * c k + (-1) * d k) hd hm (fun i hi => by rw [sN_lin, h i hi]; grind)
 refine sN_congr x z a m fun j hj => ?_
 have := this j hj
 grind
theorem sN_mul (x : Nat → Fin p) (z b : Fin p) (a : Nat) (c : Nat → Fin p) : ∀ m, sN x z a c m * (z - b) = sN x z a (fun k => match k with | 0 => 0 | k + 1 => c k) (m + 1) + sN x z a (fun k => c k * (x (a + k) - b)) m
 | 0 => by simp only [sN]; grind
 | m + 1 => by
  have ih := sN_mul x z b a c m
  rw [sN, sN_succ (k := m + 1), sN_succ x z a (fun k => c k * (x (a + k) - b)) m, nb]
  grind
theorem nb_shift (x : Nat → Fin p) (z : Fin p) (a : Nat) : ∀ k, nb x z a (k + 1) = (z - x a) * nb x z (a + 1) k
 | 0 => by simp only [nb, Nat.add_zero]; grind
 | k + 1 => by
  rw [nb, nb_shift x z a k, nb_succ x z (a + 1) k, show a + 1 + k = a + (k + 1) by omega]; grind
theorem sN_shift (x : Nat → Fin p) (z : Fin p) (a : Nat) (c : Nat → Fin p) : ∀ m, (z - x a) * sN x z (a + 1) c m = sN x z a (fun k => match k with | 0 => 0 | k + 1 => c k) (m + 1)
 | 0 => by simp only [sN]; grind
 | m + 1 => by
  have ih := sN_shift x z a c m
  rw [sN, sN_succ (k := m + 1), nb_shift]
  grind
def dd (y : Nat → Fin p) (iv : Nat → Nat → Fin p) (a : Nat) : Nat → Fin p
 | 0 => y a
 | k + 1 => (dd y iv (a + 1) k - dd y iv a k) * iv a (a + k + 1)
def shf0 (c : Nat → Fin p) : Nat → Fin p
 | 0 => 0
 | k + 1 => c k
theorem nw {x y : Nat → Fin p} {iv : Nat → Nat → Fin p} {n : Nat} (hd : Dst x n) (hiv : ∀ a b, a < b → b < n → (x b - x a) * iv a b = 1) : ∀ m a, a + m < n → ∀ i, i ≤ m → sN x (x (a + i)) a (dd y iv a) (m + 1) = y (a + i)
 | 0, a, _, i, hi => by
  obtain rfl : i = 0 := by omega
  simp only [sN, nb, dd, Nat.add_zero]; grind
 | m + 1, a, ha, i, hi => by
  have low : ∀ i, i ≤ m → sN x (x (a + i)) a (dd y iv a) (m + 2) = y (a + i) := fun i hi => by
   rw [sN, nw hd hiv m a (by omega) i hi, nb_zero x a i (m + 1) (by omega)]; grind
  by_cases him : i ≤ m
  ·exact low i him
  ·obtain rfl : i = m + 1 := by omega
   have hv := hiv a (a + m + 1) (by omega) (by omega)
   let u := iv a (a + m + 1)
   let b := x (a + m + 1)
   let s1 := shf0 (dd y iv (a + 1))
   let s2 := shf0 (dd y iv a)
   let g := fun k => dd y iv a k * (x (a + k) - b)
   have f1 : ∀ z, (z - x a) * sN x z (a + 1) (dd y iv (a + 1)) (m + 1) = sN x z a s1 (m + 2) := fun z => by
    rw [sN_shift]
    exact sN_congr x z a _ fun j _ => by cases j <;> rfl
   have f2 : ∀ z, sN x z a (dd y iv a) (m + 1) * (z - b) = sN x z a s2 (m + 2) + sN x z a g (m + 1) := fun z => by
    rw [sN_mul]
    refine congrArg (fun q => q + _) ?_
    exact sN_congr x z a _ fun j _ => by cases j <;> rfl
   have hs1 : s1 (m + 1) = dd y iv (a + 1) m := rfl
   have hs2 : s2 (m + 1) = dd y iv a m := rfl
   have hdd : dd y iv a (m + 1) = (dd y iv (a + 1) m - dd y iv a m) * u := rfl
   -- what the two differ by
   have ez : ∀ z, sN x z a (dd y iv a) (m + 2) - ((z - x a) * sN x z (a + 1) (dd y iv (a + 1)) (m + 1) - sN x z a (dd y iv a) (m + 1) * (z - b)) * u
     = sN x z a (fun k => 1 * dd y iv a k + (-u) * (1 * (1 * s1 k + (-1) * s2 k) + (-1) * g k)) (m + 1) := fun z => by
    rw [sN_lin, sN_lin x z a (fun k => 1 * s1 k + (-1) * s2 k) g, sN_lin x z a s1 s2, f1, f2, sN, sN_succ x z a s1, sN_succ x z a s2, hs1, hs2, hdd]
    grind
   have e0 := uniq (c := fun k => 1 * dd y iv a k + (-u) * (1 * (1 * s1 k + (-1) * s2 k) + (-1) * g k)) (a := a) (m := m + 1) hd (by omega) (fun j hj => by
    rw [← ez, low j (by omega), nw hd hiv m a (by omega) j (by omega)]
    by_cases h0 : j = 0
    ·subst h0
     have e2 : b = x (a + m + 1) := rfl
     have e3 : (x (a + m + 1) - x a) * u = 1 := hv
     rw [Nat.add_zero]
     grind
    ·have := nw (y := y) hd hiv m (a + 1) (by omega) (j - 1) (by omega)
     rw [show a + 1 + (j - 1) = a + j by omega] at this
     rw [this]
     have e2 : b = x (a + m + 1) := rfl
     have e3 : (x (a + m + 1) - x a) * u = 1 := hv
     grind)
   have e1 := ez (x (a + (m + 1)))
   rw [sN_zero x _ a _ (m + 1) e0] at e1
   have e4 := nw (y := y) hd hiv m (a + 1) (by omega) m (Nat.le_refl _)
   rw [show a + 1 + m = a + (m + 1) by omega] at e4
   rw [e4] at e1
   have e2 : b = x (a + (m + 1)) := rfl
   have e3 : (x (a + (m + 1)) - x a) * u = 1 := hv
   grind
def Spn (x : Nat → Fin p) (m : Nat) (f : Fin p → Fin p) : Prop := ∃ c, ∀ z, f z = sN x z 0 c m
theorem spn_up {x : Nat → Fin p} {m k : Nat} {f : Fin p → Fin p} (h : Spn x m f) (hk : m ≤ k) : Spn x k f := by
 obtain ⟨c, hc⟩ := h
 refine ⟨fun j => if j < m then c j else 0, fun z => ?_⟩
 rw [hc]
 induction k with
 | zero =>
  obtain rfl : m = 0 := by omega
  rfl
 | succ k ih =>
  by_cases e : m = k + 1
  ·subst e
   exact sN_congr x z 0 _ fun j hj => by rw [if_pos hj]
  ·rw [ih (by omega), sN, if_neg (by omega)]; grind
theorem spn_mul {x : Nat → Fin p} {m : Nat} {f : Fin p → Fin p} (h : Spn x m f) (b : Fin p) : Spn x (m + 1) fun z => f z * (z - b) := by
 obtain ⟨c, hc⟩ := h
 obtain ⟨d, hd⟩ := spn_up (k := m + 1) ⟨fun k => c k * (x (0 + k) - b), fun z => rfl⟩ (Nat.le_succ m)
 refine ⟨fun k => 1 * (match k with | 0 => 0 | k + 1 => c k) + 1 * d k, fun z => ?_⟩
 have hd := hd z
 simp only at hd ⊢
 rw [sN_lin, hc, sN_mul, ← hd]
 grind
theorem spn_lin {x : Nat → Fin p} {m : Nat} {f g : Fin p → Fin p} (hf : Spn x m f) (hg : Spn x m g) (u v : Fin p) : Spn x m fun z => u * f z + v * g z := by
 obtain ⟨c, hc⟩ := hf
 obtain ⟨d, hd⟩ := hg
 exact ⟨fun k => u * c k + v * d k, fun z => by simp only; rw [sN_lin, hc, hd]⟩
theorem spn_nil (x : Nat → Fin p) (m : Nat) : Spn x m fun _ => 0 := ⟨fun _ => 0, fun z => (sN_zero x z 0 _ m fun _ _ => rfl).symm⟩
def lu (x : Nat → Fin p) (z : Fin p) (i : Nat) : Nat → Fin p
 | 0 => 1
 | j + 1 => if i = j then lu x z i j else lu x z i j * (z - x j)
theorem spn_lu (x : Nat → Fin p) (i : Nat) : ∀ j, Spn x (if i < j then j else j + 1) fun z => lu x z i j
 | 0 => ⟨fun _ => 1, fun z => by rw [if_neg (by omega)]; simp only [sN, nb, lu]; grind⟩
 | j + 1 => by
  have ih := spn_lu x i j
  by_cases e : i = j
  ·subst e
   rw [if_neg (Nat.lt_irrefl i)] at ih
   rw [if_pos (Nat.lt_succ_self i)]
   refine (show (fun z => lu x z i (i + 1)) = fun z => lu x z i i from funext fun z => by rw [lu, if_pos rfl]) ▸ ih
  ·have := spn_mul ih (x j)
   have e2 : (fun z => lu x z i (j + 1)) = fun z => lu x z i j * (z - x j) := funext fun z => by rw [lu, if_neg e]
   rw [e2]
   by_cases h : i < j
   ·rw [if_pos h] at this
    rw [if_pos (by omega)]; exact this
   ·rw [if_neg h] at this
    rw [if_neg (by omega)]; exact this
theorem lu_zero (x : Nat → Fin p) (i k : Nat) (hne : k ≠ i) : ∀ n, i < n → lu x (x i) k n = 0
 | 0, h => absurd h (Nat.not_lt_zero i)
 | n + 1, h => by
  rw [lu]
  by_cases e : i = n
  ·subst e; rw [if_neg hne]; grind
  ·rw [lu_zero x i k hne n (by omega)]
   split
   ·rfl
   ·grind
def lg (x y w : Nat → Fin p) (z : Fin p) (n : Nat) : Nat → Fin p
 | 0 => 0
 | k + 1 => lg x y w z n k + y k * (lu x z k n * w k)
theorem spn_lg (x y w : Nat → Fin p) (n : Nat) : ∀ k, k ≤ n → Spn x n fun z => lg x y w z n k
 | 0, _ => spn_nil x n
 | k + 1, h => by
  have h1 := spn_lg x y w n k (by omega)
  have h2 := spn_lu x k n
  rw [if_pos (show k < n by omega)] at h2
  have h3 := spn_lin h1 h2 1 (y k * w k)
  have e : (fun z => lg x y w z n (k + 1)) = fun z => 1 * lg x y w z n k + y k * w k * lu x z k n := funext fun z => by rw [lg]; grind
  rw [e]; exact h3
theorem lg_at (x y w : Nat → Fin p) (n i : Nat) (hi : i < n) (hw : lu x (x i) i n * w i = 1) : ∀ k, k ≤ n → lg x y w (x i) n k = if i < k then y i else 0
 | 0, _ => rfl
 | k + 1, h => by
  rw [lg, lg_at x y w n i hi hw k (by omega)]
  by_cases e : k = i
  ·subst e
   rw [if_neg (Nat.lt_irrefl k), if_pos (Nat.lt_succ_self k)]; grind
  ·rw [lu_zero x i k e n hi]
   by_cases h2 : i < k
   ·rw [if_pos h2, if_pos (by omega)]; grind
   ·rw [if_neg h2, if_neg (by omega)]; grind
def hr (x d : Nat → Fin p) (z : Fin p) (n : Nat) : Nat → Fin p
 | 0 => 0
 | t + 1 => hr x d z n t * (z - x (n - 1 - t)) + d (n - 1 - t)
theorem hr_sN (x d : Nat → Fin p) (z : Fin p) (n : Nat) : ∀ t, t ≤ n → nb x z 0 (n - t) * hr x d z n t + sN x z 0 d (n - t) = sN x z 0 d n
 | 0, _ => by rw [hr, Nat.sub_zero]; grind
 | t + 1, h => by
  have ih := hr_sN x d z n t (by omega)
  have e : n - t = (n - 1 - t) + 1 := by omega
  rw [e, nb, sN, Nat.zero_add] at ih
  rw [show n - (t + 1) = n - 1 - t by omega, hr]
  grind
theorem newton_lagrange {x y w : Nat → Fin p} {iv : Nat → Nat → Fin p} {n : Nat} (hn : 0 < n) (hd : Dst x n) (hiv : ∀ a b, a < b → b < n → (x b - x a) * iv a b = 1)
  (hw : ∀ i, i < n → lu x (x i) i n * w i = 1) (z : Fin p) : hr x (dd y iv 0) z n n = lg x y w z n n := by
 obtain ⟨m, rfl⟩ : ∃ m, n = m + 1 := ⟨n - 1, by omega⟩
 obtain ⟨c, hc⟩ := spn_lg x y w (m + 1) (m + 1) (Nat.le_refl _)
 have hc : ∀ z, lg x y w z (m + 1) (m + 1) = sN x z 0 c (m + 1) := hc
 have h1 := hr_sN x (dd y iv 0) z (m + 1) (m + 1) (Nat.le_refl _)
 rw [Nat.sub_self, nb, sN] at h1
 have h2 := uniq2 (a := 0) (c := dd y iv 0) (d := c) (m := m + 1) hd (by omega) (fun i hi => by
  rw [nw hd hiv m 0 (by omega) i (by omega), ← hc, Nat.zero_add, lg_at x y w (m + 1) i hi (hw i hi) (m + 1) (Nat.le_refl _), if_pos hi]) z
 rw [hc, ← h2]
 grind
end
end Go.Np
namespace Go.Np
section
variable {p : Nat} [NeZero p]
def fi (p : Nat) [NeZero p] (a : Nat) : Fin p := Fin.ofNat p a
theorem fi_val (a : Nat) : (fi p a).val = a % p := rfl
theorem fi_add (a b : Nat) : fi p (a + b) = fi p a + fi p b := by
 apply Fin.ext
 rw [Fin.val_add, fi_val, fi_val, fi_val, Nat.add_mod]
theorem fi_mul (a b : Nat) : fi p (a * b) = fi p a * fi p b := by
 apply Fin.ext
 rw [Fin.val_mul, fi_val, fi_val, fi_val, Nat.mul_mod]
theorem fi_mod (a : Nat) : fi p (a % p) = fi p a := by
 apply Fin.ext
 rw [fi_val, fi_val, Nat.mod_mod]
theorem fi_p : fi p p = 0 := by
 apply Fin.ext
 rw [fi_val, Nat.mod_self]; rfl
theorem fi_0 : fi p 0 = 0 := rfl
theorem fi_1 : fi p 1 = 1 := rfl
theorem fi_sub {a b : Nat} (h : b ≤ a) : fi p (a - b) = fi p a - fi p b := by
 have e : fi p a = fi p (a - b) + fi p b := by rw [← fi_add, Nat.sub_add_cancel h]
 rw [e]; grind
theorem fi_dif {a b : Nat} (h : b < p) : fi p ((a + p - b) % p) = fi p a - fi p b := by
 rw [fi_mod, fi_sub (by omega), fi_add, fi_p]; grind
theorem fi_neg (a : Nat) : fi p ((p - a % p) % p) = - fi p a := by
 have hp : 0 < p := Nat.pos_of_ne_zero (NeZero.ne p)
 rw [fi_mod, fi_sub (Nat.le_of_lt (Nat.mod_lt _ hp)), fi_p, fi_mod]; grind
theorem fi_inj {a b : Nat} (ha : a < p) (hb : b < p) (h : fi p a = fi p b) : a = b := by
 have := congrArg Fin.val h
 rw [fi_val, fi_val, Nat.mod_eq_of_lt ha, Nat.mod_eq_of_lt hb] at this
 exact this
theorem fi_one {a : Nat} (h : a % p = 1) : fi p a = 1 := by
 rw [← fi_mod, h, fi_1]
theorem fi_ne {a : Nat} {v : Fin p} (h1 : 1 < p) (h : fi p a * v = 1) : a % p ≠ 0 := fun e => by
 rw [← fi_mod, e, fi_0] at h
 have h2 : (0 : Fin p) * v = 0 := by grind
 rw [h2] at h
 have := congrArg Fin.val h
 have e1 : (1 : Fin p).val = 1 % p := rfl
 rw [e1, Nat.mod_eq_of_lt h1] at this
 exact absurd this (by show ¬ 0 % p = 1; rw [Nat.zero_mod]; decide)
theorem lu_unit {x : Nat → Fin p} {n i : Nat} (hd : Dst x n) (hi : i < n) : ∀ j, j ≤ n → ∃ v, lu x (x i) i j * v = 1
 | 0, _ => ⟨1, by rw [lu]; grind⟩
 | j + 1, h => by
  obtain ⟨v, hv⟩ := lu_unit hd hi j (by omega)
  rw [lu]
  split
  ·exact ⟨v, hv⟩
  ·rename_i e
   obtain ⟨u, hu⟩ := hd i j hi (by omega) e
   exact ⟨u * v, by grind⟩
theorem add_neg (a b : Fin p) : a + -b = a - b := by grind
end
end Go.Np
namespace Go.Proofs.Ytfbaghocbipbiaa
open Go Go.Vg Go.Np
instance : NeZero LQ := ⟨Nat.ne_of_gt LQ_pos⟩
theorem pw_pred (a n : Nat) (h : 2 ≤ n) : a * a ^ (n - 2) = a ^ (n - 1) := by
 obtain ⟨m, rfl⟩ : ∃ m, n = m + 2 := ⟨n - 2, by omega⟩
 rw [show m + 2 - 2 = m from rfl, show m + 2 - 1 = m + 1 from rfl, Nat.pow_succ, Nat.mul_comm]
theorem fi_inv {p : Nat} [NeZero p] {a : Nat} (h2 : 2 ≤ p) (h : a ^ (p - 1) % p = 1) : fi p a * fi p (a ^ (p - 2) % p) = 1 := by
 rw [fi_mod, ← fi_mul, pw_pred a p h2]
 exact fi_one h
theorem ph_inv {a : Nat} (h : a % LQ ≠ 0) : fi LQ a * fi LQ (ivS a) = 1 := by
 unfold ivS
 rw [opq_eq]
 have hf := pL_f.2 a
 have e : (7237005577332262213973186563042994240857116359379907606001950938285454250989 : Nat) = LQ := rfl
 rw [e] at hf
 exact fi_inv (by unfold LQ; decide) (hf h)
noncomputable def xF (l : List D) (i : Nat) : Fin LQ := fi LQ (xN l i)
noncomputable def yF (l : List D) (i : Nat) : Fin LQ := fi LQ (yOf (l.getD i default))
noncomputable def wF (l : List D) (i : Nat) : Fin LQ := fi LQ (ivS (upN l (xN l i) i l.length))
noncomputable def iF (l : List D) (a b : Nat) : Fin LQ := fi LQ (ivS ((xN l b + LQ - xN l a) % LQ))
theorem ph_up (l : List D) (z i : Nat) : ∀ j, fi LQ (upN l z i j) = lu (xF l) (fi LQ z) i j
 | 0 => by rw [upN, lu, fi_1]
 | j + 1 => by
  rw [upN, lu]
  split
  ·exact ph_up l z i j
  ·rw [fi_mod, fi_mul, ph_up l z i j, fi_mod, fi_add, ngS, fi_neg, add_neg]; rfl
theorem ph_at (l : List D) (z : Nat) : ∀ k, fi LQ (atN l z k) = lg (xF l) (yF l) (wF l) (fi LQ z) l.length k
 | 0 => by rw [atN, lg, fi_0]
 | k + 1 => by rw [atN, lg, fi_mod, fi_add, ph_at l z k, tmN, fi_mod, fi_mul, fi_mod, fi_mul, ph_up]; rfl
theorem xN_lt {l : List D} {x : Int} (hf : FineS l x) {i : Nat} (hi : i < l.length) : 1 ≤ xN l i ∧ xN l i ≤ 255 := by
 have := (hf.at_ i hi).1
 unfold xN; omega
theorem hasX_not {l : List D} {k : Int} : ∀ {i : Nat}, i ≤ l.length → hasX k (l.take i) = false → ∀ j, j < i → xOf (l.getD j default) ≠ k
 | 0, _, _, j, h => absurd h (Nat.not_lt_zero j)
 | i + 1, hi, h, j, hj => by
  rw [takeS (by omega), hasX_app, Bool.or_eq_false_iff] at h
  by_cases e : j = i
  ·subst e; exact of_decide_eq_false h.2
  ·exact hasX_not (by omega) h.1 j (by omega)
theorem xN_ne {l : List D} {x : Int} (hf : FineS l x) {i j : Nat} (hi : i < l.length) (hj : j < i) : xN l i ≠ xN l j := by
 have h1 := hasX_not (by omega) (hf.at_ i hi).2.2 j hj
 have h2 := (hf.at_ i hi).1
 have h3 := (hf.at_ j (by omega)).1
 unfold xN; omega
theorem q255 : 255 < LQ := by unfold LQ; decide
theorem dif_ne {l : List D} {x : Int} (hf : FineS l x) {i j : Nat} (hi : i < l.length) (hj : j < l.length) (hne : i ≠ j) : (xN l i + LQ - xN l j) % LQ % LQ ≠ 0 := by
 have h1 := xN_lt hf hi
 have h2 := xN_lt hf hj
 have h3 : xN l i ≠ xN l j := by
  by_cases e : j < i
  ·exact xN_ne hf hi e
  ·exact fun a => xN_ne hf hj (show i < j by omega) a.symm
 have hq := q255
 rw [Nat.mod_mod]
 by_cases e : xN l j < xN l i
 ·rw [show xN l i + LQ - xN l j = (xN l i - xN l j) + LQ by omega, Nat.add_mod_right, Nat.mod_eq_of_lt (by omega)]; omega
 ·rw [Nat.mod_eq_of_lt (by omega)]; omega
theorem dst {l : List D} {x : Int} (hf : FineS l x) : Dst (xF l) l.length := fun i j hi hj hne => by
 have h := ph_inv (dif_ne hf hi hj hne)
 rw [fi_dif (Nat.lt_of_le_of_lt (xN_lt hf hj).2 q255)] at h
 exact ⟨_, h⟩
theorem hivF {l : List D} {x : Int} (hf : FineS l x) : ∀ a b, a < b → b < l.length → (xF l b - xF l a) * iF l a b = 1 := fun a b h hb => by
 have h := ph_inv (dif_ne hf hb (by omega) (show b ≠ a by omega))
 rw [fi_dif (Nat.lt_of_le_of_lt (xN_lt hf (show a < l.length by omega)).2 q255)] at h
 exact h
theorem hwF {l : List D} {x : Int} (hf : FineS l x) : ∀ i, i < l.length → lu (xF l) (xF l i) i l.length * wF l i = 1 := fun i hi => by
 obtain ⟨v, hv⟩ := lu_unit (dst hf) hi l.length (Nat.le_refl _)
 have e : lu (xF l) (xF l i) i l.length = fi LQ (upN l (xN l i) i l.length) := (ph_up l (xN l i) i _).symm
 rw [e] at hv ⊢
 exact ph_inv (fi_ne (by have := q255; omega) hv)
theorem ph_tb {l : List D} {x : Int} (hf : FineS l x) : ∀ k i, k ≤ i → i < l.length → fi LQ (tbN l k i) = dd (yF l) (iF l) (i - k) k
 | 0, i, _, _ => by rw [tbN, dd]; rfl
 | k + 1, i, h, hi => by
  have hy : ∀ i, i < l.length → yOf (l.getD i default) < LQ := fun i hi => (hf.at_ i hi).2.1
  rw [tbN, dd, if_pos h, fi_mod, fi_mul, fi_dif (tb_lt hy k (i - 1) (by omega)), ph_tb hf k i (by omega) hi, ph_tb hf k (i - 1) (by omega) (by omega),
   show i - (k + 1) + 1 = i - k by omega, show i - 1 - k = i - (k + 1) by omega, show i - (k + 1) + k + 1 = i by omega]; rfl
theorem tb_up (l : List D) : ∀ k i, i ≤ k → tbN l k i = tbN l i i
 | 0, i, h => by
  obtain rfl : i = 0 := by omega
  rfl
 | k + 1, i, h => by
  by_cases e : i = k + 1
  ·rw [e]
  ·rw [tbN, if_neg (by omega), tb_up l k i (by omega)]
theorem ph_hr {l : List D} {x : Int} (hf : FineS l x) (z : Nat) : ∀ t, t ≤ l.length → fi LQ (hrN l z t) = hr (xF l) (dd (yF l) (iF l) 0) (fi LQ z) l.length t
 | 0, _ => by rw [hrN, hr, fi_0]
 | t + 1, h => by
  rw [hrN, hr, fi_mod, fi_add, fi_mul, ph_hr hf z t (by omega), fi_dif (Nat.lt_of_le_of_lt (xN_lt hf (show l.length - 1 - t < l.length by omega)).2 q255), tb_up l _ _ (by omega), ph_tb hf _ _ (Nat.le_refl _) (by omega), Nat.sub_self]; rfl
theorem at_hr {l : List D} {x : Int} (hf : FineS l x) (z : Nat) : atN l z l.length = hrN l z l.length := by
 have h := newton_lagrange (y := yF l) hf.len.1 (dst hf) (hivF hf) (hwF hf) (fi LQ z)
 rw [← ph_hr hf z l.length (Nat.le_refl _), ← ph_at l z l.length] at h
 refine (fi_inj (hr_lt l z _) ?_ h).symm
 obtain ⟨n, hn⟩ : ∃ n, l.length = n + 1 := ⟨l.length - 1, by have := hf.len; omega⟩
 rw [hn, atN]
 exact md_lt _
end Go.Proofs.Ytfbaghocbipbiaa
namespace Go.Proofs.Ytfbaghocbipbiaa
open Go Go.Vg
noncomputable def c3 : Ctx := ⟨tab, lkS [(8, sp8), (9, sp9), (10, sp10)], [], []⟩
--KEEP Nat.gcd List.replicate Go.Vg.opq Go.Vg.eqB Go.Vg.vB Go.Vg.nB Go.Vg.okd Go.Vg.okw Go.Vg.dg Go.Vg.dig Go.Vg.trimL okb lenOk lenS len1 isN LQ ngS ivS xOf yOf isSh oks hasX sfI sfN sfE tL xN upN tmN atN atR tbN hrN
set_option maxRecDepth 100000 in
theorem vc3  (l : List D) (x : Int) (F : D)  :
    (owed c3 (fun _ => none) Try.f3 [.slc 5 l, i64 x] F) = (
 True ∧
 True ∧
 True ∧
 (∃ (l_1 : List D), ∃ (x_1 : Int), [D.slc (5 : Nat) l, D.val (Value.int IntKind.i64 x)] = [D.slc (5 : Nat) l_1, D.val (Value.int IntKind.i64 x_1)] ∧ oks l_1) ∧
 True ∧
 True ∧
 True ∧
 True ∧
 match sfE l x == (0 : Int) with
 | true =>
  True ∧
  True ∧
  True ∧
  True ∧
  match decide ((↑l.length : Int) > (6 : Int)) with
  | true => True ∧ (false = false ∧ True) ∧ D.val (Value.bool true) = F
  | false =>
   True ∧
   True ∧
   (∃ (l_1 : List D), ∃ (x_1 : Int), [D.slc (5 : Nat) l, D.val (Value.int IntKind.i64 x)] = [D.slc (5 : Nat) l_1, D.val (Value.int IntKind.i64 x_1)] ∧ oks l_1) ∧
   True ∧
   ((0 : Nat) < (2 : Nat) ∧ false = false) ∧
   ((1 : Nat) < (2 : Nat) ∧ false = false) ∧
   (True ∧ (4 : Nat) ≠ (0 : Nat)) ∧
   (Sk.arr (4 : Nat) = Sk.arr (4 : Nat) ∧ (4 : Nat) ≠ (0 : Nat) ∧ (4 : Nat) = (4 : Nat) ∧ false = false) ∧
   True ∧
   True ∧
   True ∧
   match sfE l x != (0 : Int) with
   | true =>
    ((4 : Nat) ≠ (0 : Nat) ∧ (4 : Nat) = (4 : Nat) ∧ true = true) ∧
    ((1 : Nat) = (1 : Nat) ∧ True) ∧
    (IntKind.u64 = IntKind.u64 ∧ IntKind.u64 = IntKind.u64 ∧ (4 : Nat) = (4 : Nat) ∧ (4 : Nat) = (4 : Nat) ∧ (1 : Nat) = (1 : Nat)) ∧
    True ∧
    match eqB (nB (18446744073709551616 : Nat) (4 : Nat) (atR l x)) [(0 : Int), (0 : Int), (0 : Int), (0 : Int)] with
    | true => True ∧ True ∧ True ∧ True ∧ True ∧ (false = false ∧ True) ∧ D.val (Value.bool (sfE l x == sfE l x)) = F
    | false => True ∧ True ∧ (false = false ∧ True) ∧ D.val (Value.bool false) = F
   | false =>
    True ∧
    True ∧
    True ∧
    match sfE l x == (0 : Int) with
    | true =>
     ((4 : Nat) ≠ (0 : Nat) ∧ (4 : Nat) = (4 : Nat) ∧ true = true) ∧
     True ∧
     True ∧
     (∃ (l_1 : List D), ∃ (z : Nat), [D.slc (5 : Nat) l, D.val (Value.int IntKind.i64 x)] = [D.slc (5 : Nat) l_1, D.val (Value.int IntKind.i64 (↑z : Int))] ∧ oks l_1 ∧ sfE l_1 (↑z : Int) = (0 : Int)) ∧
     (IntKind.u64 = IntKind.u64 ∧ IntKind.u64 = IntKind.u64 ∧ (4 : Nat) = (4 : Nat) ∧ (4 : Nat) = (4 : Nat) ∧ (1 : Nat) = (1 : Nat)) ∧ True ∧ True ∧ (false = false ∧ True) ∧ D.val (Value.bool (eqB (nB (18446744073709551616 : Nat) (4 : Nat) (atR l x)) (nB (18446744073709551616 : Nat) (4 : Nat) (hrN l x.toNat l.length)))) = F
    | false => True ∧ True ∧ (false = false ∧ True) ∧ D.val (Value.bool false) = F
 | false =>
  True ∧
  True ∧
  True ∧
  (∃ (l_1 : List D), ∃ (x_1 : Int), [D.slc (5 : Nat) l, D.val (Value.int IntKind.i64 x)] = [D.slc (5 : Nat) l_1, D.val (Value.int IntKind.i64 x_1)] ∧ oks l_1) ∧
  True ∧
  ((0 : Nat) < (2 : Nat) ∧ false = false) ∧
  ((1 : Nat) < (2 : Nat) ∧ false = false) ∧
  (True ∧ (4 : Nat) ≠ (0 : Nat)) ∧
  (Sk.arr (4 : Nat) = Sk.arr (4 : Nat) ∧ (4 : Nat) ≠ (0 : Nat) ∧ (4 : Nat) = (4 : Nat) ∧ false = false) ∧
  True ∧
  True ∧
  True ∧
  match sfE l x != (0 : Int) with
  | true =>
   ((4 : Nat) ≠ (0 : Nat) ∧ (4 : Nat) = (4 : Nat) ∧ true = true) ∧
   ((1 : Nat) = (1 : Nat) ∧ True) ∧
   (IntKind.u64 = IntKind.u64 ∧ IntKind.u64 = IntKind.u64 ∧ (4 : Nat) = (4 : Nat) ∧ (4 : Nat) = (4 : Nat) ∧ (1 : Nat) = (1 : Nat)) ∧
   True ∧
   match eqB (nB (18446744073709551616 : Nat) (4 : Nat) (atR l x)) [(0 : Int), (0 : Int), (0 : Int), (0 : Int)] with
   | true => True ∧ True ∧ True ∧ True ∧ True ∧ (false = false ∧ True) ∧ D.val (Value.bool (sfE l x == sfE l x)) = F
   | false => True ∧ True ∧ (false = false ∧ True) ∧ D.val (Value.bool false) = F
  | false =>
   True ∧
   True ∧
   True ∧
   match sfE l x == (0 : Int) with
   | true =>
    ((4 : Nat) ≠ (0 : Nat) ∧ (4 : Nat) = (4 : Nat) ∧ true = true) ∧
    True ∧
    True ∧
    (∃ (l_1 : List D), ∃ (z : Nat), [D.slc (5 : Nat) l, D.val (Value.int IntKind.i64 x)] = [D.slc (5 : Nat) l_1, D.val (Value.int IntKind.i64 (↑z : Int))] ∧ oks l_1 ∧ sfE l_1 (↑z : Int) = (0 : Int)) ∧
    (IntKind.u64 = IntKind.u64 ∧ IntKind.u64 = IntKind.u64 ∧ (4 : Nat) = (4 : Nat) ∧ (4 : Nat) = (4 : Nat) ∧ (1 : Nat) = (1 : Nat)) ∧ True ∧ True ∧ (false = false ∧ True) ∧ D.val (Value.bool (eqB (nB (18446744073709551616 : Nat) (4 : Nat) (atR l x)) (nB (18446744073709551616 : Nat) (4 : Nat) (hrN l x.toNat l.length)))) = F
   | false => True ∧ True ∧ (false = false ∧ True) ∧ D.val (Value.bool false) = F) := by kernel_rfl
set_option maxRecDepth 100000 in
theorem ok22  (d : D)  :
    (OkT tab 8 22 d) = (
 ∃ (xs : List D), d = D.slc (5 : Nat) xs ∧ (∀ (y : D), y ∈ xs → ∃ (ds : List D), y = D.st ds ∧ OkL (OkT tab (6 : Nat)) [((0 : Nat), (3 : TypeId)), ((1 : Nat), (27 : TypeId))] ds) ∧ xs.length ≤ (9223372036854775807 : Nat) ∧ xs.length * (40 : Nat) ≤ (140737488351232 : Nat)) := by kernel_rfl
set_option maxRecDepth 100000 in
theorem ok3  (d : D)  :
    (OkT tab 6 3 d) = (
 ∃ (z : Int), d = D.val (Value.int IntKind.i64 z) ∧ -(2 : Int) ^ (63 : Nat) ≤ z ∧ z ≤ IntKind.i64.max) := by kernel_rfl
set_option maxRecDepth 100000 in
theorem ok3b  (d : D)  :
    (OkT tab 8 3 d) = (
 ∃ (z : Int), d = D.val (Value.int IntKind.i64 z) ∧ -(2 : Int) ^ (63 : Nat) ≤ z ∧ z ≤ IntKind.i64.max) := by kernel_rfl
set_option maxRecDepth 100000 in
theorem ok27  (d : D)  :
    (OkT tab 6 27 d) = (
 ∃ (l : List Int), d = D.arr IntKind.u64 (4 : Nat) l ∧ l.length = (4 : Nat) ∧ ∀ (z : Int), z ∈ l → (0 : Int) ≤ z ∧ z ≤ IntKind.u64.max) := by kernel_rfl
theorem okl_cons {f : TypeId → D → Prop} {i : Nat} {t : TypeId} {ts : List (Nat × TypeId)} {ds : List D} (h : OkL f ((i, t) :: ts) ds) : ∃ d ds', ds = d :: ds' ∧ f t d ∧ OkL f ts ds' := by
 cases ds with
 | nil => exact h.elim
 | cons d ds => exact ⟨d, ds, rfl, h.1, h.2⟩
theorem okl_nil {f : TypeId → D → Prop} {ds : List D} (h : OkL f [] ds) : ds = [] := by
 cases ds with
 | nil => rfl
 | cons d ds => exact h.elim
theorem shares_of {d : D} (h : OkT tab 8 22 d) : ∃ l, d = .slc 5 l ∧ oks l := by
 rw [ok22] at h
 obtain ⟨xs, rfl, h1, _, h2⟩ := h
 refine ⟨xs, rfl, fun x hx => ?_, by omega⟩
 obtain ⟨ds, rfl, h⟩ := h1 x hx
 obtain ⟨a, ds, rfl, ha, h⟩ := okl_cons h
 obtain ⟨b, ds, rfl, hb, h⟩ := okl_cons h
 obtain rfl := okl_nil h
 rw [ok3] at ha
 rw [ok27] at hb
 obtain ⟨k, rfl, k1, k2⟩ := ha
 obtain ⟨v, rfl, hl, hv⟩ := hb
 have k2 : k ≤ 9223372036854775807 := k2
 refine ⟨k, v, rfl, ⟨fun x hx => ?_, hl⟩, by omega⟩
 obtain ⟨g1, g2⟩ := hv x hx
 exact ⟨g1, by have : x ≤ 18446744073709551615 := g2; omega⟩
theorem eqB_same (l : List Int) : eqB l l = true := eqB_iff.2 rfl
theorem okAll2 {t : Tab} {n : Nat} {a b : TypeId} : ∀ {ds : List D}, OkAll t n [a, b] ds → ∃ d e, ds = [d, e] ∧ OkT t n a d ∧ OkT t n b e
 | [], h => h.elim
 | [_], h => h.2.elim
 | [d, e], h => ⟨d, e, rfl, h.1, h.2.1⟩
 | _ :: _ :: _ :: _, h => h.2.2.elim
set_option maxRecDepth 100000 in
theorem m3 : Meets Try.prog 3 (lawSpec tab Try.f3.params.toList) := by
 refine meets_of_owed (C := c3) ⟨tab_ok, lkS_ok ⟨m8, m9, m10, trivial⟩⟩ (by kernel_rfl) (by kernel_rfl : Try.prog.funcs[3]? = some Try.f3) (by kernel_rfl) (by kernel_rfl) (by kernel_rfl) _ ?_
 intro ds hds
 obtain ⟨l, x, rfl, hl⟩ : ∃ l x, ds = [.slc 5 l, i64 x] ∧ oks l := by
  have hds : OkAll tab 8 [22, 3] ds := hds
  obtain ⟨d, e, rfl, h1, h2⟩ := okAll2 hds
  obtain ⟨l, rfl, hl⟩ := shares_of h1
  rw [ok3b] at h2
  obtain ⟨x, rfl, _⟩ := h2
  exact ⟨l, x, rfl, hl⟩
 refine ⟨fun _ => rfl, fun _ => none, ?_⟩
 show owed c3 (fun _ => none) Try.f3 [.slc 5 l, i64 x] (bl true)
 rw [vc3]
 have ex1 : (∃ (l_1 : List D), ∃ (x_1 : Int), [D.slc 5 l, D.val (Value.int IntKind.i64 x)] = [D.slc 5 l_1, D.val (Value.int IntKind.i64 x_1)] ∧ oks l_1) = True := eq_true ⟨_, _, rfl, hl⟩
 simp (decide := true) only [ex1, eq_self, true_and, and_true, ne_eq, not_false_eq_true]
 by_cases h0 : sfE l x = 0
 ·have b1 : (sfE l x == 0) = true := beq_iff_eq.2 h0
  have b2 : (sfE l x != 0) = false := by rw [bne, b1]; rfl
  have hf := fineS h0
  have hx := hf.x0
  obtain ⟨z, rfl⟩ : ∃ z : Nat, x = z := ⟨x.toNat, by omega⟩
  have er : atR l (z : Int) = hrN l z l.length := by
   rw [show atR l (z : Int) = atN l z l.length from if_pos h0, at_hr hf]
  have ex2 : (∃ (l_1 : List D), ∃ (z_1 : Nat), [D.slc 5 l, D.val (Value.int IntKind.i64 (z : Int))] = [D.slc 5 l_1, D.val (Value.int IntKind.i64 (z_1 : Int))] ∧ oks l_1 ∧ sfE l_1 (z_1 : Int) = 0) = True := eq_true ⟨_, _, rfl, hl, h0⟩
  simp only [b1, b2, er, ex2, eqB_same, Int.toNat_natCast, true_and, and_true]
  split
  ·trivial
  ·trivial
 ·have b1 : (sfE l x == 0) = false := beq_eq_false_iff_ne.2 h0
  have b2 : (sfE l x != 0) = true := by rw [bne, b1]; rfl
  have e0 : atR l x = 0 := if_neg h0
  have e1 : nB 18446744073709551616 4 0 = [0, 0, 0, 0] := rfl
  simp only [b1, b2, e0, e1, eqB_same, beq_self_eq_true, true_and, and_true]
end Go.Proofs.Ytfbaghocbipbiaa
