/- The modulus of the scalars is prime: by Lucas. -/
import Derived.Test.YtkicjckhkefnpaaDoorZb11
import Derived.Test.YtkicjckhkefnpaaDoorZb10
namespace Go.Vg
theorem pL_2 : Prm 2 := small_of (by kernel_rfl)
theorem pL_3 : Prm 3 := small_of (by kernel_rfl)
theorem pL_11 : Prm 11 := small_of (by kernel_rfl)
theorem pL_23 : Prm 23 := small_of (by kernel_rfl)
theorem pL_47 : Prm 47 := small_of (by kernel_rfl)
theorem pL_34123 : Prm 34123 := (lucas_of (g := 2) (fs := [2, 3, 11, 11, 47]) (by kernel_rfl) ⟨pL_2, pL_3, pL_11, pL_11, pL_47, trivial⟩).1
theorem pL_409477 : Prm 409477 := (lucas_of (g := 2) (fs := [2, 2, 3, 34123]) (by kernel_rfl) ⟨pL_2, pL_2, pL_3, pL_34123, trivial⟩).1
theorem pL_14741173 : Prm 14741173 := (lucas_of (g := 2) (fs := [2, 2, 3, 3, 409477]) (by kernel_rfl) ⟨pL_2, pL_2, pL_3, pL_3, pL_409477, trivial⟩).1
theorem pL_58964693 : Prm 58964693 := (lucas_of (g := 2) (fs := [2, 2, 14741173]) (by kernel_rfl) ⟨pL_2, pL_2, pL_14741173, trivial⟩).1
theorem pL_7 : Prm 7 := small_of (by kernel_rfl)
theorem pL_17 : Prm 17 := small_of (by kernel_rfl)
theorem pL_43 : Prm 43 := small_of (by kernel_rfl)
theorem pL_30703 : Prm 30703 := (lucas_of (g := 3) (fs := [2, 3, 7, 17, 43]) (by kernel_rfl) ⟨pL_2, pL_3, pL_7, pL_17, pL_43, trivial⟩).1
theorem pL_5 : Prm 5 := small_of (by kernel_rfl)
theorem pL_13 : Prm 13 := small_of (by kernel_rfl)
theorem pL_79 : Prm 79 := small_of (by kernel_rfl)
theorem pL_41081 : Prm 41081 := (lucas_of (g := 3) (fs := [2, 2, 2, 5, 13, 79]) (by kernel_rfl) ⟨pL_2, pL_2, pL_2, pL_5, pL_13, pL_79, trivial⟩).1
theorem pL_82163 : Prm 82163 := (lucas_of (g := 2) (fs := [2, 41081]) (by kernel_rfl) ⟨pL_2, pL_41081, trivial⟩).1
theorem pL_67 : Prm 67 := small_of (by kernel_rfl)
theorem pL_22111 : Prm 22111 := (lucas_of (g := 6) (fs := [2, 3, 5, 11, 67]) (by kernel_rfl) ⟨pL_2, pL_3, pL_5, pL_11, pL_67, trivial⟩).1
theorem pL_132667 : Prm 132667 := (lucas_of (g := 5) (fs := [2, 3, 22111]) (by kernel_rfl) ⟨pL_2, pL_3, pL_22111, trivial⟩).1
theorem pL_41 : Prm 41 := small_of (by kernel_rfl)
theorem pL_1723 : Prm 1723 := (lucas_of (g := 3) (fs := [2, 3, 7, 41]) (by kernel_rfl) ⟨pL_2, pL_3, pL_7, pL_41, trivial⟩).1
theorem pL_17231 : Prm 17231 := (lucas_of (g := 13) (fs := [2, 5, 1723]) (by kernel_rfl) ⟨pL_2, pL_5, pL_1723, trivial⟩).1
theorem pL_137849 : Prm 137849 := (lucas_of (g := 3) (fs := [2, 2, 2, 17231]) (by kernel_rfl) ⟨pL_2, pL_2, pL_2, pL_17231, trivial⟩).1
theorem pL_3044861653679985063343 : Prm 3044861653679985063343 := (lucas_of (g := 5) (fs := [2, 3, 11, 30703, 82163, 132667, 137849]) (by kernel_rfl) ⟨pL_2, pL_3, pL_11, pL_30703, pL_82163, pL_132667, pL_137849, trivial⟩).1
theorem pL_198211423230930754013084525763697 : Prm 198211423230930754013084525763697 := (lucas_of (g := 5) (fs := [2, 2, 2, 2, 3, 23, 58964693, 3044861653679985063343]) (by kernel_rfl) ⟨pL_2, pL_2, pL_2, pL_2, pL_3, pL_23, pL_58964693, pL_3044861653679985063343, trivial⟩).1
theorem pL_269 : Prm 269 := small_of (by kernel_rfl)
theorem pL_73 : Prm 73 := small_of (by kernel_rfl)
theorem pL_307 : Prm 307 := (lucas_of (g := 5) (fs := [2, 3, 3, 17]) (by kernel_rfl) ⟨pL_2, pL_3, pL_3, pL_17, trivial⟩).1
theorem pL_113 : Prm 113 := small_of (by kernel_rfl)
theorem pL_2939 : Prm 2939 := (lucas_of (g := 2) (fs := [2, 13, 113]) (by kernel_rfl) ⟨pL_2, pL_13, pL_113, trivial⟩).1
theorem pL_5879 : Prm 5879 := (lucas_of (g := 11) (fs := [2, 2939]) (by kernel_rfl) ⟨pL_2, pL_2939, trivial⟩).1
theorem pL_292386187 : Prm 292386187 := (lucas_of (g := 2) (fs := [2, 3, 3, 3, 3, 307, 5879]) (by kernel_rfl) ⟨pL_2, pL_3, pL_3, pL_3, pL_3, pL_307, pL_5879, trivial⟩).1
theorem pL_213441916511 : Prm 213441916511 := (lucas_of (g := 13) (fs := [2, 5, 73, 292386187]) (by kernel_rfl) ⟨pL_2, pL_5, pL_73, pL_292386187, trivial⟩).1
theorem pL_1361 : Prm 1361 := (lucas_of (g := 3) (fs := [2, 2, 2, 2, 5, 17]) (by kernel_rfl) ⟨pL_2, pL_2, pL_2, pL_2, pL_5, pL_17, trivial⟩).1
theorem pL_19 : Prm 19 := small_of (by kernel_rfl)
theorem pL_2851 : Prm 2851 := (lucas_of (g := 2) (fs := [2, 3, 5, 5, 19]) (by kernel_rfl) ⟨pL_2, pL_3, pL_5, pL_5, pL_19, trivial⟩).1
theorem pL_3797 : Prm 3797 := (lucas_of (g := 2) (fs := [2, 2, 13, 73]) (by kernel_rfl) ⟨pL_2, pL_2, pL_13, pL_73, trivial⟩).1
theorem pL_531581 : Prm 531581 := (lucas_of (g := 2) (fs := [2, 2, 5, 7, 3797]) (by kernel_rfl) ⟨pL_2, pL_2, pL_5, pL_7, pL_3797, trivial⟩).1
theorem pL_2551 : Prm 2551 := (lucas_of (g := 6) (fs := [2, 3, 5, 5, 17]) (by kernel_rfl) ⟨pL_2, pL_3, pL_5, pL_5, pL_17, trivial⟩).1
theorem pL_1224481 : Prm 1224481 := (lucas_of (g := 13) (fs := [2, 2, 2, 2, 2, 3, 5, 2551]) (by kernel_rfl) ⟨pL_2, pL_2, pL_2, pL_2, pL_2, pL_3, pL_5, pL_2551, trivial⟩).1
theorem pL_1257559732178653 : Prm 1257559732178653 := (lucas_of (g := 2) (fs := [2, 2, 3, 7, 23, 531581, 1224481]) (by kernel_rfl) ⟨pL_2, pL_2, pL_3, pL_7, pL_23, pL_531581, pL_1224481, trivial⟩).1
theorem pL_4434155615661930479 : Prm 4434155615661930479 := (lucas_of (g := 17) (fs := [2, 41, 43, 1257559732178653]) (by kernel_rfl) ⟨pL_2, pL_41, pL_43, pL_1257559732178653, trivial⟩).1
theorem pL_172054593956031949258510691 : Prm 172054593956031949258510691 := (lucas_of (g := 2) (fs := [2, 5, 1361, 2851, 4434155615661930479]) (by kernel_rfl) ⟨pL_2, pL_5, pL_1361, pL_2851, pL_4434155615661930479, trivial⟩).1
theorem pL_19757330305831588566944191468367130476339 : Prm 19757330305831588566944191468367130476339 := (lucas_of (g := 2) (fs := [2, 269, 213441916511, 172054593956031949258510691]) (by kernel_rfl) ⟨pL_2, pL_269, pL_213441916511, pL_172054593956031949258510691, trivial⟩).1
theorem pL_276602624281642239937218680557139826668747 : Prm 276602624281642239937218680557139826668747 := (lucas_of (g := 2) (fs := [2, 7, 19757330305831588566944191468367130476339]) (by kernel_rfl) ⟨pL_2, pL_7, pL_19757330305831588566944191468367130476339, trivial⟩).1
theorem pL_f : Prm 7237005577332262213973186563042994240857116359379907606001950938285454250989 ∧ ∀ a, a % 7237005577332262213973186563042994240857116359379907606001950938285454250989 ≠ 0 → a ^ (7237005577332262213973186563042994240857116359379907606001950938285454250989 - 1) % 7237005577332262213973186563042994240857116359379907606001950938285454250989 = 1 := lucas_of (g := 2) (fs := [2, 2, 3, 11, 198211423230930754013084525763697, 276602624281642239937218680557139826668747]) (by kernel_rfl) ⟨pL_2, pL_2, pL_3, pL_11, pL_198211423230930754013084525763697, pL_276602624281642239937218680557139826668747, trivial⟩
end Go.Vg
namespace Go.Proofs.YtkicjckhkefnpaaDoor
open Go Go.Vg
def LQ : Nat := 7237005577332262213973186563042994240857116359379907606001950938285454250989
abbrev wA (ds : List D) : Nat := wv (arrOf (ds.headD default))
abbrev wB2 (ds : List D) : Nat := wv (arrOf (ds.getD 1 default))
def ngS (a : Nat) : Nat := (LQ - a % LQ) % LQ
noncomputable def ivS (a : Nat) : Nat := opq (a ^ (LQ - 2) % LQ)
def sp55 : Go.Vg.Spec := ⟨fun ds => ds.length = 0, fun _ => n4 LQ, true, []⟩
def sp57 : Go.Vg.Spec := ⟨fun ds => ∃ w, ds = [num8 w] ∧ okw w ∧ w.length = 8, fun ds => n4 (wA ds % LQ), true, [88]⟩
def sp56 : Go.Vg.Spec := ⟨fun ds => ∃ l, ds = [num4 l] ∧ isN l, fun ds => n4 (wA ds % LQ), true, [75]⟩
def sp59 : Go.Vg.Spec := ⟨fun ds => ∃ l m, ds = [num4 l, num4 m] ∧ isN l ∧ isN m, fun ds => n4 ((wA ds + wB2 ds) % LQ), true, [75, 75]⟩
def sp60 : Go.Vg.Spec := ⟨fun ds => ∃ l, ds = [num4 l] ∧ isN l, fun ds => n4 (ngS (wA ds)), true, [75]⟩
def sp62 : Go.Vg.Spec := ⟨fun ds => ∃ l m, ds = [num4 l, num4 m] ∧ isN l ∧ isN m, fun ds => n4 (wA ds * wB2 ds % LQ), true, [75, 75]⟩
noncomputable def sp63 : Go.Vg.Spec := ⟨fun ds => ∃ l, ds = [num4 l] ∧ isN l, fun ds => n4 (ivS (wA ds)), true, [75]⟩
def c0s : Ctx := ⟨tab, fun _ => none, [], []⟩
def c57 : Ctx := ⟨tab, lkS [(108, sp108), (55, sp55)], [], []⟩
def c56 : Ctx := ⟨tab, lkS [(57, sp57), (107, sp107)], [], []⟩
def c59 : Ctx := ⟨tab, lkS [(56, sp56), (109, sp109)], [], []⟩
def c60 : Ctx := ⟨tab, lkS [(55, sp55), (93, sp93), (56, sp56)], [], []⟩
def c62 : Ctx := ⟨tab, lkS [(110, sp110), (57, sp57)], [], []⟩
noncomputable def c63 : Ctx := ⟨tab, lkS [(111, sp111), (55, sp55)], [], []⟩
--KEEP Nat.gcd Go.Vg.opq Go.Vg.eqB Go.Vg.vB Go.Vg.nB Go.Vg.okd Go.Vg.okw Go.Vg.dg Go.Vg.dig Go.Vg.trimL okb lenOk lenS len1 sbd sbb dif bor cmpN shf i64ok subL dvq dvr dve sbD adl adc mulL mulH stL stH smN smC addL addK TimI TimJ isN invN ivX ivE InvI LQ ngS ivS
set_option maxRecDepth 100000 in
theorem vc55  (F : D)  :
    (owed c0s (fun _ => none) Tryd.f55 [] F) = (
 (True ∧ (4 : Nat) ≠ (0 : Nat)) ∧
 ((1 : Nat) = (1 : Nat) ∧ false = false ∧ ((0 : Nat) < (4 : Nat) ∧ ([] : List Nat) = [] ∧ true = true) ∧ false = false ∧ ((1 : Nat) < (4 : Nat) ∧ ([] : List Nat) = [] ∧ true = true) ∧ false = false ∧ ((2 : Nat) < (4 : Nat) ∧ ([] : List Nat) = [] ∧ true = true) ∧ false = false ∧ ((3 : Nat) < (4 : Nat) ∧ ([] : List Nat) = [] ∧ true = true) ∧ True) ∧
 (Sk.arr (4 : Nat) = Sk.arr (4 : Nat) ∧ (4 : Nat) ≠ (0 : Nat) ∧ (4 : Nat) = (4 : Nat) ∧ false = false) ∧ (((4 : Nat) ≠ (0 : Nat) ∧ (4 : Nat) = (4 : Nat) ∧ true = true) ∧ True) ∧ D.arr IntKind.u64 (4 : Nat) [(6346243789798364141 : Int), (1503914060200516822 : Int), (0 : Int), (1152921504606846976 : Int)] = F) := by kernel_rfl
set_option maxRecDepth 100000 in
theorem vc57  (w : List Int) (F : D)  :
    (owed c57 (fun _ => none) Tryd.f57 [num8 w] F) = (
 (True ∧ false = false) ∧
 (True ∧ (4 : Nat) ≠ (0 : Nat)) ∧
 ((8 : Nat) ≠ (0 : Nat) ∧ (8 : Nat) = (8 : Nat) ∧ true = true) ∧
 (0 : Nat) = (0 : Nat) ∧
 (∃ (a : List Int), ∃ (m : List Int), [D.arr IntKind.u64 (8 : Nat) w, D.arr IntKind.u64 (4 : Nat) (nB (18446744073709551616 : Nat) (4 : Nat) LQ)] = [D.arr IntKind.u64 (8 : Nat) a, D.arr IntKind.u64 (4 : Nat) m] ∧ (okw a ∧ a.length = (8 : Nat)) ∧ okw m ∧ m.length = (4 : Nat)) ∧
 True ∧
 ((0 : Nat) < (2 : Nat) ∧ false = false) ∧
 ((1 : Nat) < (2 : Nat) ∧ false = false) ∧
 (True ∧ (4 : Nat) ≠ (0 : Nat)) ∧
 (Sk.arr (4 : Nat) = Sk.arr (4 : Nat) ∧ (4 : Nat) ≠ (0 : Nat) ∧ (4 : Nat) = (4 : Nat) ∧ false = false) ∧
 True ∧
 ((4 : Nat) ≠ (0 : Nat) ∧ (4 : Nat) = (4 : Nat) ∧ true = true) ∧
 (Sk.arr (4 : Nat) = Sk.arr (4 : Nat) ∧ (4 : Nat) ≠ (0 : Nat) ∧ (4 : Nat) = (4 : Nat) ∧ false = false) ∧
 (((4 : Nat) ≠ (0 : Nat) ∧ (4 : Nat) = (4 : Nat) ∧ true = true) ∧ True) ∧ D.arr IntKind.u64 (4 : Nat) (nB (18446744073709551616 : Nat) (4 : Nat) (dvr (vB (18446744073709551616 : Nat) w) (vB (18446744073709551616 : Nat) (nB (18446744073709551616 : Nat) (4 : Nat) LQ)))) = F) := by kernel_rfl
set_option maxRecDepth 100000 in
theorem vc56  (l : List Int) (F : D)  :
    (owed c56 (fun _ => none) Tryd.f56 [num4 l] F) = (
 (True ∧ false = false) ∧
 (True ∧ (4 : Nat) ≠ (0 : Nat)) ∧
 ((4 : Nat) ≠ (0 : Nat) ∧ (4 : Nat) = (4 : Nat) ∧ true = true) ∧
 ((1 : Nat) = (1 : Nat) ∧ True) ∧
 (∃ (l_1 : List Int), ∃ (m : List Int), [D.arr IntKind.u64 (4 : Nat) l, D.arr IntKind.u64 (4 : Nat) [(0 : Int), (0 : Int), (0 : Int), (0 : Int)]] = [D.arr IntKind.u64 (4 : Nat) l_1, D.arr IntKind.u64 (4 : Nat) m] ∧ l_1.length = (4 : Nat) ∧ m.length = (4 : Nat)) ∧
 (∃ (w : List Int), [D.arr IntKind.u64 (8 : Nat) (l ++ [(0 : Int), (0 : Int), (0 : Int), (0 : Int)])] = [D.arr IntKind.u64 (8 : Nat) w] ∧ okw w ∧ w.length = (8 : Nat)) ∧
 (Sk.arr (4 : Nat) = Sk.arr (4 : Nat) ∧ (4 : Nat) ≠ (0 : Nat) ∧ (4 : Nat) = (4 : Nat) ∧ false = false) ∧ (((4 : Nat) ≠ (0 : Nat) ∧ (4 : Nat) = (4 : Nat) ∧ true = true) ∧ True) ∧ D.arr IntKind.u64 (4 : Nat) (nB (18446744073709551616 : Nat) (4 : Nat) (vB (18446744073709551616 : Nat) (l ++ [(0 : Int), (0 : Int), (0 : Int), (0 : Int)]) % LQ)) = F) := by kernel_rfl
set_option maxRecDepth 100000 in
theorem vc59  (l m : List Int) (F : D)  :
    (owed c59 (fun _ => none) Tryd.f59 [num4 l, num4 m] F) = (
 (True ∧ false = false) ∧
 (True ∧ false = false) ∧
 (True ∧ (4 : Nat) ≠ (0 : Nat)) ∧
 ((4 : Nat) ≠ (0 : Nat) ∧ (4 : Nat) = (4 : Nat) ∧ true = true) ∧
 (∃ (l_1 : List Int), [D.arr IntKind.u64 (4 : Nat) l] = [D.arr IntKind.u64 (4 : Nat) l_1] ∧ isN l_1) ∧
 ((4 : Nat) ≠ (0 : Nat) ∧ (4 : Nat) = (4 : Nat) ∧ true = true) ∧
 (∃ (l : List Int), [D.arr IntKind.u64 (4 : Nat) m] = [D.arr IntKind.u64 (4 : Nat) l] ∧ isN l) ∧
 (∃ (l_1 : List Int), ∃ (m_1 : List Int), [D.arr IntKind.u64 (4 : Nat) (nB (18446744073709551616 : Nat) (4 : Nat) (vB (18446744073709551616 : Nat) l % LQ)), D.arr IntKind.u64 (4 : Nat) (nB (18446744073709551616 : Nat) (4 : Nat) (vB (18446744073709551616 : Nat) m % LQ))] = [D.arr IntKind.u64 (4 : Nat) l_1, D.arr IntKind.u64 (4 : Nat) m_1] ∧ isN l_1 ∧ isN m_1) ∧
 True ∧
 ((0 : Nat) < (2 : Nat) ∧ false = false) ∧
 ((1 : Nat) < (2 : Nat) ∧ false = false) ∧
 (True ∧ (4 : Nat) ≠ (0 : Nat)) ∧
 (Sk.arr (4 : Nat) = Sk.arr (4 : Nat) ∧ (4 : Nat) ≠ (0 : Nat) ∧ (4 : Nat) = (4 : Nat) ∧ false = false) ∧
 True ∧
 ((4 : Nat) ≠ (0 : Nat) ∧ (4 : Nat) = (4 : Nat) ∧ true = true) ∧
 (∃ (l_1 : List Int),
 [D.arr IntKind.u64 (4 : Nat) (nB (18446744073709551616 : Nat) (4 : Nat) (smN (vB (18446744073709551616 : Nat) (nB (18446744073709551616 : Nat) (4 : Nat) (vB (18446744073709551616 : Nat) l % LQ))) (vB (18446744073709551616 : Nat) (nB (18446744073709551616 : Nat) (4 : Nat) (vB (18446744073709551616 : Nat) m % LQ)))))] = [D.arr IntKind.u64 (4 : Nat) l_1] ∧
 isN l_1) ∧
 (Sk.arr (4 : Nat) = Sk.arr (4 : Nat) ∧ (4 : Nat) ≠ (0 : Nat) ∧ (4 : Nat) = (4 : Nat) ∧ false = false) ∧
 (((4 : Nat) ≠ (0 : Nat) ∧ (4 : Nat) = (4 : Nat) ∧ true = true) ∧ True) ∧
 D.arr IntKind.u64 (4 : Nat)
 (nB (18446744073709551616 : Nat) (4 : Nat)
 (vB (18446744073709551616 : Nat) (nB (18446744073709551616 : Nat) (4 : Nat) (smN (vB (18446744073709551616 : Nat) (nB (18446744073709551616 : Nat) (4 : Nat) (vB (18446744073709551616 : Nat) l % LQ))) (vB (18446744073709551616 : Nat) (nB (18446744073709551616 : Nat) (4 : Nat) (vB (18446744073709551616 : Nat) m % LQ))))) % LQ)) =
 F) := by kernel_rfl
set_option maxRecDepth 100000 in
theorem vc60  (l : List Int) (F : D)  :
    (owed c60 (fun _ => none) Tryd.f60 [num4 l] F) = (
 (True ∧ false = false) ∧
 (True ∧ (4 : Nat) ≠ (0 : Nat)) ∧
 (0 : Nat) = (0 : Nat) ∧
 ((4 : Nat) ≠ (0 : Nat) ∧ (4 : Nat) = (4 : Nat) ∧ true = true) ∧
 (∃ (l_1 : List Int), [D.arr IntKind.u64 (4 : Nat) l] = [D.arr IntKind.u64 (4 : Nat) l_1] ∧ isN l_1) ∧
 (∃ (l_1 : List Int), ∃ (m : List Int), [D.arr IntKind.u64 (4 : Nat) (nB (18446744073709551616 : Nat) (4 : Nat) LQ), D.arr IntKind.u64 (4 : Nat) (nB (18446744073709551616 : Nat) (4 : Nat) (vB (18446744073709551616 : Nat) l % LQ))] = [D.arr IntKind.u64 (4 : Nat) l_1, D.arr IntKind.u64 (4 : Nat) m] ∧ (okw l_1 ∧ l_1.length = (4 : Nat)) ∧ okw m ∧ m.length = (4 : Nat)) ∧
 True ∧
 ((0 : Nat) < (2 : Nat) ∧ false = false) ∧
 ((1 : Nat) < (2 : Nat) ∧ false = false) ∧
 (True ∧ (4 : Nat) ≠ (0 : Nat)) ∧
 (Sk.arr (4 : Nat) = Sk.arr (4 : Nat) ∧ (4 : Nat) ≠ (0 : Nat) ∧ (4 : Nat) = (4 : Nat) ∧ false = false) ∧
 True ∧
 ((4 : Nat) ≠ (0 : Nat) ∧ (4 : Nat) = (4 : Nat) ∧ true = true) ∧
 (∃ (l_1 : List Int), [D.arr IntKind.u64 (4 : Nat) (nB (18446744073709551616 : Nat) (4 : Nat) (dif (vB (18446744073709551616 : Nat) (nB (18446744073709551616 : Nat) (4 : Nat) LQ)) (vB (18446744073709551616 : Nat) (nB (18446744073709551616 : Nat) (4 : Nat) (vB (18446744073709551616 : Nat) l % LQ)))))] = [D.arr IntKind.u64 (4 : Nat) l_1] ∧ isN l_1) ∧
 (Sk.arr (4 : Nat) = Sk.arr (4 : Nat) ∧ (4 : Nat) ≠ (0 : Nat) ∧ (4 : Nat) = (4 : Nat) ∧ false = false) ∧
 (((4 : Nat) ≠ (0 : Nat) ∧ (4 : Nat) = (4 : Nat) ∧ true = true) ∧ True) ∧
 D.arr IntKind.u64 (4 : Nat) (nB (18446744073709551616 : Nat) (4 : Nat) (vB (18446744073709551616 : Nat) (nB (18446744073709551616 : Nat) (4 : Nat) (dif (vB (18446744073709551616 : Nat) (nB (18446744073709551616 : Nat) (4 : Nat) LQ)) (vB (18446744073709551616 : Nat) (nB (18446744073709551616 : Nat) (4 : Nat) (vB (18446744073709551616 : Nat) l % LQ))))) % LQ)) = F) := by kernel_rfl
set_option maxRecDepth 100000 in
theorem vc62  (l m : List Int) (F : D)  :
    (owed c62 (fun _ => none) Tryd.f62 [num4 l, num4 m] F) = (
 (True ∧ false = false) ∧
 (True ∧ false = false) ∧
 (True ∧ (4 : Nat) ≠ (0 : Nat)) ∧
 ((4 : Nat) ≠ (0 : Nat) ∧ (4 : Nat) = (4 : Nat) ∧ true = true) ∧
 ((4 : Nat) ≠ (0 : Nat) ∧ (4 : Nat) = (4 : Nat) ∧ true = true) ∧
 (∃ (l_1 : List Int), ∃ (m_1 : List Int), [D.arr IntKind.u64 (4 : Nat) l, D.arr IntKind.u64 (4 : Nat) m] = [D.arr IntKind.u64 (4 : Nat) l_1, D.arr IntKind.u64 (4 : Nat) m_1] ∧ isN l_1 ∧ isN m_1) ∧
 (∃ (w : List Int), [D.arr IntKind.u64 (8 : Nat) (nB (18446744073709551616 : Nat) (8 : Nat) (vB (18446744073709551616 : Nat) l * vB (18446744073709551616 : Nat) m))] = [D.arr IntKind.u64 (8 : Nat) w] ∧ okw w ∧ w.length = (8 : Nat)) ∧
 (Sk.arr (4 : Nat) = Sk.arr (4 : Nat) ∧ (4 : Nat) ≠ (0 : Nat) ∧ (4 : Nat) = (4 : Nat) ∧ false = false) ∧
 (((4 : Nat) ≠ (0 : Nat) ∧ (4 : Nat) = (4 : Nat) ∧ true = true) ∧ True) ∧ D.arr IntKind.u64 (4 : Nat) (nB (18446744073709551616 : Nat) (4 : Nat) (vB (18446744073709551616 : Nat) (nB (18446744073709551616 : Nat) (8 : Nat) (vB (18446744073709551616 : Nat) l * vB (18446744073709551616 : Nat) m)) % LQ)) = F) := by kernel_rfl
set_option maxRecDepth 100000 in
theorem vc63  (l : List Int) (F : D)  :
    (owed c63 (fun _ => none) Tryd.f63 [num4 l] F) = (
 (True ∧ false = false) ∧
 (True ∧ (4 : Nat) ≠ (0 : Nat)) ∧
 ((4 : Nat) ≠ (0 : Nat) ∧ (4 : Nat) = (4 : Nat) ∧ true = true) ∧
 (0 : Nat) = (0 : Nat) ∧
 (∃ (l_1 : List Int), ∃ (m : List Int), [D.arr IntKind.u64 (4 : Nat) l, D.arr IntKind.u64 (4 : Nat) (nB (18446744073709551616 : Nat) (4 : Nat) LQ)] = [D.arr IntKind.u64 (4 : Nat) l_1, D.arr IntKind.u64 (4 : Nat) m] ∧ isN l_1 ∧ isN m) ∧
 True ∧
 ((0 : Nat) < (2 : Nat) ∧ false = false) ∧
 ((1 : Nat) < (2 : Nat) ∧ false = false) ∧
 (True ∧ (4 : Nat) ≠ (0 : Nat)) ∧
 (Sk.arr (4 : Nat) = Sk.arr (4 : Nat) ∧ (4 : Nat) ≠ (0 : Nat) ∧ (4 : Nat) = (4 : Nat) ∧ false = false) ∧
 True ∧
 ((4 : Nat) ≠ (0 : Nat) ∧ (4 : Nat) = (4 : Nat) ∧ true = true) ∧
 (Sk.arr (4 : Nat) = Sk.arr (4 : Nat) ∧ (4 : Nat) ≠ (0 : Nat) ∧ (4 : Nat) = (4 : Nat) ∧ false = false) ∧
 (((4 : Nat) ≠ (0 : Nat) ∧ (4 : Nat) = (4 : Nat) ∧ true = true) ∧ True) ∧ D.arr IntKind.u64 (4 : Nat) (nB (18446744073709551616 : Nat) (4 : Nat) (ivX (vB (18446744073709551616 : Nat) l) (vB (18446744073709551616 : Nat) (nB (18446744073709551616 : Nat) (4 : Nat) LQ)))) = F) := by kernel_rfl
end Go.Proofs.YtkicjckhkefnpaaDoor
namespace Go.Proofs.YtkicjckhkefnpaaDoor
open Go Go.Vg
theorem LQ_lt : LQ < 2 ^ 256 := by unfold LQ; decide
theorem LQ_pos : 0 < LQ := by unfold LQ; decide
theorem LQ_n4 : vB 18446744073709551616 (nB 18446744073709551616 4 LQ) = LQ := n4v LQ_lt
theorem md_lt (a : Nat) : a % LQ < LQ := Nat.mod_lt _ LQ_pos
theorem md_256 (a : Nat) : a % LQ < 2 ^ 256 := Nat.lt_trans (md_lt a) LQ_lt
theorem md_n4 (a : Nat) : vB 18446744073709551616 (nB 18446744073709551616 4 (a % LQ)) = a % LQ := n4v (md_256 a)
theorem dvr_LQ (a : Nat) : dvr a LQ = a % LQ := by unfold dvr; rw [if_neg (Nat.ne_of_gt LQ_pos)]
theorem LQ_big : 2 * LQ < 2 ^ 256 := by unfold LQ; decide
theorem inv_fermat {a : Nat} : ivX a LQ = a ^ (LQ - 2) % LQ := by
  have hp : Prm LQ := pL_f.1
  have hf := pL_f.2 a
  have e1 : LQ - 1 = (LQ - 2) + 1 := by unfold LQ; decide
  have l1 : ¬ LQ ≤ 1 := by unfold LQ; decide
  unfold ivX
  rw [if_neg l1]
  by_cases h0 : a % LQ = 0
  · have hg : Nat.gcd a LQ ≠ 1 := by
      have : LQ ∣ Nat.gcd a LQ := Nat.dvd_gcd (Nat.dvd_of_mod_eq_zero h0) (Nat.dvd_refl _)
      intro e
      rw [e] at this
      have := Nat.le_of_dvd (by decide) this
      omega
    rw [if_neg hg]
    have e2 : LQ - 2 = (LQ - 3) + 1 := by unfold LQ; decide
    rw [e2, Nat.pow_succ, Nat.mul_mod, h0, Nat.mul_zero, Nat.zero_mod]
  · have hg : Nat.gcd a LQ = 1 := by
      rcases hp.2 _ (Nat.gcd_dvd_right a LQ) with h | h
      · exact h
      · exact absurd (Nat.mod_eq_zero_of_dvd (h ▸ Nat.gcd_dvd_left a LQ)) h0
    rw [if_pos hg]
    have hpow : a * (a ^ (LQ - 2) % LQ) % LQ = 1 := by
      rw [Nat.mul_mod, Nat.mod_mod, ← Nat.mul_mod, Nat.mul_comm, ← Nat.pow_succ]
      have := hf h0
      rw [show (7237005577332262213973186563042994240857116359379907606001950938285454250989 : Nat) = LQ from rfl, e1] at this
      exact this
    have hex : ∃ x, x < LQ ∧ a * x % LQ = 1 := ⟨_, md_lt _, hpow⟩
    have hch : invN a LQ < LQ ∧ a * invN a LQ % LQ = 1 := by
      unfold invN
      rw [dif_pos hex]
      exact Classical.choose_spec hex
    -- the inverse is one
    have : invN a LQ % LQ = (a ^ (LQ - 2) % LQ) % LQ := by
      have h1 : invN a LQ * (a * (a ^ (LQ - 2) % LQ)) % LQ = invN a LQ % LQ := by
        rw [Nat.mul_mod, hpow, Nat.mul_one, Nat.mod_mod]
      have h2 : invN a LQ * (a * (a ^ (LQ - 2) % LQ)) % LQ = (a ^ (LQ - 2) % LQ) % LQ := by
        rw [← Nat.mul_assoc, Nat.mul_comm (invN a LQ) a, Nat.mul_mod, hch.2, Nat.one_mul, Nat.mod_mod]
      rw [← h1, h2]
    rwa [Nat.mod_eq_of_lt hch.1, Nat.mod_mod] at this
set_option maxRecDepth 100000 in
theorem m55 : Meets Tryd.prog 55 sp55 := by
  refine meets_of_owed (C := c0s) ⟨tab_ok, fun f s h => by cases h⟩ (by kernel_rfl) (by kernel_rfl : Tryd.prog.funcs[55]? = some Tryd.f55) (by kernel_rfl) (by kernel_rfl) (by kernel_rfl) _ ?_
  intro ds hds
  obtain rfl : ds = [] := List.eq_nil_of_length_eq_zero hds
  refine ⟨fun _ => rfl, fun _ => none, ?_⟩
  show owed c0s (fun _ => none) Tryd.f55 [] (n4 LQ)
  rw [vc55]
  and_intros <;> first | trivial | rfl | decide | (intro h; cases h) | kernel_rfl
set_option maxRecDepth 100000 in
theorem m57 : Meets Tryd.prog 57 sp57 := by
  refine meets_of_owed (C := c57) ⟨tab_ok, lkS_ok ⟨m108, m55, trivial⟩⟩ (by kernel_rfl) (by kernel_rfl : Tryd.prog.funcs[57]? = some Tryd.f57) (by kernel_rfl) (by kernel_rfl) (by kernel_rfl) _ ?_
  rintro _ ⟨w, rfl, hw, hl⟩
  refine ⟨fun _ => rfl, fun _ => none, ?_⟩
  show owed c57 (fun _ => none) Tryd.f57 [num8 w] (n4 (wv w % LQ))
  rw [vc57]
  simp (decide := true) only [LQ_n4, dvr_LQ, eq_self, true_and, and_true, ne_eq, not_false_eq_true]
  exact ⟨_, _, rfl, ⟨hw, hl⟩, isN_n4 LQ⟩
set_option maxRecDepth 100000 in
theorem m56 : Meets Tryd.prog 56 sp56 := by
  refine meets_of_owed (C := c56) ⟨tab_ok, lkS_ok ⟨m57, m107, trivial⟩⟩ (by kernel_rfl) (by kernel_rfl : Tryd.prog.funcs[56]? = some Tryd.f56) (by kernel_rfl) (by kernel_rfl) (by kernel_rfl) _ ?_
  rintro _ ⟨l, rfl, hl⟩
  refine ⟨fun _ => rfl, fun _ => none, ?_⟩
  show owed c56 (fun _ => none) Tryd.f56 [num4 l] (n4 (wv l % LQ))
  rw [vc56]
  simp (decide := true) only [addz, eq_self, true_and, and_true, ne_eq, not_false_eq_true]
  exact ⟨⟨_, _, rfl, hl.2, rfl⟩, ⟨_, rfl, okw_app hl.1 okw_zero, by rw [List.length_append, hl.2]; rfl⟩⟩
set_option maxRecDepth 100000 in
theorem m59 : Meets Tryd.prog 59 sp59 := by
  refine meets_of_owed (C := c59) ⟨tab_ok, lkS_ok ⟨m56, m109, trivial⟩⟩ (by kernel_rfl) (by kernel_rfl : Tryd.prog.funcs[59]? = some Tryd.f59) (by kernel_rfl) (by kernel_rfl) (by kernel_rfl) _ ?_
  rintro _ ⟨l, m, rfl, hl, hm⟩
  refine ⟨fun _ => rfl, fun _ => none, ?_⟩
  show owed c59 (fun _ => none) Tryd.f59 [num4 l, num4 m] (n4 ((wv l + wv m) % LQ))
  rw [vc59]
  have e : vB 18446744073709551616 (nB 18446744073709551616 4 (smN (wv l % LQ) (wv m % LQ))) = wv l % LQ + wv m % LQ := by
    have h1 := md_lt (wv l)
    have h2 := md_lt (wv m)
    have h3 := LQ_big
    unfold smN
    rw [Nat.mod_eq_of_lt (show wv l % LQ + wv m % LQ < 2 ^ 256 by omega)]
    exact n4v (by omega)
  unfold wv at e ⊢
  simp (decide := true) only [md_n4, e, eq_self, true_and, and_true, ne_eq, not_false_eq_true, ← Nat.add_mod]
  exact ⟨⟨_, rfl, hl⟩, ⟨_, rfl, hm⟩, ⟨_, _, rfl, isN_n4 _, isN_n4 _⟩, ⟨_, rfl, isN_n4 _⟩⟩
set_option maxRecDepth 100000 in
theorem m60 : Meets Tryd.prog 60 sp60 := by
  refine meets_of_owed (C := c60) ⟨tab_ok, lkS_ok ⟨m55, m93, m56, trivial⟩⟩ (by kernel_rfl) (by kernel_rfl : Tryd.prog.funcs[60]? = some Tryd.f60) (by kernel_rfl) (by kernel_rfl) (by kernel_rfl) _ ?_
  rintro _ ⟨l, rfl, hl⟩
  refine ⟨fun _ => rfl, fun _ => none, ?_⟩
  show owed c60 (fun _ => none) Tryd.f60 [num4 l] (n4 (ngS (wv l)))
  rw [vc60]
  have e : vB 18446744073709551616 (nB 18446744073709551616 4 (dif LQ (wv l % LQ))) = LQ - wv l % LQ := by
    have h1 := md_lt (wv l)
    have h3 := LQ_big
    have : dif LQ (wv l % LQ) = LQ - wv l % LQ := by
      unfold dif
      rw [show LQ + 2 ^ 256 - wv l % LQ = (LQ - wv l % LQ) + 2 ^ 256 by omega, Nat.add_mod_right, Nat.mod_eq_of_lt (by omega)]
    rw [this]
    exact n4v (by omega)
  unfold wv at e ⊢
  simp (decide := true) only [md_n4, LQ_n4, e, eq_self, true_and, and_true, ne_eq, not_false_eq_true]
  exact ⟨⟨_, rfl, hl⟩, ⟨_, _, rfl, isN_n4 _, isN_n4 _⟩, ⟨_, rfl, isN_n4 _⟩, rfl⟩
set_option maxRecDepth 100000 in
theorem m62 : Meets Tryd.prog 62 sp62 := by
  refine meets_of_owed (C := c62) ⟨tab_ok, lkS_ok ⟨m110, m57, trivial⟩⟩ (by kernel_rfl) (by kernel_rfl : Tryd.prog.funcs[62]? = some Tryd.f62) (by kernel_rfl) (by kernel_rfl) (by kernel_rfl) _ ?_
  rintro _ ⟨l, m, rfl, hl, hm⟩
  refine ⟨fun _ => rfl, fun _ => none, ?_⟩
  show owed c62 (fun _ => none) Tryd.f62 [num4 l, num4 m] (n4 (wv l * wv m % LQ))
  rw [vc62]
  have hA := wv_lt hl.1 hl.2
  have hB := wv_lt hm.1 hm.2
  unfold wv at hA hB ⊢
  have e : vB 18446744073709551616 (nB 18446744073709551616 8 (vB 18446744073709551616 l * vB 18446744073709551616 m)) = vB 18446744073709551616 l * vB 18446744073709551616 m := n8v (Nat.mul_lt_mul'' hA hB)
  simp (decide := true) only [e, eq_self, true_and, and_true, ne_eq, not_false_eq_true]
  exact ⟨⟨_, _, rfl, hl, hm⟩, ⟨_, rfl, nB_okw 8 _, nB_length _ _ _⟩⟩
set_option maxRecDepth 100000 in
theorem m63 : Meets Tryd.prog 63 sp63 := by
  refine meets_of_owed (C := c63) ⟨tab_ok, lkS_ok ⟨m111, m55, trivial⟩⟩ (by kernel_rfl) (by kernel_rfl : Tryd.prog.funcs[63]? = some Tryd.f63) (by kernel_rfl) (by kernel_rfl) (by kernel_rfl) _ ?_
  rintro _ ⟨l, rfl, hl⟩
  refine ⟨fun _ => rfl, fun _ => none, ?_⟩
  show owed c63 (fun _ => none) Tryd.f63 [num4 l] (n4 (ivS (wv l)))
  rw [vc63]
  have e : ivS (wv l) = ivX (wv l) LQ := by unfold ivS; rw [opq_eq, inv_fermat]
  rw [e]
  unfold wv
  simp (decide := true) only [LQ_n4, eq_self, true_and, and_true, ne_eq, not_false_eq_true]
  exact ⟨_, _, rfl, hl, isN_n4 _⟩
end Go.Proofs.YtkicjckhkefnpaaDoor
namespace Go.Proofs.YtkicjckhkefnpaaDoor
open Go Go.Vg
def powN (A N M : Nat) : Nat := A ^ N % M
def pwO (A N M i : Nat) : Nat := A ^ (N % 2 ^ i) % M
def pwA (A M i : Nat) : Nat := A ^ (2 ^ i) % M
def n256 (n : Nat) : Prop := n < 2 ^ 256
noncomputable def sp64 : Go.Vg.Spec := ⟨fun ds => ∃ a n m, ds = [dgs (dg a), dgs (dg n), dgs (dg m)] ∧ n256 a ∧ n256 n ∧ n256 m ∧ 0 < m, fun ds => dgs (dg (powN (vD (intsOf (ds.headD default))) (vD (intsOf (ds.getD 1 default))) (vD (intsOf (ds.getD 2 default))))), false, [89, 89, 89]⟩
def sp58 : Go.Vg.Spec := ⟨fun ds => ∃ l, ds = [num8 l] ∧ okw l ∧ l.length = 8, fun ds => dgs (dg (vB 18446744073709551616 (arrOf (ds.headD default)))), false, [88]⟩
noncomputable def c64 : Ctx := ⟨tab, lkS [(51, sp51), (112, sp112), (54, sp54)], [], []⟩
noncomputable def c58 : Ctx := ⟨tab, lkS [(102, sp102)], [], []⟩
def inv64 (a n m : Nat) : Nat → Option Inv
  | 4 => some ⟨Nat, fun i => [(22, .d (i64 i)), (7, .d (dgs (dg (pwO a n m i)))), (0, .d (dgs (dg (pwA a m i))))], fun _ => [], fun s => (slotN s 22).toNat, fun _ i => i ≤ 16 * (dg n).length, fun i => 16 * (dg n).length - i⟩
  | _ => none
--KEEP Nat.gcd Go.Vg.eqB Go.Vg.vB Go.Vg.nB Go.Vg.okd Go.Vg.okw Go.Vg.dg Go.Vg.dig Go.Vg.trimL lenOk lenS len1 sbd sbb dif bor cmpN shf i64ok subL dvq dvr dve sbD adl adc mulL mulH stL stH smN smC addL addK TimI TimJ isN invN ivX ivE bl2 bitN rgO rgS rgI rgOk is8 redc OutI OutJ OutK powN pwO pwA pwR sbM adM mlM n256 rgNo m0 inM NwI
set_option maxRecDepth 100000 in
theorem vc64  (a n m : Nat) (F : D)  :
    (owed c64 (inv64 a n m) Tryd.f64 [dgs (dg a), dgs (dg n), dgs (dg m)] F) = (
 True ∧
 ((1 : Nat) = (1 : Nat) ∧ (1 : Nat) ≤ (4096 : Nat)) ∧
 True ∧
 (∃ (l : List Int), ∃ (m_1 : List Int), [D.ints IntKind.i64 [(1 : Int)], D.ints IntKind.i64 (dg m)] = [D.ints IntKind.i64 l, D.ints IntKind.i64 m_1] ∧ (okd l ∧ len1 l) ∧ (okd m_1 ∧ len1 m_1) ∧ vB (65536 : Nat) m_1 ≠ (0 : Nat)) ∧
 True ∧
 True ∧
 True ∧
 (∃ (l : List Int), ∃ (m_1 : List Int), [D.ints IntKind.i64 (dg a), D.ints IntKind.i64 (dg m)] = [D.ints IntKind.i64 l, D.ints IntKind.i64 m_1] ∧ (okd l ∧ len1 l) ∧ (okd m_1 ∧ len1 m_1) ∧ vB (65536 : Nat) m_1 ≠ (0 : Nat)) ∧
 True ∧
 True ∧
 True ∧
 True ∧
 True ∧
 (∃ (l : List Int), ∃ (n_1 : Int), [D.ints IntKind.i64 (dg n), D.val (Value.int IntKind.i64 (IntKind.i64.wrap ((16 : Int) * (↑(dg n).length : Int))))] = [D.ints IntKind.i64 l, D.val (Value.int IntKind.i64 n_1)] ∧ okd l ∧ lenOk l ∧ (0 : Int) ≤ n_1 ∧ n_1 ≤ (16777216 : Int)) ∧
 True ∧
 True ∧
 (((AV.d (D.val (Value.int IntKind.i64 (0 : Int))) = AV.d (D.val (Value.int IntKind.i64 (↑(Int.toNat (0 : Int)) : Int))) ∧
 AV.d (D.ints IntKind.i64 (dg (vB (65536 : Nat) [(1 : Int)] % vB (65536 : Nat) (dg m)))) = AV.d (D.ints IntKind.i64 (dg (pwO a n m (Int.toNat (0 : Int))))) ∧ AV.d (D.ints IntKind.i64 (dg (vB (65536 : Nat) (dg a) % vB (65536 : Nat) (dg m)))) = AV.d (D.ints IntKind.i64 (dg (pwA a m (Int.toNat (0 : Int))))) ∧ True) ∧
 True ∧ true = true) ∧
 Int.toNat (0 : Int) ≤ (16 : Nat) * (dg n).length) ∧
 ∀ (x : Nat),
 x ≤ (16 : Nat) * (dg n).length →
 true = true ∧
 True ∧
 match decide ((↑x : Int) < (↑(nB (2 : Nat) (IntKind.i64.wrap ((16 : Int) * (↑(dg n).length : Int))).toNat (vB (65536 : Nat) (dg n))).length : Int)) with
 | true =>
  ((0 : Int) ≤ (↑x : Int) ∧ (↑x : Int) < (↑(nB (2 : Nat) (IntKind.i64.wrap ((16 : Int) * (↑(dg n).length : Int))).toNat (vB (65536 : Nat) (dg n))).length : Int) ∧ (1 : Nat) = (1 : Nat)) ∧
  ((1 : Nat) ≠ (0 : Nat) ∧ (1 : Nat) = (1 : Nat) ∧ false = false) ∧
  True ∧
  True ∧
  True ∧
  match (nB (2 : Nat) (IntKind.i64.wrap ((16 : Int) * (↑(dg n).length : Int))).toNat (vB (65536 : Nat) (dg n))).getD (↑x : Int).toNat (0 : Int) == (1 : Int) with
  | true =>
   True ∧
   True ∧
   (∃ (l : List Int), ∃ (m_1 : List Int), [D.ints IntKind.i64 (dg (pwO a n m x)), D.ints IntKind.i64 (dg (pwA a m x))] = [D.ints IntKind.i64 l, D.ints IntKind.i64 m_1] ∧ (okd l ∧ lenS l) ∧ okd m_1 ∧ lenS m_1) ∧
   True ∧
   (∃ (l : List Int), ∃ (m_1 : List Int), [D.ints IntKind.i64 (dg (vB (65536 : Nat) (dg (pwO a n m x)) * vB (65536 : Nat) (dg (pwA a m x)))), D.ints IntKind.i64 (dg m)] = [D.ints IntKind.i64 l, D.ints IntKind.i64 m_1] ∧ (okd l ∧ len1 l) ∧ (okd m_1 ∧ len1 m_1) ∧ vB (65536 : Nat) m_1 ≠ (0 : Nat)) ∧
   True ∧
   True ∧
   True ∧
   (∃ (l : List Int), ∃ (m_1 : List Int), [D.ints IntKind.i64 (dg (pwA a m x)), D.ints IntKind.i64 (dg (pwA a m x))] = [D.ints IntKind.i64 l, D.ints IntKind.i64 m_1] ∧ (okd l ∧ lenS l) ∧ okd m_1 ∧ lenS m_1) ∧
   True ∧
   (∃ (l : List Int), ∃ (m_1 : List Int), [D.ints IntKind.i64 (dg (vB (65536 : Nat) (dg (pwA a m x)) * vB (65536 : Nat) (dg (pwA a m x)))), D.ints IntKind.i64 (dg m)] = [D.ints IntKind.i64 l, D.ints IntKind.i64 m_1] ∧ (okd l ∧ len1 l) ∧ (okd m_1 ∧ len1 m_1) ∧ vB (65536 : Nat) m_1 ≠ (0 : Nat)) ∧
   True ∧
   True ∧
   True ∧
   ((AV.d (D.val (Value.int IntKind.i64 (IntKind.i64.wrap ((↑x : Int) + (1 : Int))))) = AV.d (D.val (Value.int IntKind.i64 (↑(IntKind.i64.wrap ((↑x : Int) + (1 : Int))).toNat : Int))) ∧
   AV.d (D.ints IntKind.i64 (dg (vB (65536 : Nat) (dg (vB (65536 : Nat) (dg (pwO a n m x)) * vB (65536 : Nat) (dg (pwA a m x)))) % vB (65536 : Nat) (dg m)))) = AV.d (D.ints IntKind.i64 (dg (pwO a n m (IntKind.i64.wrap ((↑x : Int) + (1 : Int))).toNat))) ∧
   AV.d (D.ints IntKind.i64 (dg (vB (65536 : Nat) (dg (vB (65536 : Nat) (dg (pwA a m x)) * vB (65536 : Nat) (dg (pwA a m x)))) % vB (65536 : Nat) (dg m)))) = AV.d (D.ints IntKind.i64 (dg (pwA a m (IntKind.i64.wrap ((↑x : Int) + (1 : Int))).toNat))) ∧ True) ∧
   True ∧ true = true) ∧
   (IntKind.i64.wrap ((↑x : Int) + (1 : Int))).toNat ≤ (16 : Nat) * (dg n).length ∧ (16 : Nat) * (dg n).length - (IntKind.i64.wrap ((↑x : Int) + (1 : Int))).toNat < (16 : Nat) * (dg n).length - x
  | false =>
   True ∧
   True ∧
   (∃ (l : List Int), ∃ (m_1 : List Int), [D.ints IntKind.i64 (dg (pwA a m x)), D.ints IntKind.i64 (dg (pwA a m x))] = [D.ints IntKind.i64 l, D.ints IntKind.i64 m_1] ∧ (okd l ∧ lenS l) ∧ okd m_1 ∧ lenS m_1) ∧
   True ∧
   (∃ (l : List Int), ∃ (m_1 : List Int), [D.ints IntKind.i64 (dg (vB (65536 : Nat) (dg (pwA a m x)) * vB (65536 : Nat) (dg (pwA a m x)))), D.ints IntKind.i64 (dg m)] = [D.ints IntKind.i64 l, D.ints IntKind.i64 m_1] ∧ (okd l ∧ len1 l) ∧ (okd m_1 ∧ len1 m_1) ∧ vB (65536 : Nat) m_1 ≠ (0 : Nat)) ∧
   True ∧
   True ∧
   True ∧
   ((AV.d (D.val (Value.int IntKind.i64 (IntKind.i64.wrap ((↑x : Int) + (1 : Int))))) = AV.d (D.val (Value.int IntKind.i64 (↑(IntKind.i64.wrap ((↑x : Int) + (1 : Int))).toNat : Int))) ∧
   AV.d (D.ints IntKind.i64 (dg (pwO a n m x))) = AV.d (D.ints IntKind.i64 (dg (pwO a n m (IntKind.i64.wrap ((↑x : Int) + (1 : Int))).toNat))) ∧
   AV.d (D.ints IntKind.i64 (dg (vB (65536 : Nat) (dg (vB (65536 : Nat) (dg (pwA a m x)) * vB (65536 : Nat) (dg (pwA a m x)))) % vB (65536 : Nat) (dg m)))) = AV.d (D.ints IntKind.i64 (dg (pwA a m (IntKind.i64.wrap ((↑x : Int) + (1 : Int))).toNat))) ∧ True) ∧
   True ∧ true = true) ∧
   (IntKind.i64.wrap ((↑x : Int) + (1 : Int))).toNat ≤ (16 : Nat) * (dg n).length ∧ (16 : Nat) * (dg n).length - (IntKind.i64.wrap ((↑x : Int) + (1 : Int))).toNat < (16 : Nat) * (dg n).length - x
 | false => True ∧ True ∧ (false = false ∧ True) ∧ D.ints IntKind.i64 (dg (pwO a n m x)) = F) := by kernel_rfl
set_option maxRecDepth 100000 in
theorem vc58  (l : List Int) (F : D)  :
    (owed c58 (fun _ => none) Tryd.f58 [num8 l] F) = (
 (True ∧ false = false) ∧
 True ∧
 ((0 : Int) ≤ (0 : Int) ∧ (0 : Int) < (↑(8 : Nat) : Int) ∧ (8 : Nat) = (8 : Nat) ∧ (1 : Nat) = (1 : Nat)) ∧
 ((1 : Nat) ≠ (0 : Nat) ∧ (1 : Nat) = (1 : Nat) ∧ false = false) ∧
 ((0 : Int) ≤ (1 : Int) ∧ (1 : Int) < (↑(8 : Nat) : Int) ∧ (8 : Nat) = (8 : Nat) ∧ (1 : Nat) = (1 : Nat)) ∧
 ((1 : Nat) ≠ (0 : Nat) ∧ (1 : Nat) = (1 : Nat) ∧ false = false) ∧
 ((0 : Int) ≤ (2 : Int) ∧ (2 : Int) < (↑(8 : Nat) : Int) ∧ (8 : Nat) = (8 : Nat) ∧ (1 : Nat) = (1 : Nat)) ∧
 ((1 : Nat) ≠ (0 : Nat) ∧ (1 : Nat) = (1 : Nat) ∧ false = false) ∧
 ((0 : Int) ≤ (3 : Int) ∧ (3 : Int) < (↑(8 : Nat) : Int) ∧ (8 : Nat) = (8 : Nat) ∧ (1 : Nat) = (1 : Nat)) ∧
 ((1 : Nat) ≠ (0 : Nat) ∧ (1 : Nat) = (1 : Nat) ∧ false = false) ∧
 ((0 : Int) ≤ (4 : Int) ∧ (4 : Int) < (↑(8 : Nat) : Int) ∧ (8 : Nat) = (8 : Nat) ∧ (1 : Nat) = (1 : Nat)) ∧
 ((1 : Nat) ≠ (0 : Nat) ∧ (1 : Nat) = (1 : Nat) ∧ false = false) ∧
 ((0 : Int) ≤ (5 : Int) ∧ (5 : Int) < (↑(8 : Nat) : Int) ∧ (8 : Nat) = (8 : Nat) ∧ (1 : Nat) = (1 : Nat)) ∧
 ((1 : Nat) ≠ (0 : Nat) ∧ (1 : Nat) = (1 : Nat) ∧ false = false) ∧
 ((0 : Int) ≤ (6 : Int) ∧ (6 : Int) < (↑(8 : Nat) : Int) ∧ (8 : Nat) = (8 : Nat) ∧ (1 : Nat) = (1 : Nat)) ∧
 ((1 : Nat) ≠ (0 : Nat) ∧ (1 : Nat) = (1 : Nat) ∧ false = false) ∧
 ((0 : Int) ≤ (7 : Int) ∧ (7 : Int) < (↑(8 : Nat) : Int) ∧ (8 : Nat) = (8 : Nat) ∧ (1 : Nat) = (1 : Nat)) ∧
 ((1 : Nat) ≠ (0 : Nat) ∧ (1 : Nat) = (1 : Nat) ∧ false = false) ∧
 ((1 : Nat) = (1 : Nat) ∧ (8 : Nat) ≤ (4096 : Nat)) ∧
 (∃ (l_1 : List Int), [D.ints IntKind.u64 [l.getD (0 : Nat) (0 : Int), l.getD (1 : Nat) (0 : Int), l.getD (2 : Nat) (0 : Int), l.getD (3 : Nat) (0 : Int), l.getD (4 : Nat) (0 : Int), l.getD (5 : Nat) (0 : Int), l.getD (6 : Nat) (0 : Int), l.getD (7 : Nat) (0 : Int)]] = [D.ints IntKind.u64 l_1] ∧ okw l_1 ∧ l_1.length ≤ (100 : Nat)) ∧
 True ∧ (false = false ∧ True) ∧ D.ints IntKind.i64 (dg (vB (18446744073709551616 : Nat) [l.getD (0 : Nat) (0 : Int), l.getD (1 : Nat) (0 : Int), l.getD (2 : Nat) (0 : Int), l.getD (3 : Nat) (0 : Int), l.getD (4 : Nat) (0 : Int), l.getD (5 : Nat) (0 : Int), l.getD (6 : Nat) (0 : Int), l.getD (7 : Nat) (0 : Int)])) = F) := by kernel_rfl
set_option exponentiation.threshold 2000 in
theorem mul512 {x y : Nat} (hx : x < 2 ^ 256) (hy : y < 2 ^ 256) : x * y < 2 ^ 512 := Nat.lt_of_lt_of_le (Nat.mul_lt_mul'' hx hy) (by rw [← Nat.pow_add]; exact Nat.le_refl _)
theorem lens {x : Nat} (h : x < 65536 ^ 64) : okd (dg x) ∧ len1 (dg x) ∧ lenS (dg x) ∧ lenOk (dg x) := by
  have := dg_len 64 x h
  exact ⟨dg_ok x, by unfold len1; omega, by unfold lenS; omega, by unfold lenOk; omega⟩
set_option exponentiation.threshold 2000 in
set_option maxRecDepth 100000 in
theorem lens2 {x : Nat} (h : x < 2 ^ 512) : okd (dg x) ∧ len1 (dg x) ∧ lenS (dg x) ∧ lenOk (dg x) := lens (Nat.lt_trans h (by decide))
theorem lens1 {x : Nat} (h : x < 2 ^ 256) : okd (dg x) ∧ len1 (dg x) ∧ lenS (dg x) ∧ lenOk (dg x) := lens (Nat.lt_trans h (by decide))
theorem pwO_zero (A N M : Nat) : pwO A N M 0 = 1 % M := by
  unfold pwO
  rw [Nat.pow_zero, Nat.mod_one, Nat.pow_zero]
theorem pwA_zero (A M : Nat) : pwA A M 0 = A % M := by
  unfold pwA
  rw [Nat.pow_zero, Nat.pow_one]
theorem pwA_step (A M i : Nat) : pwA A M i * pwA A M i % M = pwA A M (i + 1) := by
  unfold pwA
  rw [← Nat.mul_mod, ← Nat.pow_add, Nat.pow_succ, Nat.mul_two]
theorem pwO_one {A N M i : Nat} (h : N / 2 ^ i % 2 = 1) : pwO A N M i * pwA A M i % M = pwO A N M (i + 1) := by
  unfold pwO pwA
  rw [← Nat.mul_mod, ← Nat.pow_add, Nat.mod_pow_succ, h, Nat.mul_one]
theorem pwO_nil {A N M i : Nat} (h : N / 2 ^ i % 2 = 0) : pwO A N M i = pwO A N M (i + 1) := by
  unfold pwO
  rw [Nat.mod_pow_succ, h, Nat.mul_zero, Nat.add_zero]
set_option maxRecDepth 100000 in
theorem m64 : Meets Tryd.prog 64 sp64 := by
  refine meets_of_owed (C := c64) ⟨tab_ok, lkS_ok ⟨m51, m112, m54, trivial⟩⟩ (by kernel_rfl) (by kernel_rfl : Tryd.prog.funcs[64]? = some Tryd.f64) (by kernel_rfl) (by kernel_rfl) (by kernel_rfl) _ ?_
  rintro _ ⟨a, n, m, rfl, ha, hn, hm, hm0⟩
  refine ⟨fun h => (by cases h), inv64 a n m, ?_⟩
  show owed c64 (inv64 a n m) Tryd.f64 [dgs (dg a), dgs (dg n), dgs (dg m)] (dgs (dg (powN (vD (dg a)) (vD (dg n)) (vD (dg m)))))
  rw [vc64]
  have hL : (dg n).length ≤ 16 := dg_len 16 n (Nat.lt_of_lt_of_le hn (by decide))
  have w1 : IntKind.i64.wrap (16 * (((dg n).length : Nat) : Int)) = ((16 * (dg n).length : Nat) : Int) := by rw [wi (by omega) (by omega)]; omega
  have o1 : vB 65536 [(1 : Int)] = 1 := by decide
  have lO : ∀ i, pwO a n m i < 2 ^ 256 := fun i => Nat.lt_trans (Nat.mod_lt _ hm0) hm
  have lA : ∀ i, pwA a m i < 2 ^ 256 := fun i => Nat.lt_trans (Nat.mod_lt _ hm0) hm
  have hmd := lens1 hm
  have had := lens1 ha
  have hnd := lens1 hn
  have hz : ¬ m = 0 := by omega
  simp (decide := true) only [w1, o1, vl_dg, nB_length, eq_self, true_and, and_true, ne_eq, not_false_eq_true, Int.toNat_natCast, show Int.toNat 0 = 0 from rfl, pwO_zero, pwA_zero, pwA_step]
  refine ⟨⟨_, _, rfl, ⟨by unfold okd; decide, by unfold len1; decide⟩, ⟨hmd.1, hmd.2.1⟩, by rw [vl_dg]; exact hz⟩, ⟨_, _, rfl, ⟨had.1, had.2.1⟩, ⟨hmd.1, hmd.2.1⟩, by rw [vl_dg]; exact hz⟩, ⟨_, _, rfl, hnd.1, hnd.2.2.2, by omega, by omega⟩, ?_, ?_⟩
  · and_intros <;> first | rfl | trivial | omega
  intro x hx
  have bA := lens1 (lA x)
  have bO := lens1 (lO x)
  have bAA := lens2 (mul512 (lA x) (lA x))
  have bOA := lens2 (mul512 (lO x) (lA x))
  have p1 : ∃ l q : List Int, [D.ints IntKind.i64 (dg (pwA a m x)), D.ints IntKind.i64 (dg (pwA a m x))] = [D.ints IntKind.i64 l, D.ints IntKind.i64 q] ∧ (okd l ∧ lenS l) ∧ okd q ∧ lenS q := ⟨_, _, rfl, ⟨bA.1, bA.2.2.1⟩, bA.1, bA.2.2.1⟩
  have p2 : ∃ l q : List Int, [D.ints IntKind.i64 (dg (pwA a m x * pwA a m x)), D.ints IntKind.i64 (dg m)] = [D.ints IntKind.i64 l, D.ints IntKind.i64 q] ∧ (okd l ∧ len1 l) ∧ (okd q ∧ len1 q) ∧ ¬ vB 65536 q = 0 := ⟨_, _, rfl, ⟨bAA.1, bAA.2.1⟩, ⟨hmd.1, hmd.2.1⟩, by rw [vl_dg]; exact hz⟩
  have p3 : ∃ l q : List Int, [D.ints IntKind.i64 (dg (pwO a n m x)), D.ints IntKind.i64 (dg (pwA a m x))] = [D.ints IntKind.i64 l, D.ints IntKind.i64 q] ∧ (okd l ∧ lenS l) ∧ okd q ∧ lenS q := ⟨_, _, rfl, ⟨bO.1, bO.2.2.1⟩, bA.1, bA.2.2.1⟩
  have p4 : ∃ l q : List Int, [D.ints IntKind.i64 (dg (pwO a n m x * pwA a m x)), D.ints IntKind.i64 (dg m)] = [D.ints IntKind.i64 l, D.ints IntKind.i64 q] ∧ (okd l ∧ len1 l) ∧ (okd q ∧ len1 q) ∧ ¬ vB 65536 q = 0 := ⟨_, _, rfl, ⟨bOA.1, bOA.2.1⟩, ⟨hmd.1, hmd.2.1⟩, by rw [vl_dg]; exact hz⟩
  split
  · rename_i h
    have h := of_decide_eq_true h
    have hxl : x < 16 * (dg n).length := by omega
    have e1 : IntKind.i64.wrap ((x : Int) + 1) = ((x + 1 : Nat) : Int) := by rw [wi (by omega) (by omega)]; omega
    simp only [e1, Int.toNat_natCast]
    refine ⟨by omega, ?_⟩
    split
    · rename_i h2
      have h2 := eq_of_beq h2
      rw [nB_get _ _ _ _ hxl] at h2
      simp only [pwO_one (A := a) (M := m) (show n / 2 ^ x % 2 = 1 by omega)]
      and_intros <;> first | exact p1 | exact p2 | exact p3 | exact p4 | rfl | trivial | omega
    · rename_i h2
      have h3 : n / 2 ^ x % 2 ≠ 1 := fun e => by rw [nB_get _ _ _ _ hxl, e] at h2; exact absurd h2 (by decide)
      have e2 := pwO_nil (A := a) (M := m) (show n / 2 ^ x % 2 = 0 by omega)
      and_intros <;> first | exact p1 | exact p2 | exact p3 | exact p4 | rfl | trivial | omega | (rw [← e2])
  · rename_i h
    have h := of_decide_eq_false h
    obtain rfl : x = 16 * (dg n).length := by omega
    have hnl := vB_lt (b := 65536) (l := dg n) (dg_ok n)
    rw [vl_dg, show (65536 : Nat) = 2 ^ 16 by decide, ← Nat.pow_mul] at hnl
    unfold pwO powN
    rw [Nat.mod_eq_of_lt hnl]
set_option maxRecDepth 100000 in
theorem m58 : Meets Tryd.prog 58 sp58 := by
  refine meets_of_owed (C := c58) ⟨tab_ok, lkS_ok ⟨m102, trivial⟩⟩ (by kernel_rfl) (by kernel_rfl : Tryd.prog.funcs[58]? = some Tryd.f58) (by kernel_rfl) (by kernel_rfl) (by kernel_rfl) _ ?_
  rintro _ ⟨l, rfl, hw, hl⟩
  obtain ⟨a, b, c, d, e, f, g, i, rfl⟩ := eight hl
  refine ⟨fun h => (by cases h), fun _ => none, ?_⟩
  show owed c58 (fun _ => none) Tryd.f58 [num8 [a, b, c, d, e, f, g, i]] (dgs (dg (vB 18446744073709551616 [a, b, c, d, e, f, g, i])))
  rw [vc58]
  simp (decide := true) only [eq_self, true_and, and_true, ne_eq, not_false_eq_true, List.getD_cons_zero, List.getD_cons_succ]
  exact ⟨_, rfl, hw, by simp⟩
end Go.Proofs.YtkicjckhkefnpaaDoor
namespace Go.Proofs.YtkicjckhkefnpaaDoor
open Go Go.Vg
noncomputable def dgO (l : List Int) : List Int := opq (dg (vB 18446744073709551616 l))
noncomputable def dgL : List Int := opq (dg LQ)
noncomputable def sp102o : Go.Vg.Spec := ⟨fun ds => ∃ l, ds = [.ints .u64 l] ∧ okw l ∧ l.length ≤ 100, fun ds => dgs (dgO (intsOf (ds.headD default))), false, [152]⟩
noncomputable def sp47 : Go.Vg.Spec := ⟨fun ds => ds.length = 0, fun _ => dgs dgL, false, []⟩
noncomputable def c47 : Ctx := ⟨tab, lkS [(100, sp100), (102, sp102o), (53, sp53)], [], [2]⟩
--KEEP Nat.gcd Go.Vg.opq Go.Vg.eqB Go.Vg.vB Go.Vg.nB Go.Vg.okd Go.Vg.okw Go.Vg.dg Go.Vg.dig Go.Vg.trimL okb lenOk lenS len1 sbd sbb dif bor cmpN shf i64ok subL dvq dvr dve sbD adl adc mulL mulH stL stH smN smC addL addK TimI TimJ isN invN ivX ivE InvI LQ ngS ivS dgP dgO dgL
set_option maxRecDepth 100000 in
theorem vc47  (F : D)  :
    (owed c47 (fun _ => none) Tryd.f47 [] F) = (
 True ∧
 (∃ (n : Int), [D.val (Value.int IntKind.i64 (252 : Int))] = [D.val (Value.int IntKind.i64 n)] ∧ (0 : Int) ≤ n ∧ n ≤ (1048576 : Int)) ∧
 ((1 : Nat) = (1 : Nat) ∧ (2 : Nat) ≤ (4096 : Nat)) ∧
 (∃ (l : List Int), [D.ints IntKind.u64 [(6346243789798364141 : Int), (1503914060200516822 : Int)]] = [D.ints IntKind.u64 l] ∧ okw l ∧ l.length ≤ (100 : Nat)) ∧
 (∃ (l : List Int), ∃ (m : List Int), [D.ints IntKind.i64 (dgP (252 : Nat)), D.ints IntKind.i64 (dgO [(6346243789798364141 : Int), (1503914060200516822 : Int)])] = [D.ints IntKind.i64 l, D.ints IntKind.i64 m] ∧ (okd l ∧ lenS l) ∧ okd m ∧ lenS m) ∧
 True ∧ (false = false ∧ True) ∧ D.ints IntKind.i64 (dg (vB (65536 : Nat) (dgP (252 : Nat)) + vB (65536 : Nat) (dgO [(6346243789798364141 : Int), (1503914060200516822 : Int)]))) = F) := by kernel_rfl
theorem m102o : Meets Tryd.prog 102 sp102o := by
  have e : sp102o = sp102 := by
    unfold sp102o sp102 dgO
    simp only [opq_eq]
  rw [e]; exact m102
theorem vB_LQ : 2 ^ 252 + vB 18446744073709551616 [6346243789798364141, 1503914060200516822] = LQ := by kernel_rfl
set_option maxRecDepth 100000 in
theorem m47 : Meets Tryd.prog 47 sp47 := by
  refine meets_of_owed (C := c47) ⟨tab_ok, lkS_ok ⟨m100, m102o, m53, trivial⟩⟩ (by kernel_rfl) (by kernel_rfl : Tryd.prog.funcs[47]? = some Tryd.f47) (by kernel_rfl) (by kernel_rfl) (by kernel_rfl) _ ?_
  intro ds hds
  obtain rfl : ds = [] := List.eq_nil_of_length_eq_zero hds
  refine ⟨fun h => (by cases h), fun _ => none, ?_⟩
  show owed c47 (fun _ => none) Tryd.f47 [] (dgs dgL)
  rw [vc47]
  have e1 : dgP 252 = dg (2 ^ 252) := opq_eq _
  have e2 : dgO [6346243789798364141, 1503914060200516822] = dg (vB 18446744073709551616 [6346243789798364141, 1503914060200516822]) := opq_eq _
  have e3 : dgL = dg LQ := opq_eq _
  have l1 := lens1 (x := 2 ^ 252) (Nat.pow_lt_pow_right (by decide) (by decide))
  have l2 := lens1 (x := vB 18446744073709551616 [6346243789798364141, 1503914060200516822]) (by have := vB_LQ; have := LQ_lt; omega)
  rw [e1, e2, e3]
  simp only [vl_dg, vB_LQ, eq_self, true_and, and_true]
  refine ⟨⟨_, rfl, by decide, by decide⟩, by decide, ⟨_, rfl, ?_, by decide⟩, ⟨_, _, rfl, ⟨l1.1, l1.2.2.1⟩, l2.1, l2.2.2.1⟩⟩
  intro x hx
  simp at hx
  rcases hx with rfl | rfl <;> decide
end Go.Proofs.YtkicjckhkefnpaaDoor
namespace Go.Vg
open Go Go.RowKit
abbrev W := BitVec 32
abbrev wd (x : W) : D := .val (.int .u32 (x.toNat : Int))
def toW (d : D) : W := BitVec.ofInt 32 (numOf d)
theorem ltW (x : W) : x.toNat < kb .u32 := x.isLt
theorem toW_wd (x : W) : toW (wd x) = x := by
  show BitVec.ofInt 32 (x.toNat : Int) = x
  rw [BitVec.ofInt_natCast, BitVec.ofNat_toNat, BitVec.setWidth_eq]
theorem addW (x y : W) : IntKind.u32.wrap ((x.toNat : Int) + (y.toNat : Int)) = ((x + y).toNat : Int) := by
  rw [w32, BitVec.toNat_add]
  omega
theorem andW (x y : W) : iand .u32 (x.toNat : Int) (y.toNat : Int) = ((x &&& y).toNat : Int) := by
  rw [iandN _ (ltW x) (ltW y), BitVec.toNat_and]
theorem orW (x y : W) : ior .u32 (x.toNat : Int) (y.toNat : Int) = ((x ||| y).toNat : Int) := by
  rw [iorN _ (ltW x) (ltW y), BitVec.toNat_or]
theorem xorW (x y : W) : ixor .u32 (x.toNat : Int) (y.toNat : Int) = ((x ^^^ y).toNat : Int) := by
  rw [ixorN _ (ltW x) (ltW y), BitVec.toNat_xor]
theorem notW (x : W) : ixor .u32 4294967295 (x.toNat : Int) = ((~~~x).toNat : Int) := by
  have := xorW (BitVec.allOnes 32) x
  rw [BitVec.allOnes_xor] at this
  exact this
theorem shrW (x : W) {n : Nat} (h : n ≤ 32) : ishr .u32 (x.toNat : Int) (n : Int) = ((x >>> n).toNat : Int) := by
  rw [ishrN .u32 (by exact h), BitVec.toNat_ushiftRight, Nat.shiftRight_eq_div_pow]
theorem shlW (x : W) {n : Nat} (h : n ≤ 32) : ishl .u32 (x.toNat : Int) (n : Int) = ((x <<< n).toNat : Int) := by
  rw [ishlN .u32 (by exact h), wN32, BitVec.toNat_shiftLeft, Nat.shiftLeft_eq]
theorem ofW (n : Nat) (h : n < 4294967296) : ((BitVec.ofNat 32 n).toNat : Int) = (n : Int) := by
  rw [BitVec.toNat_ofNat, Nat.mod_eq_of_lt (by simpa using h)]
end Go.Vg
namespace Go.Proofs.YtkicjckhkefnpaaDoor
open Go Go.Vg
def rr (x : W) (n : Nat) : W := (x >>> n) ||| (x <<< (32 - n))
def sp136 : Go.Vg.Spec := ⟨fun ds => ∃ (x : W) (n : Nat), ds = [wd x, i64 (-(n : Int))] ∧ 1 ≤ n ∧ n ≤ 31, fun ds => wd (rr (toW (ds.headD default)) (-(numOf (ds.getD 1 default))).toNat), true, [113, 3]⟩
def sp130 : Go.Vg.Spec := ⟨fun ds => ∃ (x : W) (n : Nat), ds = [wd x, i64 (n : Int)] ∧ 1 ≤ n ∧ n ≤ 31, fun ds => wd (rr (toW (ds.headD default)) (numOf (ds.getD 1 default)).toNat), true, [113, 3]⟩
def sp133 : Go.Vg.Spec := ⟨fun ds => ∃ (x : W) (n : Nat), ds = [wd x, u64 (n : Int)] ∧ 1 ≤ n ∧ n ≤ 31, fun ds => wd (rr (toW (ds.headD default)) (numOf (ds.getD 1 default)).toNat), true, [113, 156]⟩
def chW (x y z : W) : W := (x &&& y) ^^^ (~~~x &&& z)
def mjW (x y z : W) : W := ((x &&& y) ^^^ (x &&& z)) ^^^ (y &&& z)
def sp134 : Go.Vg.Spec := ⟨fun ds => ∃ (x y z : W), ds = [wd x, wd y, wd z], fun ds => wd (chW (toW (ds.headD default)) (toW (ds.getD 1 default)) (toW (ds.getD 2 default))), true, [113, 113, 113]⟩
def sp135 : Go.Vg.Spec := ⟨fun ds => ∃ (x y z : W), ds = [wd x, wd y, wd z], fun ds => wd (mjW (toW (ds.headD default)) (toW (ds.getD 1 default)) (toW (ds.getD 2 default))), true, [113, 113, 113]⟩
def w4 (a b c d : Int) : W := BitVec.ofNat 32 (a.toNat * 16777216 + b.toNat * 65536 + c.toNat * 256 + d.toNat)
def wat (l : List Int) (i : Nat) : W := w4 (l.getD i 0) (l.getD (i + 1) 0) (l.getD (i + 2) 0) (l.getD (i + 3) 0)
def sp129 : Go.Vg.Spec := ⟨fun ds => ∃ l i, ds = [.ints .u8 l, i64 ((i : Nat) : Int)] ∧ isBytes l ∧ i + 3 < l.length ∧ i < 1000, fun ds => wd (wat (intsOf (ds.headD default)) (numOf (ds.getD 1 default)).toNat), true, [26, 3]⟩
def c0 : Ctx := ⟨tab, fun _ => none, [], []⟩
def c130 : Ctx := ⟨tab, lkS [(136, sp136)], [], []⟩
--KEEP rr Go.Vg.toW chW mjW w4 wat gl0 gl1 BitVec.toNat
set_option maxRecDepth 100000 in
theorem vc136  (x : W) (n : Nat) (F : D)  :
    (owed c0 (fun _ => none) Tryd.f136 [wd x, i64 (-(n : Int))] F) = (
 True ∧
 True ∧
 True ∧
 True ∧
 True ∧
 True ∧
 True ∧
 (0 : Int) ≤ iand IntKind.u64 (IntKind.u64.wrap (-(↑n : Int))) (31 : Int) ∧
 True ∧
 True ∧
 True ∧
 (0 : Int) ≤ IntKind.u64.wrap ((32 : Int) - iand IntKind.u64 (IntKind.u64.wrap (-(↑n : Int))) (31 : Int)) ∧
 True ∧ True ∧ (false = false ∧ True) ∧ D.val (Value.int IntKind.u32 (ior IntKind.u32 (ishl IntKind.u32 (↑(BitVec.toNat x) : Int) (iand IntKind.u64 (IntKind.u64.wrap (-(↑n : Int))) (31 : Int))) (ishr IntKind.u32 (↑(BitVec.toNat x) : Int) (IntKind.u64.wrap ((32 : Int) - iand IntKind.u64 (IntKind.u64.wrap (-(↑n : Int))) (31 : Int)))))) = F) := by kernel_rfl
set_option maxRecDepth 100000 in
theorem vc130  (x : W) (n : Nat) (F : D)  :
    (owed c130 (fun _ => none) Tryd.f130 [wd x, i64 (n : Int)] F) = (
 True ∧
 True ∧
 True ∧
 True ∧
 (∃ (x_1 : W), ∃ (n_1 : Nat), [D.val (Value.int IntKind.u32 (↑(BitVec.toNat x) : Int)), D.val (Value.int IntKind.i64 (IntKind.i64.wrap ((0 : Int) - (↑n : Int))))] = [D.val (Value.int IntKind.u32 (↑(BitVec.toNat x_1) : Int)), D.val (Value.int IntKind.i64 (-(↑n_1 : Int)))] ∧ (1 : Nat) ≤ n_1 ∧ n_1 ≤ (31 : Nat)) ∧
 True ∧ (false = false ∧ True) ∧ D.val (Value.int IntKind.u32 (↑(BitVec.toNat (rr (toW (D.val (Value.int IntKind.u32 (↑(BitVec.toNat x) : Int)))) (-IntKind.i64.wrap ((0 : Int) - (↑n : Int))).toNat)) : Int)) = F) := by kernel_rfl
set_option maxRecDepth 100000 in
theorem vc133  (x : W) (n : Nat) (F : D)  :
    (owed c0 (fun _ => none) Tryd.f133 [wd x, u64 (n : Int)] F) = (
 True ∧ True ∧ True ∧ (0 : Int) ≤ (↑n : Int) ∧ True ∧ True ∧ True ∧ (0 : Int) ≤ IntKind.u64.wrap ((32 : Int) - (↑n : Int)) ∧ True ∧ True ∧ (false = false ∧ True) ∧ D.val (Value.int IntKind.u32 (ior IntKind.u32 (ishr IntKind.u32 (↑(BitVec.toNat x) : Int) (↑n : Int)) (ishl IntKind.u32 (↑(BitVec.toNat x) : Int) (IntKind.u64.wrap ((32 : Int) - (↑n : Int)))))) = F) := by kernel_rfl
set_option maxRecDepth 100000 in
theorem vc134  (x y z : W) (F : D)  :
    (owed c0 (fun _ => none) Tryd.f134 [wd x, wd y, wd z] F) = (
 True ∧ True ∧ True ∧ True ∧ True ∧ True ∧ True ∧ True ∧ True ∧ (false = false ∧ True) ∧ D.val (Value.int IntKind.u32 (ixor IntKind.u32 (↑(BitVec.toNat z) : Int) (iand IntKind.u32 (↑(BitVec.toNat x) : Int) (ixor IntKind.u32 (↑(BitVec.toNat y) : Int) (↑(BitVec.toNat z) : Int))))) = F) := by kernel_rfl
set_option maxRecDepth 100000 in
theorem vc135  (x y z : W) (F : D)  :
    (owed c0 (fun _ => none) Tryd.f135 [wd x, wd y, wd z] F) = (
 True ∧ True ∧ True ∧ True ∧ True ∧ True ∧ True ∧ True ∧ True ∧ True ∧ True ∧ (false = false ∧ True) ∧ D.val (Value.int IntKind.u32 (ior IntKind.u32 (iand IntKind.u32 (↑(BitVec.toNat x) : Int) (↑(BitVec.toNat y) : Int)) (iand IntKind.u32 (↑(BitVec.toNat z) : Int) (ior IntKind.u32 (↑(BitVec.toNat x) : Int) (↑(BitVec.toNat y) : Int))))) = F) := by kernel_rfl
set_option maxRecDepth 100000 in
theorem vc129  (l : List Int) (i : Nat) (F : D)  :
    (owed c0 (fun _ => none) Tryd.f129 [.ints .u8 l, i64 (i : Int)] F) = (
 True ∧
 True ∧
 True ∧
 ((0 : Int) ≤ (↑i : Int) ∧ (↑i : Int) < (↑l.length : Int) ∧ (1 : Nat) = (1 : Nat)) ∧
 ((1 : Nat) ≠ (0 : Nat) ∧ (1 : Nat) = (1 : Nat) ∧ false = false) ∧
 True ∧
 (0 : Int) ≤ (24 : Int) ∧
 True ∧
 True ∧
 True ∧
 ((0 : Int) ≤ IntKind.i64.wrap ((↑i : Int) + (1 : Int)) ∧ IntKind.i64.wrap ((↑i : Int) + (1 : Int)) < (↑l.length : Int) ∧ (1 : Nat) = (1 : Nat)) ∧
 ((1 : Nat) ≠ (0 : Nat) ∧ (1 : Nat) = (1 : Nat) ∧ false = false) ∧
 True ∧
 (0 : Int) ≤ (16 : Int) ∧
 True ∧
 True ∧
 True ∧
 True ∧
 ((0 : Int) ≤ IntKind.i64.wrap ((↑i : Int) + (2 : Int)) ∧ IntKind.i64.wrap ((↑i : Int) + (2 : Int)) < (↑l.length : Int) ∧ (1 : Nat) = (1 : Nat)) ∧
 ((1 : Nat) ≠ (0 : Nat) ∧ (1 : Nat) = (1 : Nat) ∧ false = false) ∧
 True ∧
 (0 : Int) ≤ (8 : Int) ∧
 True ∧
 True ∧
 True ∧
 True ∧
 ((0 : Int) ≤ IntKind.i64.wrap ((↑i : Int) + (3 : Int)) ∧ IntKind.i64.wrap ((↑i : Int) + (3 : Int)) < (↑l.length : Int) ∧ (1 : Nat) = (1 : Nat)) ∧
 ((1 : Nat) ≠ (0 : Nat) ∧ (1 : Nat) = (1 : Nat) ∧ false = false) ∧
 True ∧
 True ∧
 True ∧
 (false = false ∧ True) ∧
 D.val
 (Value.int IntKind.u32
 (ior IntKind.u32
 (ior IntKind.u32 (ior IntKind.u32 (ishl IntKind.u32 (IntKind.u32.wrap (l.getD (↑i : Int).toNat (0 : Int))) (24 : Int)) (ishl IntKind.u32 (IntKind.u32.wrap (l.getD (IntKind.i64.wrap ((↑i : Int) + (1 : Int))).toNat (0 : Int))) (16 : Int)))
 (ishl IntKind.u32 (IntKind.u32.wrap (l.getD (IntKind.i64.wrap ((↑i : Int) + (2 : Int))).toNat (0 : Int))) (8 : Int)))
 (IntKind.u32.wrap (l.getD (IntKind.i64.wrap ((↑i : Int) + (3 : Int))).toNat (0 : Int))))) =
 F) := by kernel_rfl
theorem rr_eq (x : W) (n : Nat) : x <<< (32 - n) ||| x >>> n = rr x n := by unfold rr; exact BitVec.or_comm _ _
set_option maxRecDepth 100000 in
theorem m136 : Meets Tryd.prog 136 sp136 := by
  refine meets_of_owed (C := c0) ⟨tab_ok, fun f s h => by cases h⟩ (by kernel_rfl) (by kernel_rfl : Tryd.prog.funcs[136]? = some Tryd.f136) (by kernel_rfl) (by kernel_rfl) (by kernel_rfl) _ ?_
  rintro _ ⟨x, n, rfl, h1, h2⟩
  refine ⟨fun _ => rfl, fun _ => none, ?_⟩
  show owed c0 (fun _ => none) Tryd.f136 [wd x, i64 (-(n : Int))] (wd (rr (toW (wd x)) (-(-(n : Int))).toNat))
  rw [vc136, toW_wd, Int.neg_neg, Int.toNat_natCast]
  have e1 : iand .u64 (IntKind.u64.wrap (-(n : Int))) 31 = ((32 - n : Nat) : Int) := by
    rw [show IntKind.u64.wrap (-(n : Int)) = ((18446744073709551616 - n : Nat) : Int) by rw [w64]; omega, show (31 : Int) = ((31 : Nat) : Int) from rfl, iandN .u64 (show _ < 18446744073709551616 by omega) (show 31 < 18446744073709551616 by decide)]
    congr 1
    rw [show (31 : Nat) = 2 ^ 5 - 1 from rfl, Nat.and_two_pow_sub_one_eq_mod]
    omega
  have e2 : IntKind.u64.wrap (32 - ((32 - n : Nat) : Int)) = (n : Int) := by rw [w64]; omega
  rw [e1, e2, shlW x (by omega), shrW x (by omega), orW, rr_eq]
  and_intros <;> first | rfl | omega | trivial
set_option maxRecDepth 100000 in
theorem m130 : Meets Tryd.prog 130 sp130 := by
  refine meets_of_owed (C := c130) ⟨tab_ok, lkS_ok ⟨m136, trivial⟩⟩ (by kernel_rfl) (by kernel_rfl : Tryd.prog.funcs[130]? = some Tryd.f130) (by kernel_rfl) (by kernel_rfl) (by kernel_rfl) _ ?_
  rintro _ ⟨x, n, rfl, h1, h2⟩
  refine ⟨fun _ => rfl, fun _ => none, ?_⟩
  show owed c130 (fun _ => none) Tryd.f130 [wd x, i64 (n : Int)] (wd (rr (toW (wd x)) ((n : Int)).toNat))
  rw [vc130]
  have e : IntKind.i64.wrap (0 - (n : Int)) = -(n : Int) := by rw [wi (by omega) (by omega)]; omega
  rw [e, Int.neg_neg]
  simp only [true_and, and_true]
  exact ⟨x, n, rfl, h1, h2⟩
set_option maxRecDepth 100000 in
theorem m133 : Meets Tryd.prog 133 sp133 := by
  refine meets_of_owed (C := c0) ⟨tab_ok, fun f s h => by cases h⟩ (by kernel_rfl) (by kernel_rfl : Tryd.prog.funcs[133]? = some Tryd.f133) (by kernel_rfl) (by kernel_rfl) (by kernel_rfl) _ ?_
  rintro _ ⟨x, n, rfl, h1, h2⟩
  refine ⟨fun _ => rfl, fun _ => none, ?_⟩
  show owed c0 (fun _ => none) Tryd.f133 [wd x, u64 (n : Int)] (wd (rr (toW (wd x)) ((n : Int)).toNat))
  rw [vc133, toW_wd, Int.toNat_natCast]
  rw [show IntKind.u64.wrap (32 - (n : Int)) = ((32 - n : Nat) : Int) by rw [w64]; omega, shlW x (by omega), shrW x (by omega), orW, ← rr_eq, BitVec.or_comm]
  and_intros <;> first | rfl | omega | trivial
theorem ch_eq (x y z : W) : z ^^^ (x &&& (y ^^^ z)) = chW x y z := by
  unfold chW
  ext i hi
  simp only [BitVec.getElem_xor, BitVec.getElem_and, BitVec.getElem_not]
  cases x[i] <;> cases y[i] <;> cases z[i] <;> rfl
theorem mj_eq (x y z : W) : (x &&& y) ||| (z &&& (x ||| y)) = mjW x y z := by
  unfold mjW
  ext i hi
  simp only [BitVec.getElem_xor, BitVec.getElem_and, BitVec.getElem_or]
  cases x[i] <;> cases y[i] <;> cases z[i] <;> rfl
set_option maxRecDepth 100000 in
theorem m134 : Meets Tryd.prog 134 sp134 := by
  refine meets_of_owed (C := c0) ⟨tab_ok, fun f s h => by cases h⟩ (by kernel_rfl) (by kernel_rfl : Tryd.prog.funcs[134]? = some Tryd.f134) (by kernel_rfl) (by kernel_rfl) (by kernel_rfl) _ ?_
  rintro _ ⟨x, y, z, rfl⟩
  refine ⟨fun _ => rfl, fun _ => none, ?_⟩
  show owed c0 (fun _ => none) Tryd.f134 [wd x, wd y, wd z] (wd (chW (toW (wd x)) (toW (wd y)) (toW (wd z))))
  rw [vc134, toW_wd, toW_wd, toW_wd, xorW, andW, xorW, ch_eq]
  and_intros <;> first | rfl | omega | trivial
set_option maxRecDepth 100000 in
theorem m135 : Meets Tryd.prog 135 sp135 := by
  refine meets_of_owed (C := c0) ⟨tab_ok, fun f s h => by cases h⟩ (by kernel_rfl) (by kernel_rfl : Tryd.prog.funcs[135]? = some Tryd.f135) (by kernel_rfl) (by kernel_rfl) (by kernel_rfl) _ ?_
  rintro _ ⟨x, y, z, rfl⟩
  refine ⟨fun _ => rfl, fun _ => none, ?_⟩
  show owed c0 (fun _ => none) Tryd.f135 [wd x, wd y, wd z] (wd (mjW (toW (wd x)) (toW (wd y)) (toW (wd z))))
  rw [vc135, toW_wd, toW_wd, toW_wd, orW, andW, andW, orW, mj_eq]
  and_intros <;> first | rfl | omega | trivial
theorem byte_at {l : List Int} (h : isBytes l) {i : Nat} (hi : i < l.length) : ∃ b : Nat, l.getD i 0 = (b : Int) ∧ b < 256 := by
  have := h (l.getD i 0) (by rw [List.getD_eq_getElem?_getD, List.getElem?_eq_getElem hi]; exact List.getElem_mem hi)
  exact ⟨(l.getD i 0).toNat, by omega, by omega⟩
theorem or_add {a b k : Nat} (hb : b < 2 ^ k) (ha : a % 2 ^ k = 0) : a ||| b = a + b := by
  have e : a = 2 ^ k * (a / 2 ^ k) := by have := Nat.div_add_mod a (2 ^ k); omega
  rw [e, Nat.two_pow_add_eq_or_of_lt hb]
theorem w4_eq {a b c d : Nat} (ha : a < 256) (hb : b < 256) (hc : c < 256) (hd : d < 256) :
    ior .u32 (ior .u32 (ior .u32 (ishl .u32 (IntKind.u32.wrap (a : Int)) 24) (ishl .u32 (IntKind.u32.wrap (b : Int)) 16)) (ishl .u32 (IntKind.u32.wrap (c : Int)) 8)) (IntKind.u32.wrap (d : Int)) = ((w4 a b c d).toNat : Int) := by
  have k : kb .u32 = 4294967296 := rfl
  have sh : ∀ (x m : Nat), x < 256 → m ≤ 24 → ishl .u32 (IntKind.u32.wrap (x : Int)) (m : Int) = ((x * 2 ^ m : Nat) : Int) := by
    intro x m hx hm
    have : x * 2 ^ m < 4294967296 := by
      have : 2 ^ m ≤ 2 ^ 24 := Nat.pow_le_pow_right (by decide) hm
      have h2 : x * 2 ^ m ≤ 255 * 2 ^ 24 := Nat.mul_le_mul (by omega) this
      omega
    rw [wrapN .u32 (by rw [k]; omega), ishlN .u32 (by show m ≤ 32; omega), wrapN .u32 (by rw [k]; exact this)]
  rw [show (24 : Int) = ((24 : Nat) : Int) from rfl, show (16 : Int) = ((16 : Nat) : Int) from rfl, show (8 : Int) = ((8 : Nat) : Int) from rfl,
    sh a 24 ha (by decide), sh b 16 hb (by decide), sh c 8 hc (by decide), wrapN .u32 (n := d) (by rw [k]; omega)]
  have o1 : a * 2 ^ 24 ||| b * 2 ^ 16 = a * 2 ^ 24 + b * 2 ^ 16 := or_add (k := 24) (by omega) (by omega)
  have o2 : (a * 2 ^ 24 + b * 2 ^ 16) ||| c * 2 ^ 8 = a * 2 ^ 24 + b * 2 ^ 16 + c * 2 ^ 8 := or_add (k := 16) (by omega) (by omega)
  have o3 : (a * 2 ^ 24 + b * 2 ^ 16 + c * 2 ^ 8) ||| d = a * 2 ^ 24 + b * 2 ^ 16 + c * 2 ^ 8 + d := or_add (k := 8) (by omega) (by omega)
  rw [iorN .u32 (by rw [k]; omega) (by rw [k]; omega), o1, iorN .u32 (by rw [k]; omega) (by rw [k]; omega), o2, iorN .u32 (by rw [k]; omega) (by rw [k]; omega), o3]
  unfold w4
  rw [Int.toNat_natCast, Int.toNat_natCast, Int.toNat_natCast, Int.toNat_natCast, ofW _ (by omega)]
set_option maxRecDepth 100000 in
theorem m129 : Meets Tryd.prog 129 sp129 := by
  refine meets_of_owed (C := c0) ⟨tab_ok, fun f s h => by cases h⟩ (by kernel_rfl) (by kernel_rfl : Tryd.prog.funcs[129]? = some Tryd.f129) (by kernel_rfl) (by kernel_rfl) (by kernel_rfl) _ ?_
  rintro _ ⟨l, i, rfl, hb, hi, hi2⟩
  refine ⟨fun _ => rfl, fun _ => none, ?_⟩
  show owed c0 (fun _ => none) Tryd.f129 [.ints .u8 l, i64 (i : Int)] (wd (wat l ((i : Int)).toNat))
  rw [vc129]
  have e1 : IntKind.i64.wrap ((i : Int) + 1) = ((i + 1 : Nat) : Int) := by rw [wi (by omega) (by omega)]; omega
  have e2 : IntKind.i64.wrap ((i : Int) + 2) = ((i + 2 : Nat) : Int) := by rw [wi (by omega) (by omega)]; omega
  have e3 : IntKind.i64.wrap ((i : Int) + 3) = ((i + 3 : Nat) : Int) := by rw [wi (by omega) (by omega)]; omega
  rw [e1, e2, e3, Int.toNat_natCast, Int.toNat_natCast, Int.toNat_natCast, Int.toNat_natCast]
  unfold wat
  obtain ⟨a, ea, ha⟩ := byte_at hb (i := i) (by omega)
  obtain ⟨b, eb, hbb⟩ := byte_at hb (i := i + 1) (by omega)
  obtain ⟨c, ec, hc⟩ := byte_at hb (i := i + 2) (by omega)
  obtain ⟨d, ed, hd⟩ := byte_at hb (i := i + 3) (by omega)
  rw [ea, eb, ec, ed, w4_eq ha hbb hc hd]
  and_intros <;> first | rfl | omega | trivial
end Go.Proofs.YtkicjckhkefnpaaDoor
namespace Go.Proofs.YtkicjckhkefnpaaDoor
open Go Go.Vg
structure R8 where
  a : W
  b : W
  c : W
  d : W
  e : W
  f : W
  g : W
  h : W
def R8.l (x : R8) : List Int := [(x.a.toNat : Int), (x.b.toNat : Int), (x.c.toNat : Int), (x.d.toNat : Int), (x.e.toNat : Int), (x.f.toNat : Int), (x.g.toNat : Int), (x.h.toNat : Int)]
def sA (x : W) : W := (rr x 7 ^^^ rr x 18) ^^^ (x >>> 3)
def sB (x : W) : W := (rr x 17 ^^^ rr x 19) ^^^ (x >>> 10)
def sC (x : W) : W := (rr x 6 ^^^ rr x 11) ^^^ rr x 25
def sD (x : W) : W := (rr x 2 ^^^ rr x 13) ^^^ rr x 22
def wsR (l : List Int) : Nat → List W
  | 0 => []
  | t + 1 => (if t < 16 then wat l (4 * t) else (((wsR l t).getD 15 0 + sA ((wsR l t).getD 14 0)) + (wsR l t).getD 6 0) + sB ((wsR l t).getD 1 0)) :: wsR l t
def wn (l : List Int) (t : Nat) : W := (wsR l (t + 1)).getD 0 0
def wl (l : List Int) (n : Nat) : List Int := (List.range n).map fun t => ((wn l t).toNat : Int)
def kW (t : Nat) : W := BitVec.ofInt 32 (gl0.getD t 0)
def rdS (x : R8) (k w : W) : R8 :=
  let one := (((x.h + sC x.e) + chW x.e x.f x.g) + k) + w
  let two := sD x.a + mjW x.a x.b x.c
  ⟨one + two, x.a, x.b, x.c, x.d + one, x.e, x.f, x.g⟩
def rd (x : R8) (l : List Int) : Nat → R8
  | 0 => x
  | t + 1 => rdS (rd x l t) (kW t) (wn l t)
def add8 (x v : R8) : R8 := ⟨x.a + v.a, x.b + v.b, x.c + v.c, x.d + v.d, x.e + v.e, x.f + v.f, x.g + v.g, x.h + v.h⟩
def pr (x : R8) (l : List Int) : R8 := add8 x (rd x l 64)
def mixL (x : R8) (l : List Int) (i : Nat) : List Int := (pr x l).l.take i ++ x.l.drop i
def ofR (d : List Int) : R8 := ⟨BitVec.ofInt 32 (d.getD 0 0), BitVec.ofInt 32 (d.getD 1 0), BitVec.ofInt 32 (d.getD 2 0), BitVec.ofInt 32 (d.getD 3 0), BitVec.ofInt 32 (d.getD 4 0), BitVec.ofInt 32 (d.getD 5 0), BitVec.ofInt 32 (d.getD 6 0), BitVec.ofInt 32 (d.getD 7 0)⟩
def prL (h l : List Int) : List Int := (pr (ofR h) l).l
abbrev a8 (l : List Int) : D := .arr .u32 8 l
def sp117 : Go.Vg.Spec := ⟨fun ds => ∃ (x : R8) (l : List Int), ds = [a8 x.l, .arr .u8 64 l] ∧ isBytes l ∧ l.length = 64, fun ds => a8 (prL (arrOf (ds.headD default)) (arrOf (ds.getD 1 default))), true, [114, 115]⟩
def sp128 : Go.Vg.Spec := ⟨fun ds => ∃ (x : R8) (l : List Int), ds = [.ints .u32 x.l, .str l] ∧ isBytes l ∧ l.length = 64, fun ds => .ints .u32 (prL (intsOf (ds.headD default)) (strOf (ds.getD 1 default))), false, [170, 9]⟩
def c117 : Ctx := ⟨tab, lkS [(129, sp129), (130, sp130)], [], []⟩
def c128 : Ctx := ⟨tab, lkS [(133, sp133), (134, sp134), (135, sp135)], [24], []⟩
def inv117 (x : R8) (l : List Int) : Nat → Option Inv
  | 3 => some ⟨Nat, fun i => [(20, .d (i64 i))], fun i => [(5, .fix (.arr .u32 64 (wl l i ++ List.replicate (64 - i) 0)))], fun s => (slotN s 20).toNat, fun _ i => i ≤ 64, fun i => 64 - i⟩
  | 12 => some ⟨Nat, fun i => [(70, .d (i64 i))], fun i => [(9, .fix (a8 (rd x l i).l))], fun s => (slotN s 70).toNat, fun _ i => i ≤ 64, fun i => 64 - i⟩
  | 20 => some ⟨Nat, fun i => [(148, .d (i64 i))], fun i => [(2, .fix (a8 (mixL x l i)))], fun s => (slotN s 148).toNat, fun _ i => i ≤ 8, fun i => 8 - i⟩
  | _ => none
--KEEP rr Go.Vg.toW chW mjW w4 wat gl0 gl1 BitVec.toNat wl wn rd mixL prL pr kW Go.Vg.gl0 Go.Vg.gl1
set_option maxRecDepth 100000 in
theorem vc117  (x : R8) (l : List Int) (F : D)  :
    (owed c117 (inv117 x l) Tryd.f117 [a8 x.l, .arr .u8 64 l] F) = (
 (True ∧ false = false) ∧
 (True ∧ false = false) ∧
 (True ∧ (8 : Nat) ≠ (0 : Nat)) ∧
 (True ∧ (64 : Nat) ≠ (0 : Nat)) ∧
 True ∧
 (((AV.d (D.val (Value.int IntKind.i64 (0 : Int))) = AV.d (D.val (Value.int IntKind.i64 (↑(Int.toNat (0 : Int)) : Int))) ∧ True) ∧
 (sm (some (Blk.fix (D.arr IntKind.u32 (8 : Nat) [(↑(BitVec.toNat x.a) : Int), (↑(BitVec.toNat x.b) : Int), (↑(BitVec.toNat x.c) : Int), (↑(BitVec.toNat x.d) : Int), (↑(BitVec.toNat x.e) : Int), (↑(BitVec.toNat x.f) : Int), (↑(BitVec.toNat x.g) : Int), (↑(BitVec.toNat x.h) : Int)]))) ∧
 sm (some (Blk.fix (D.arr IntKind.u8 (64 : Nat) l))) ∧
 sm (some (Blk.fix (D.arr IntKind.u32 (8 : Nat) [(0 : Int), (0 : Int), (0 : Int), (0 : Int), (0 : Int), (0 : Int), (0 : Int), (0 : Int)]))) ∧
 some
 (Blk.fix
 (D.arr IntKind.u32 (64 : Nat)
 (List.replicate (64 : Nat) (0 : Int)))) =
 some
 (Blk.fix
 (D.arr IntKind.u32 (64 : Nat)
 (wl l (Int.toNat (0 : Int)) ++
 (List.replicate (64 : Nat) (0 : Int))))) ∧
 True) ∧
 true = true) ∧
 Int.toNat (0 : Int) ≤ (64 : Nat)) ∧
 ∀ (x_1 : Nat),
 x_1 ≤ (64 : Nat) →
 true = true ∧
 True ∧
 match decide ((↑x_1 : Int) < (64 : Int)) with
 | true =>
  True ∧
  True ∧
  True ∧
  True ∧
  match decide ((↑x_1 : Int) < (16 : Int)) with
  | true =>
   True ∧
   ((0 : Int) ≤ (0 : Int) ∧ (0 : Int) ≤ (↑(64 : Nat) : Int) ∧ (↑(64 : Nat) : Int) ≤ (↑(64 : Nat) : Int) ∧ (64 : Nat) = (64 : Nat) ∧ (1 : Nat) = (1 : Nat)) ∧
   True ∧
   True ∧
   (∃ (l_1 : List Int), ∃ (i : Nat), [D.ints IntKind.u8 (List.take ((↑(64 : Nat) : Int).toNat - Int.toNat (0 : Int)) (List.drop (0 : Nat) l)), D.val (Value.int IntKind.i64 (IntKind.i64.wrap ((4 : Int) * (↑x_1 : Int))))] = [D.ints IntKind.u8 l_1, D.val (Value.int IntKind.i64 (↑i : Int))] ∧ isBytes l_1 ∧ i + (3 : Nat) < l_1.length ∧ i < (1000 : Nat)) ∧
   ((0 : Int) ≤ (↑x_1 : Int) ∧ (↑x_1 : Int) < (↑(64 : Nat) : Int) ∧ (64 : Nat) = (64 : Nat) ∧ (1 : Nat) = (1 : Nat)) ∧
   (((↑x_1 : Int).toNat < (64 : Nat) ∧ ([] : List Nat) = [] ∧ true = true) ∧ (1 : Nat) ≠ (0 : Nat) ∧ (1 : Nat) = (1 : Nat) ∧ false = false) ∧
   True ∧
   True ∧
   ((AV.d (D.val (Value.int IntKind.i64 (IntKind.i64.wrap ((↑x_1 : Int) + (1 : Int))))) = AV.d (D.val (Value.int IntKind.i64 (↑(IntKind.i64.wrap ((↑x_1 : Int) + (1 : Int))).toNat : Int))) ∧ True) ∧
   (sm (some (Blk.fix (D.arr IntKind.u32 (8 : Nat) [(↑(BitVec.toNat x.a) : Int), (↑(BitVec.toNat x.b) : Int), (↑(BitVec.toNat x.c) : Int), (↑(BitVec.toNat x.d) : Int), (↑(BitVec.toNat x.e) : Int), (↑(BitVec.toNat x.f) : Int), (↑(BitVec.toNat x.g) : Int), (↑(BitVec.toNat x.h) : Int)]))) ∧
   sm (some (Blk.fix (D.arr IntKind.u8 (64 : Nat) l))) ∧
   sm (some (Blk.fix (D.arr IntKind.u32 (8 : Nat) [(0 : Int), (0 : Int), (0 : Int), (0 : Int), (0 : Int), (0 : Int), (0 : Int), (0 : Int)]))) ∧
   some (Blk.fix (D.arr IntKind.u32 (64 : Nat) ((wl l x_1 ++ List.replicate ((64 : Nat) - x_1) (0 : Int)).set (↑x_1 : Int).toNat (↑(BitVec.toNat (wat (List.take ((↑(64 : Nat) : Int).toNat - Int.toNat (0 : Int)) (List.drop (0 : Nat) l)) (IntKind.i64.wrap ((4 : Int) * (↑x_1 : Int))).toNat)) : Int)))) =
   some (Blk.fix (D.arr IntKind.u32 (64 : Nat) (wl l (IntKind.i64.wrap ((↑x_1 : Int) + (1 : Int))).toNat ++ List.replicate ((64 : Nat) - (IntKind.i64.wrap ((↑x_1 : Int) + (1 : Int))).toNat) (0 : Int)))) ∧
   True) ∧
   true = true) ∧
   (IntKind.i64.wrap ((↑x_1 : Int) + (1 : Int))).toNat ≤ (64 : Nat) ∧ (64 : Nat) - (IntKind.i64.wrap ((↑x_1 : Int) + (1 : Int))).toNat < (64 : Nat) - x_1
  | false =>
   True ∧
   True ∧
   ((0 : Int) ≤ IntKind.i64.wrap ((↑x_1 : Int) - (15 : Int)) ∧ IntKind.i64.wrap ((↑x_1 : Int) - (15 : Int)) < (↑(64 : Nat) : Int) ∧ (64 : Nat) = (64 : Nat) ∧ (1 : Nat) = (1 : Nat)) ∧
   ((1 : Nat) ≠ (0 : Nat) ∧ (1 : Nat) = (1 : Nat) ∧ false = false) ∧
   True ∧
   True ∧
   ((0 : Int) ≤ IntKind.i64.wrap ((↑x_1 : Int) - (2 : Int)) ∧ IntKind.i64.wrap ((↑x_1 : Int) - (2 : Int)) < (↑(64 : Nat) : Int) ∧ (64 : Nat) = (64 : Nat) ∧ (1 : Nat) = (1 : Nat)) ∧
   ((1 : Nat) ≠ (0 : Nat) ∧ (1 : Nat) = (1 : Nat) ∧ false = false) ∧
   True ∧
   True ∧
   True ∧
   True ∧
   True ∧
   ((0 : Int) ≤ IntKind.i64.wrap ((↑x_1 : Int) - (16 : Int)) ∧ IntKind.i64.wrap ((↑x_1 : Int) - (16 : Int)) < (↑(64 : Nat) : Int) ∧ (64 : Nat) = (64 : Nat) ∧ (1 : Nat) = (1 : Nat)) ∧
   ((1 : Nat) ≠ (0 : Nat) ∧ (1 : Nat) = (1 : Nat) ∧ false = false) ∧
   True ∧
   (∃ (x : W),
   ∃ (n : Nat),
   [D.val (Value.int IntKind.u32 ((wl l x_1 ++ List.replicate ((64 : Nat) - x_1) (0 : Int)).getD (IntKind.i64.wrap ((↑x_1 : Int) - (15 : Int))).toNat (0 : Int))), D.val (Value.int IntKind.i64 (7 : Int))] = [D.val (Value.int IntKind.u32 (↑(BitVec.toNat x) : Int)), D.val (Value.int IntKind.i64 (↑n : Int))] ∧
   (1 : Nat) ≤ n ∧ n ≤ (31 : Nat)) ∧
   True ∧
   (∃ (x : W),
   ∃ (n : Nat),
   [D.val (Value.int IntKind.u32 ((wl l x_1 ++ List.replicate ((64 : Nat) - x_1) (0 : Int)).getD (IntKind.i64.wrap ((↑x_1 : Int) - (15 : Int))).toNat (0 : Int))), D.val (Value.int IntKind.i64 (18 : Int))] = [D.val (Value.int IntKind.u32 (↑(BitVec.toNat x) : Int)), D.val (Value.int IntKind.i64 (↑n : Int))] ∧
   (1 : Nat) ≤ n ∧ n ≤ (31 : Nat)) ∧
   True ∧
   True ∧
   (0 : Int) ≤ (3 : Int) ∧
   True ∧
   True ∧
   True ∧
   True ∧
   ((0 : Int) ≤ IntKind.i64.wrap ((↑x_1 : Int) - (7 : Int)) ∧ IntKind.i64.wrap ((↑x_1 : Int) - (7 : Int)) < (↑(64 : Nat) : Int) ∧ (64 : Nat) = (64 : Nat) ∧ (1 : Nat) = (1 : Nat)) ∧
   ((1 : Nat) ≠ (0 : Nat) ∧ (1 : Nat) = (1 : Nat) ∧ false = false) ∧
   True ∧
   True ∧
   (∃ (x : W),
   ∃ (n : Nat),
   [D.val (Value.int IntKind.u32 ((wl l x_1 ++ List.replicate ((64 : Nat) - x_1) (0 : Int)).getD (IntKind.i64.wrap ((↑x_1 : Int) - (2 : Int))).toNat (0 : Int))), D.val (Value.int IntKind.i64 (17 : Int))] =
   [D.val (Value.int IntKind.u32 (↑(BitVec.toNat x) : Int)), D.val (Value.int IntKind.i64 (↑n : Int))] ∧
   (1 : Nat) ≤ n ∧ n ≤ (31 : Nat)) ∧
   True ∧
   (∃ (x : W),
   ∃ (n : Nat),
   [D.val (Value.int IntKind.u32 ((wl l x_1 ++ List.replicate ((64 : Nat) - x_1) (0 : Int)).getD (IntKind.i64.wrap ((↑x_1 : Int) - (2 : Int))).toNat (0 : Int))), D.val (Value.int IntKind.i64 (19 : Int))] =
   [D.val (Value.int IntKind.u32 (↑(BitVec.toNat x) : Int)), D.val (Value.int IntKind.i64 (↑n : Int))] ∧
   (1 : Nat) ≤ n ∧ n ≤ (31 : Nat)) ∧
   True ∧
   True ∧
   (0 : Int) ≤ (10 : Int) ∧
   True ∧
   True ∧
   ((0 : Int) ≤ (↑x_1 : Int) ∧ (↑x_1 : Int) < (↑(64 : Nat) : Int) ∧ (64 : Nat) = (64 : Nat) ∧ (1 : Nat) = (1 : Nat)) ∧
   (((↑x_1 : Int).toNat < (64 : Nat) ∧ ([] : List Nat) = [] ∧ true = true) ∧ (1 : Nat) ≠ (0 : Nat) ∧ (1 : Nat) = (1 : Nat) ∧ false = false) ∧
   True ∧
   True ∧
   ((AV.d (D.val (Value.int IntKind.i64 (IntKind.i64.wrap ((↑x_1 : Int) + (1 : Int))))) = AV.d (D.val (Value.int IntKind.i64 (↑(IntKind.i64.wrap ((↑x_1 : Int) + (1 : Int))).toNat : Int))) ∧ True) ∧
   (sm
   (some
   (Blk.fix
   (D.arr IntKind.u32 (8 : Nat) [(↑(BitVec.toNat x.a) : Int), (↑(BitVec.toNat x.b) : Int), (↑(BitVec.toNat x.c) : Int), (↑(BitVec.toNat x.d) : Int), (↑(BitVec.toNat x.e) : Int), (↑(BitVec.toNat x.f) : Int), (↑(BitVec.toNat x.g) : Int), (↑(BitVec.toNat x.h) : Int)]))) ∧
   sm (some (Blk.fix (D.arr IntKind.u8 (64 : Nat) l))) ∧
   sm (some (Blk.fix (D.arr IntKind.u32 (8 : Nat) [(0 : Int), (0 : Int), (0 : Int), (0 : Int), (0 : Int), (0 : Int), (0 : Int), (0 : Int)]))) ∧
   some
   (Blk.fix
   (D.arr IntKind.u32 (64 : Nat)
   ((wl l x_1 ++ List.replicate ((64 : Nat) - x_1) (0 : Int)).set (↑x_1 : Int).toNat
   (IntKind.u32.wrap
   (IntKind.u32.wrap
   (IntKind.u32.wrap
   ((wl l x_1 ++ List.replicate ((64 : Nat) - x_1) (0 : Int)).getD (IntKind.i64.wrap ((↑x_1 : Int) - (16 : Int))).toNat (0 : Int) +
   ixor IntKind.u32
   (ixor IntKind.u32 (↑(BitVec.toNat (rr (toW (D.val (Value.int IntKind.u32 ((wl l x_1 ++ List.replicate ((64 : Nat) - x_1) (0 : Int)).getD (IntKind.i64.wrap ((↑x_1 : Int) - (15 : Int))).toNat (0 : Int))))) (7 : Nat))) : Int)
   (↑(BitVec.toNat (rr (toW (D.val (Value.int IntKind.u32 ((wl l x_1 ++ List.replicate ((64 : Nat) - x_1) (0 : Int)).getD (IntKind.i64.wrap ((↑x_1 : Int) - (15 : Int))).toNat (0 : Int))))) (18 : Nat))) : Int))
   (ishr IntKind.u32 ((wl l x_1 ++ List.replicate ((64 : Nat) - x_1) (0 : Int)).getD (IntKind.i64.wrap ((↑x_1 : Int) - (15 : Int))).toNat (0 : Int)) (3 : Int))) +
   (wl l x_1 ++ List.replicate ((64 : Nat) - x_1) (0 : Int)).getD (IntKind.i64.wrap ((↑x_1 : Int) - (7 : Int))).toNat (0 : Int)) +
   ixor IntKind.u32
   (ixor IntKind.u32 (↑(BitVec.toNat (rr (toW (D.val (Value.int IntKind.u32 ((wl l x_1 ++ List.replicate ((64 : Nat) - x_1) (0 : Int)).getD (IntKind.i64.wrap ((↑x_1 : Int) - (2 : Int))).toNat (0 : Int))))) (17 : Nat))) : Int)
   (↑(BitVec.toNat (rr (toW (D.val (Value.int IntKind.u32 ((wl l x_1 ++ List.replicate ((64 : Nat) - x_1) (0 : Int)).getD (IntKind.i64.wrap ((↑x_1 : Int) - (2 : Int))).toNat (0 : Int))))) (19 : Nat))) : Int))
   (ishr IntKind.u32 ((wl l x_1 ++ List.replicate ((64 : Nat) - x_1) (0 : Int)).getD (IntKind.i64.wrap ((↑x_1 : Int) - (2 : Int))).toNat (0 : Int)) (10 : Int))))))) =
   some (Blk.fix (D.arr IntKind.u32 (64 : Nat) (wl l (IntKind.i64.wrap ((↑x_1 : Int) + (1 : Int))).toNat ++ List.replicate ((64 : Nat) - (IntKind.i64.wrap ((↑x_1 : Int) + (1 : Int))).toNat) (0 : Int)))) ∧
   True) ∧
   true = true) ∧
   (IntKind.i64.wrap ((↑x_1 : Int) + (1 : Int))).toNat ≤ (64 : Nat) ∧ (64 : Nat) - (IntKind.i64.wrap ((↑x_1 : Int) + (1 : Int))).toNat < (64 : Nat) - x_1
 | false =>
  ((8 : Nat) ≠ (0 : Nat) ∧ (8 : Nat) = (8 : Nat) ∧ true = true) ∧
  (True ∧ (8 : Nat) ≠ (0 : Nat)) ∧
  (Sk.arr (8 : Nat) = Sk.arr (8 : Nat) ∧ (8 : Nat) ≠ (0 : Nat) ∧ (8 : Nat) = (8 : Nat) ∧ false = false) ∧
  True ∧
  (((AV.d (D.val (Value.int IntKind.i64 (0 : Int))) = AV.d (D.val (Value.int IntKind.i64 (↑(Int.toNat (0 : Int)) : Int))) ∧ True) ∧
  (sm (some (Blk.fix (D.arr IntKind.u32 (8 : Nat) [(↑(BitVec.toNat x.a) : Int), (↑(BitVec.toNat x.b) : Int), (↑(BitVec.toNat x.c) : Int), (↑(BitVec.toNat x.d) : Int), (↑(BitVec.toNat x.e) : Int), (↑(BitVec.toNat x.f) : Int), (↑(BitVec.toNat x.g) : Int), (↑(BitVec.toNat x.h) : Int)]))) ∧
  sm (some (Blk.fix (D.arr IntKind.u8 (64 : Nat) l))) ∧
  sm (some (Blk.fix (D.arr IntKind.u32 (8 : Nat) [(0 : Int), (0 : Int), (0 : Int), (0 : Int), (0 : Int), (0 : Int), (0 : Int), (0 : Int)]))) ∧
  sm (some (Blk.fix (D.arr IntKind.u32 (64 : Nat) (wl l x_1 ++ List.replicate ((64 : Nat) - x_1) (0 : Int))))) ∧
  some (Blk.fix (D.arr IntKind.u32 (8 : Nat) [(↑(BitVec.toNat x.a) : Int), (↑(BitVec.toNat x.b) : Int), (↑(BitVec.toNat x.c) : Int), (↑(BitVec.toNat x.d) : Int), (↑(BitVec.toNat x.e) : Int), (↑(BitVec.toNat x.f) : Int), (↑(BitVec.toNat x.g) : Int), (↑(BitVec.toNat x.h) : Int)])) =
  some
  (Blk.fix
  (D.arr IntKind.u32 (8 : Nat)
  [(↑(BitVec.toNat (rd x l (Int.toNat (0 : Int))).a) : Int), (↑(BitVec.toNat (rd x l (Int.toNat (0 : Int))).b) : Int), (↑(BitVec.toNat (rd x l (Int.toNat (0 : Int))).c) : Int), (↑(BitVec.toNat (rd x l (Int.toNat (0 : Int))).d) : Int), (↑(BitVec.toNat (rd x l (Int.toNat (0 : Int))).e) : Int),
  (↑(BitVec.toNat (rd x l (Int.toNat (0 : Int))).f) : Int), (↑(BitVec.toNat (rd x l (Int.toNat (0 : Int))).g) : Int), (↑(BitVec.toNat (rd x l (Int.toNat (0 : Int))).h) : Int)])) ∧
  True) ∧
  true = true) ∧
  Int.toNat (0 : Int) ≤ (64 : Nat)) ∧
  ∀ (x_2 : Nat),
  x_2 ≤ (64 : Nat) →
  true = true ∧
  True ∧
  match decide ((↑x_2 : Int) < (64 : Int)) with
  | true =>
   True ∧
   True ∧
   ((0 : Int) ≤ (0 : Int) ∧ (0 : Int) < (↑(8 : Nat) : Int) ∧ (8 : Nat) = (8 : Nat) ∧ (1 : Nat) = (1 : Nat)) ∧
   ((1 : Nat) ≠ (0 : Nat) ∧ (1 : Nat) = (1 : Nat) ∧ false = false) ∧
   ((0 : Int) ≤ (1 : Int) ∧ (1 : Int) < (↑(8 : Nat) : Int) ∧ (8 : Nat) = (8 : Nat) ∧ (1 : Nat) = (1 : Nat)) ∧
   ((1 : Nat) ≠ (0 : Nat) ∧ (1 : Nat) = (1 : Nat) ∧ false = false) ∧
   ((0 : Int) ≤ (2 : Int) ∧ (2 : Int) < (↑(8 : Nat) : Int) ∧ (8 : Nat) = (8 : Nat) ∧ (1 : Nat) = (1 : Nat)) ∧
   ((1 : Nat) ≠ (0 : Nat) ∧ (1 : Nat) = (1 : Nat) ∧ false = false) ∧
   ((0 : Int) ≤ (4 : Int) ∧ (4 : Int) < (↑(8 : Nat) : Int) ∧ (8 : Nat) = (8 : Nat) ∧ (1 : Nat) = (1 : Nat)) ∧
   ((1 : Nat) ≠ (0 : Nat) ∧ (1 : Nat) = (1 : Nat) ∧ false = false) ∧
   ((0 : Int) ≤ (5 : Int) ∧ (5 : Int) < (↑(8 : Nat) : Int) ∧ (8 : Nat) = (8 : Nat) ∧ (1 : Nat) = (1 : Nat)) ∧
   ((1 : Nat) ≠ (0 : Nat) ∧ (1 : Nat) = (1 : Nat) ∧ false = false) ∧
   ((0 : Int) ≤ (6 : Int) ∧ (6 : Int) < (↑(8 : Nat) : Int) ∧ (8 : Nat) = (8 : Nat) ∧ (1 : Nat) = (1 : Nat)) ∧
   ((1 : Nat) ≠ (0 : Nat) ∧ (1 : Nat) = (1 : Nat) ∧ false = false) ∧
   True ∧
   True ∧
   True ∧
   True ∧
   True ∧
   True ∧
   ((0 : Int) ≤ (7 : Int) ∧ (7 : Int) < (↑(8 : Nat) : Int) ∧ (8 : Nat) = (8 : Nat) ∧ (1 : Nat) = (1 : Nat)) ∧
   ((1 : Nat) ≠ (0 : Nat) ∧ (1 : Nat) = (1 : Nat) ∧ false = false) ∧
   True ∧
   (∃ (x_3 : W), ∃ (n : Nat), [D.val (Value.int IntKind.u32 (↑(BitVec.toNat (rd x l x_2).e) : Int)), D.val (Value.int IntKind.i64 (6 : Int))] = [D.val (Value.int IntKind.u32 (↑(BitVec.toNat x_3) : Int)), D.val (Value.int IntKind.i64 (↑n : Int))] ∧ (1 : Nat) ≤ n ∧ n ≤ (31 : Nat)) ∧
   True ∧
   (∃ (x_3 : W), ∃ (n : Nat), [D.val (Value.int IntKind.u32 (↑(BitVec.toNat (rd x l x_2).e) : Int)), D.val (Value.int IntKind.i64 (11 : Int))] = [D.val (Value.int IntKind.u32 (↑(BitVec.toNat x_3) : Int)), D.val (Value.int IntKind.i64 (↑n : Int))] ∧ (1 : Nat) ≤ n ∧ n ≤ (31 : Nat)) ∧
   True ∧
   True ∧
   (∃ (x_3 : W), ∃ (n : Nat), [D.val (Value.int IntKind.u32 (↑(BitVec.toNat (rd x l x_2).e) : Int)), D.val (Value.int IntKind.i64 (25 : Int))] = [D.val (Value.int IntKind.u32 (↑(BitVec.toNat x_3) : Int)), D.val (Value.int IntKind.i64 (↑n : Int))] ∧ (1 : Nat) ≤ n ∧ n ≤ (31 : Nat)) ∧
   True ∧
   True ∧
   True ∧
   True ∧
   True ∧
   True ∧
   True ∧
   True ∧
   True ∧
   True ∧
   True ∧
   True ∧
   ((0 : Int) ≤ (↑x_2 : Int) ∧ (↑x_2 : Int) < (↑(64 : Nat) : Int) ∧ (64 : Nat) = (64 : Nat) ∧ (1 : Nat) = (1 : Nat)) ∧
   ((1 : Nat) ≠ (0 : Nat) ∧ (1 : Nat) = (1 : Nat) ∧ false = false) ∧
   True ∧
   True ∧
   ((0 : Int) ≤ (↑x_2 : Int) ∧ (↑x_2 : Int) < (↑(64 : Nat) : Int) ∧ (64 : Nat) = (64 : Nat) ∧ (1 : Nat) = (1 : Nat)) ∧
   ((1 : Nat) ≠ (0 : Nat) ∧ (1 : Nat) = (1 : Nat) ∧ false = false) ∧
   True ∧
   True ∧
   True ∧
   (∃ (x_3 : W),
   ∃ (n : Nat),
   [D.val (Value.int IntKind.u32 (↑(BitVec.toNat (rd x l x_2).a) : Int)), D.val (Value.int IntKind.i64 (2 : Int))] = [D.val (Value.int IntKind.u32 (↑(BitVec.toNat x_3) : Int)), D.val (Value.int IntKind.i64 (↑n : Int))] ∧
   (1 : Nat) ≤ n ∧ n ≤ (31 : Nat)) ∧
   True ∧
   (∃ (x_3 : W),
   ∃ (n : Nat),
   [D.val (Value.int IntKind.u32 (↑(BitVec.toNat (rd x l x_2).a) : Int)), D.val (Value.int IntKind.i64 (13 : Int))] = [D.val (Value.int IntKind.u32 (↑(BitVec.toNat x_3) : Int)), D.val (Value.int IntKind.i64 (↑n : Int))] ∧
   (1 : Nat) ≤ n ∧ n ≤ (31 : Nat)) ∧
   True ∧
   True ∧
   (∃ (x_3 : W),
   ∃ (n : Nat),
   [D.val (Value.int IntKind.u32 (↑(BitVec.toNat (rd x l x_2).a) : Int)), D.val (Value.int IntKind.i64 (22 : Int))] = [D.val (Value.int IntKind.u32 (↑(BitVec.toNat x_3) : Int)), D.val (Value.int IntKind.i64 (↑n : Int))] ∧
   (1 : Nat) ≤ n ∧ n ≤ (31 : Nat)) ∧
   True ∧
   True ∧
   True ∧
   True ∧
   True ∧
   True ∧
   True ∧
   True ∧
   True ∧
   True ∧
   True ∧
   True ∧
   True ∧
   True ∧
   True ∧
   True ∧
   True ∧
   True ∧
   True ∧
   True ∧
   ((0 : Int) ≤ (3 : Int) ∧ (3 : Int) < (↑(8 : Nat) : Int) ∧ (8 : Nat) = (8 : Nat) ∧ (1 : Nat) = (1 : Nat)) ∧
   ((1 : Nat) ≠ (0 : Nat) ∧ (1 : Nat) = (1 : Nat) ∧ false = false) ∧
   True ∧
   True ∧
   True ∧
   True ∧
   True ∧
   ((1 : Nat) = (1 : Nat) ∧
   false = false ∧
   ((0 : Nat) < (8 : Nat) ∧ ([] : List Nat) = [] ∧ true = true) ∧
   false = false ∧
   ((1 : Nat) < (8 : Nat) ∧ ([] : List Nat) = [] ∧ true = true) ∧
   false = false ∧
   ((2 : Nat) < (8 : Nat) ∧ ([] : List Nat) = [] ∧ true = true) ∧
   false = false ∧
   ((3 : Nat) < (8 : Nat) ∧ ([] : List Nat) = [] ∧ true = true) ∧
   false = false ∧
   ((4 : Nat) < (8 : Nat) ∧ ([] : List Nat) = [] ∧ true = true) ∧
   false = false ∧
   ((5 : Nat) < (8 : Nat) ∧ ([] : List Nat) = [] ∧ true = true) ∧
   false = false ∧ ((6 : Nat) < (8 : Nat) ∧ ([] : List Nat) = [] ∧ true = true) ∧ false = false ∧ ((7 : Nat) < (8 : Nat) ∧ ([] : List Nat) = [] ∧ true = true) ∧ True) ∧
   (Sk.arr (8 : Nat) = Sk.arr (8 : Nat) ∧ (8 : Nat) ≠ (0 : Nat) ∧ (8 : Nat) = (8 : Nat) ∧ false = false) ∧
   True ∧
   True ∧
   ((AV.d (D.val (Value.int IntKind.i64 (IntKind.i64.wrap ((↑x_2 : Int) + (1 : Int))))) =
   AV.d (D.val (Value.int IntKind.i64 (↑(IntKind.i64.wrap ((↑x_2 : Int) + (1 : Int))).toNat : Int))) ∧
   True) ∧
   (sm
   (some
   (Blk.fix
   (D.arr IntKind.u32 (8 : Nat)
   [(↑(BitVec.toNat x.a) : Int), (↑(BitVec.toNat x.b) : Int), (↑(BitVec.toNat x.c) : Int), (↑(BitVec.toNat x.d) : Int), (↑(BitVec.toNat x.e) : Int),
   (↑(BitVec.toNat x.f) : Int), (↑(BitVec.toNat x.g) : Int), (↑(BitVec.toNat x.h) : Int)]))) ∧
   sm (some (Blk.fix (D.arr IntKind.u8 (64 : Nat) l))) ∧
   sm (some (Blk.fix (D.arr IntKind.u32 (8 : Nat) [(0 : Int), (0 : Int), (0 : Int), (0 : Int), (0 : Int), (0 : Int), (0 : Int), (0 : Int)]))) ∧
   sm (some (Blk.fix (D.arr IntKind.u32 (64 : Nat) (wl l x_1 ++ List.replicate ((64 : Nat) - x_1) (0 : Int))))) ∧
   some
   (Blk.fix
   (D.arr IntKind.u32 (8 : Nat)
   [IntKind.u32.wrap
   (IntKind.u32.wrap
   (IntKind.u32.wrap
   (IntKind.u32.wrap
   (IntKind.u32.wrap
   ((↑(BitVec.toNat (rd x l x_2).h) : Int) +
   ixor IntKind.u32
   (ixor IntKind.u32 (↑(BitVec.toNat (rr (toW (D.val (Value.int IntKind.u32 (↑(BitVec.toNat (rd x l x_2).e) : Int)))) (6 : Nat))) : Int)
   (↑(BitVec.toNat (rr (toW (D.val (Value.int IntKind.u32 (↑(BitVec.toNat (rd x l x_2).e) : Int)))) (11 : Nat))) : Int))
   (↑(BitVec.toNat (rr (toW (D.val (Value.int IntKind.u32 (↑(BitVec.toNat (rd x l x_2).e) : Int)))) (25 : Nat))) : Int)) +
   ixor IntKind.u32 (iand IntKind.u32 (↑(BitVec.toNat (rd x l x_2).e) : Int) (↑(BitVec.toNat (rd x l x_2).f) : Int))
   (iand IntKind.u32 (ixor IntKind.u32 IntKind.u32.max (↑(BitVec.toNat (rd x l x_2).e) : Int)) (↑(BitVec.toNat (rd x l x_2).g) : Int))) +
   gl0.getD (↑x_2 : Int).toNat (0 : Int)) +
   (wl l x_1 ++ List.replicate ((64 : Nat) - x_1) (0 : Int)).getD (↑x_2 : Int).toNat (0 : Int)) +
   IntKind.u32.wrap
   (ixor IntKind.u32
   (ixor IntKind.u32 (↑(BitVec.toNat (rr (toW (D.val (Value.int IntKind.u32 (↑(BitVec.toNat (rd x l x_2).a) : Int)))) (2 : Nat))) : Int)
   (↑(BitVec.toNat (rr (toW (D.val (Value.int IntKind.u32 (↑(BitVec.toNat (rd x l x_2).a) : Int)))) (13 : Nat))) : Int))
   (↑(BitVec.toNat (rr (toW (D.val (Value.int IntKind.u32 (↑(BitVec.toNat (rd x l x_2).a) : Int)))) (22 : Nat))) : Int) +
   ixor IntKind.u32
   (ixor IntKind.u32 (iand IntKind.u32 (↑(BitVec.toNat (rd x l x_2).a) : Int) (↑(BitVec.toNat (rd x l x_2).b) : Int))
   (iand IntKind.u32 (↑(BitVec.toNat (rd x l x_2).a) : Int) (↑(BitVec.toNat (rd x l x_2).c) : Int)))
   (iand IntKind.u32 (↑(BitVec.toNat (rd x l x_2).b) : Int) (↑(BitVec.toNat (rd x l x_2).c) : Int)))),
   (↑(BitVec.toNat (rd x l x_2).a) : Int), (↑(BitVec.toNat (rd x l x_2).b) : Int), (↑(BitVec.toNat (rd x l x_2).c) : Int),
   IntKind.u32.wrap
   ((↑(BitVec.toNat (rd x l x_2).d) : Int) +
   IntKind.u32.wrap
   (IntKind.u32.wrap
   (IntKind.u32.wrap
   (IntKind.u32.wrap
   ((↑(BitVec.toNat (rd x l x_2).h) : Int) +
   ixor IntKind.u32
   (ixor IntKind.u32 (↑(BitVec.toNat (rr (toW (D.val (Value.int IntKind.u32 (↑(BitVec.toNat (rd x l x_2).e) : Int)))) (6 : Nat))) : Int)
   (↑(BitVec.toNat (rr (toW (D.val (Value.int IntKind.u32 (↑(BitVec.toNat (rd x l x_2).e) : Int)))) (11 : Nat))) : Int))
   (↑(BitVec.toNat (rr (toW (D.val (Value.int IntKind.u32 (↑(BitVec.toNat (rd x l x_2).e) : Int)))) (25 : Nat))) : Int)) +
   ixor IntKind.u32 (iand IntKind.u32 (↑(BitVec.toNat (rd x l x_2).e) : Int) (↑(BitVec.toNat (rd x l x_2).f) : Int))
   (iand IntKind.u32 (ixor IntKind.u32 IntKind.u32.max (↑(BitVec.toNat (rd x l x_2).e) : Int)) (↑(BitVec.toNat (rd x l x_2).g) : Int))) +
   gl0.getD (↑x_2 : Int).toNat (0 : Int)) +
   (wl l x_1 ++ List.replicate ((64 : Nat) - x_1) (0 : Int)).getD (↑x_2 : Int).toNat (0 : Int))),
   (↑(BitVec.toNat (rd x l x_2).e) : Int), (↑(BitVec.toNat (rd x l x_2).f) : Int), (↑(BitVec.toNat (rd x l x_2).g) : Int)])) =
   some
   (Blk.fix
   (D.arr IntKind.u32 (8 : Nat)
   [(↑(BitVec.toNat (rd x l (IntKind.i64.wrap ((↑x_2 : Int) + (1 : Int))).toNat).a) : Int),
   (↑(BitVec.toNat (rd x l (IntKind.i64.wrap ((↑x_2 : Int) + (1 : Int))).toNat).b) : Int),
   (↑(BitVec.toNat (rd x l (IntKind.i64.wrap ((↑x_2 : Int) + (1 : Int))).toNat).c) : Int),
   (↑(BitVec.toNat (rd x l (IntKind.i64.wrap ((↑x_2 : Int) + (1 : Int))).toNat).d) : Int),
   (↑(BitVec.toNat (rd x l (IntKind.i64.wrap ((↑x_2 : Int) + (1 : Int))).toNat).e) : Int),
   (↑(BitVec.toNat (rd x l (IntKind.i64.wrap ((↑x_2 : Int) + (1 : Int))).toNat).f) : Int),
   (↑(BitVec.toNat (rd x l (IntKind.i64.wrap ((↑x_2 : Int) + (1 : Int))).toNat).g) : Int),
   (↑(BitVec.toNat (rd x l (IntKind.i64.wrap ((↑x_2 : Int) + (1 : Int))).toNat).h) : Int)])) ∧
   True) ∧
   true = true) ∧
   (IntKind.i64.wrap ((↑x_2 : Int) + (1 : Int))).toNat ≤ (64 : Nat) ∧ (64 : Nat) - (IntKind.i64.wrap ((↑x_2 : Int) + (1 : Int))).toNat < (64 : Nat) - x_2
  | false =>
   True ∧
   (((AV.d (D.val (Value.int IntKind.i64 (0 : Int))) = AV.d (D.val (Value.int IntKind.i64 (↑(Int.toNat (0 : Int)) : Int))) ∧ True) ∧
   (some (Blk.fix (D.arr IntKind.u32 (8 : Nat) [(↑(BitVec.toNat x.a) : Int), (↑(BitVec.toNat x.b) : Int), (↑(BitVec.toNat x.c) : Int), (↑(BitVec.toNat x.d) : Int), (↑(BitVec.toNat x.e) : Int), (↑(BitVec.toNat x.f) : Int), (↑(BitVec.toNat x.g) : Int), (↑(BitVec.toNat x.h) : Int)])) =
   some (Blk.fix (D.arr IntKind.u32 (8 : Nat) (mixL x l (Int.toNat (0 : Int))))) ∧
   sm (some (Blk.fix (D.arr IntKind.u8 (64 : Nat) l))) ∧
   sm (some (Blk.fix (D.arr IntKind.u32 (8 : Nat) [(0 : Int), (0 : Int), (0 : Int), (0 : Int), (0 : Int), (0 : Int), (0 : Int), (0 : Int)]))) ∧
   sm (some (Blk.fix (D.arr IntKind.u32 (64 : Nat) (wl l x_1 ++ List.replicate ((64 : Nat) - x_1) (0 : Int))))) ∧
   sm
   (some
   (Blk.fix
   (D.arr IntKind.u32 (8 : Nat)
   [(↑(BitVec.toNat (rd x l x_2).a) : Int), (↑(BitVec.toNat (rd x l x_2).b) : Int), (↑(BitVec.toNat (rd x l x_2).c) : Int), (↑(BitVec.toNat (rd x l x_2).d) : Int), (↑(BitVec.toNat (rd x l x_2).e) : Int), (↑(BitVec.toNat (rd x l x_2).f) : Int), (↑(BitVec.toNat (rd x l x_2).g) : Int), (↑(BitVec.toNat (rd x l x_2).h) : Int)]))) ∧
   True) ∧
   true = true) ∧
   Int.toNat (0 : Int) ≤ (8 : Nat)) ∧
   ∀ (x_3 : Nat),
   x_3 ≤ (8 : Nat) →
   true = true ∧
   True ∧
   match decide ((↑x_3 : Int) < (8 : Int)) with
   | true =>
    True ∧
    True ∧
    True ∧
    ((0 : Int) ≤ (↑x_3 : Int) ∧ (↑x_3 : Int) < (↑(8 : Nat) : Int) ∧ (8 : Nat) = (8 : Nat) ∧ (1 : Nat) = (1 : Nat)) ∧
    ((1 : Nat) ≠ (0 : Nat) ∧ (1 : Nat) = (1 : Nat) ∧ false = false) ∧
    True ∧
    ((0 : Int) ≤ (↑x_3 : Int) ∧ (↑x_3 : Int) < (↑(8 : Nat) : Int) ∧ (8 : Nat) = (8 : Nat) ∧ (1 : Nat) = (1 : Nat)) ∧
    ((1 : Nat) ≠ (0 : Nat) ∧ (1 : Nat) = (1 : Nat) ∧ false = false) ∧
    True ∧
    ((0 : Int) ≤ (↑x_3 : Int) ∧ (↑x_3 : Int) < (↑(8 : Nat) : Int) ∧ (8 : Nat) = (8 : Nat) ∧ (1 : Nat) = (1 : Nat)) ∧
    (((↑x_3 : Int).toNat < (8 : Nat) ∧ ([] : List Nat) = [] ∧ true = true) ∧ (1 : Nat) ≠ (0 : Nat) ∧ (1 : Nat) = (1 : Nat) ∧ false = false) ∧
    True ∧
    True ∧
    ((AV.d (D.val (Value.int IntKind.i64 (IntKind.i64.wrap ((↑x_3 : Int) + (1 : Int))))) = AV.d (D.val (Value.int IntKind.i64 (↑(IntKind.i64.wrap ((↑x_3 : Int) + (1 : Int))).toNat : Int))) ∧ True) ∧
    (some
    (Blk.fix
    (D.arr IntKind.u32 (8 : Nat)
    ((mixL x l x_3).set (↑x_3 : Int).toNat
    (IntKind.u32.wrap
    ((mixL x l x_3).getD (↑x_3 : Int).toNat (0 : Int) +
    [(↑(BitVec.toNat (rd x l x_2).a) : Int), (↑(BitVec.toNat (rd x l x_2).b) : Int), (↑(BitVec.toNat (rd x l x_2).c) : Int), (↑(BitVec.toNat (rd x l x_2).d) : Int), (↑(BitVec.toNat (rd x l x_2).e) : Int), (↑(BitVec.toNat (rd x l x_2).f) : Int), (↑(BitVec.toNat (rd x l x_2).g) : Int),
    (↑(BitVec.toNat (rd x l x_2).h) : Int)].getD
    (↑x_3 : Int).toNat (0 : Int)))))) =
    some (Blk.fix (D.arr IntKind.u32 (8 : Nat) (mixL x l (IntKind.i64.wrap ((↑x_3 : Int) + (1 : Int))).toNat))) ∧
    sm (some (Blk.fix (D.arr IntKind.u8 (64 : Nat) l))) ∧
    sm (some (Blk.fix (D.arr IntKind.u32 (8 : Nat) [(0 : Int), (0 : Int), (0 : Int), (0 : Int), (0 : Int), (0 : Int), (0 : Int), (0 : Int)]))) ∧
    sm (some (Blk.fix (D.arr IntKind.u32 (64 : Nat) (wl l x_1 ++ List.replicate ((64 : Nat) - x_1) (0 : Int))))) ∧
    sm
    (some
    (Blk.fix
    (D.arr IntKind.u32 (8 : Nat)
    [(↑(BitVec.toNat (rd x l x_2).a) : Int), (↑(BitVec.toNat (rd x l x_2).b) : Int), (↑(BitVec.toNat (rd x l x_2).c) : Int), (↑(BitVec.toNat (rd x l x_2).d) : Int), (↑(BitVec.toNat (rd x l x_2).e) : Int), (↑(BitVec.toNat (rd x l x_2).f) : Int), (↑(BitVec.toNat (rd x l x_2).g) : Int),
    (↑(BitVec.toNat (rd x l x_2).h) : Int)]))) ∧
    True) ∧
    true = true) ∧
    (IntKind.i64.wrap ((↑x_3 : Int) + (1 : Int))).toNat ≤ (8 : Nat) ∧ (8 : Nat) - (IntKind.i64.wrap ((↑x_3 : Int) + (1 : Int))).toNat < (8 : Nat) - x_3
   | false => ((8 : Nat) ≠ (0 : Nat) ∧ (8 : Nat) = (8 : Nat) ∧ true = true) ∧ (Sk.arr (8 : Nat) = Sk.arr (8 : Nat) ∧ (8 : Nat) ≠ (0 : Nat) ∧ (8 : Nat) = (8 : Nat) ∧ false = false) ∧ (((8 : Nat) ≠ (0 : Nat) ∧ (8 : Nat) = (8 : Nat) ∧ true = true) ∧ True) ∧ D.arr IntKind.u32 (8 : Nat) (mixL x l x_3) = F) := by kernel_rfl
end Go.Proofs.YtkicjckhkefnpaaDoor
namespace Go.Proofs.YtkicjckhkefnpaaDoor
open Go Go.Vg
theorem wsR_len (l : List Int) : ∀ t, (wsR l t).length = t
  | 0 => rfl
  | t + 1 => by rw [wsR, List.length_cons, wsR_len l t]
theorem wsR_get (l : List Int) : ∀ t i, i < t → (wsR l t).getD i 0 = wn l (t - 1 - i)
  | 0, _, h => by omega
  | t + 1, 0, _ => rfl
  | t + 1, i + 1, h => by
    rw [wsR, List.getD_cons_succ, wsR_get l t i (by omega)]
    congr 1
    omega
theorem wn_lo (l : List Int) {t : Nat} (h : t < 16) : wn l t = wat l (4 * t) := by
  unfold wn
  rw [wsR, List.getD_cons_zero, if_pos h]
theorem wn_hi (l : List Int) {t : Nat} (h : 16 ≤ t) : wn l t = ((wn l (t - 16) + sA (wn l (t - 15))) + wn l (t - 7)) + sB (wn l (t - 2)) := by
  have e : wn l t = (wsR l (t + 1)).getD 0 0 := rfl
  rw [e, wsR, List.getD_cons_zero, if_neg (by omega), wsR_get l t 15 (by omega), wsR_get l t 14 (by omega), wsR_get l t 6 (by omega), wsR_get l t 1 (by omega)]
  rw [show t - 1 - 15 = t - 16 by omega, show t - 1 - 14 = t - 15 by omega, show t - 1 - 6 = t - 7 by omega, show t - 1 - 1 = t - 2 by omega]
theorem wl_len (l : List Int) (n : Nat) : (wl l n).length = n := by unfold wl; simp
theorem wl_get (l : List Int) {n j : Nat} (h : j < n) (r : List Int) : (wl l n ++ r).getD j 0 = ((wn l j).toNat : Int) := by
  rw [List.getD_eq_getElem?_getD, List.getElem?_append_left (by rw [wl_len]; exact h)]
  unfold wl
  simp [h]
theorem wl_succ (l : List Int) (n : Nat) : wl l (n + 1) = wl l n ++ [((wn l n).toNat : Int)] := by
  unfold wl
  rw [List.range_succ, List.map_append]
  rfl
theorem wl_set (l : List Int) {n : Nat} (h : n < 64) : (wl l n ++ List.replicate (64 - n) 0).set n ((wn l n).toNat : Int) = wl l (n + 1) ++ List.replicate (64 - (n + 1)) 0 := by
  have e : 64 - n = (64 - (n + 1)) + 1 := by omega
  rw [wl_succ, e, List.replicate_succ, List.set_append_right _ _ (by rw [wl_len]; omega), wl_len, Nat.sub_self, List.set_cons_zero, List.append_assoc]
  rfl
theorem gl_ok : (gl0.all fun n => decide (0 ≤ n) && decide (n < 4294967296)) = true ∧ gl0.length = 64 ∧ gl1 = gl0 := ⟨by decide +kernel, rfl, rfl⟩
theorem kW_eq {t : Nat} (h : t < 64) : gl0.getD t 0 = ((kW t).toNat : Int) := by
  have hl := gl_ok.2.1
  have hm : gl0.getD t 0 ∈ gl0 := by
    rw [List.getD_eq_getElem?_getD, List.getElem?_eq_getElem (by omega)]
    exact List.getElem_mem _
  have := List.all_eq_true.1 gl_ok.1 _ hm
  simp only [Bool.and_eq_true, decide_eq_true_eq] at this
  unfold kW
  generalize gl0.getD t 0 = z at *
  obtain ⟨n, rfl⟩ := Int.eq_ofNat_of_zero_le this.1
  rw [BitVec.ofInt_natCast, ofW _ (by omega)]
theorem shr3 (x : W) : ishr .u32 (x.toNat : Int) 3 = ((x >>> 3).toNat : Int) := shrW x (n := 3) (by decide)
theorem shr10 (x : W) : ishr .u32 (x.toNat : Int) 10 = ((x >>> 10).toNat : Int) := shrW x (n := 10) (by decide)
theorem notW' (x : W) : ixor .u32 IntKind.u32.max (x.toNat : Int) = ((~~~x).toNat : Int) := notW x
theorem mix_len (x : R8) (l : List Int) (i : Nat) : (mixL x l 0) = x.l := rfl
theorem mix_gen (x v : R8) {i : Nat} (h : i < 8) : ((add8 x v).l.take i ++ x.l.drop i).set i (IntKind.u32.wrap (((add8 x v).l.take i ++ x.l.drop i).getD i 0 + v.l.getD i 0)) = (add8 x v).l.take (i + 1) ++ x.l.drop (i + 1) := by
  rcases (by omega : i = 0 ∨ i = 1 ∨ i = 2 ∨ i = 3 ∨ i = 4 ∨ i = 5 ∨ i = 6 ∨ i = 7) with rfl | rfl | rfl | rfl | rfl | rfl | rfl | rfl <;>
    simp [R8.l, add8, addW]
theorem mix_step (x : R8) (l : List Int) {i : Nat} (h : i < 8) : (mixL x l i).set i (IntKind.u32.wrap ((mixL x l i).getD i 0 + (rd x l 64).l.getD i 0)) = mixL x l (i + 1) := by
  unfold mixL pr
  exact mix_gen _ _ h
theorem ofR_l (x : R8) : ofR x.l = x := by
  have h : ∀ y : W, BitVec.ofInt 32 (y.toNat : Int) = y := toW_wd
  show R8.mk (BitVec.ofInt 32 (x.a.toNat : Int)) (BitVec.ofInt 32 (x.b.toNat : Int)) (BitVec.ofInt 32 (x.c.toNat : Int)) (BitVec.ofInt 32 (x.d.toNat : Int)) (BitVec.ofInt 32 (x.e.toNat : Int)) (BitVec.ofInt 32 (x.f.toNat : Int)) (BitVec.ofInt 32 (x.g.toNat : Int)) (BitVec.ofInt 32 (x.h.toNat : Int)) = x
  simp only [h]
theorem fA (x : W) : (rr x 7 ^^^ rr x 18) ^^^ x >>> 3 = sA x := rfl
theorem fB (x : W) : (rr x 17 ^^^ rr x 19) ^^^ x >>> 10 = sB x := rfl
theorem fC (x : W) : (rr x 6 ^^^ rr x 11) ^^^ rr x 25 = sC x := rfl
theorem fD (x : W) : (rr x 2 ^^^ rr x 13) ^^^ rr x 22 = sD x := rfl
theorem fch (x y z : W) : (x &&& y) ^^^ (~~~x &&& z) = chW x y z := rfl
theorem fmj (x y z : W) : ((x &&& y) ^^^ (x &&& z)) ^^^ (y &&& z) = mjW x y z := rfl
theorem rd_succ (x : R8) (l : List Int) (t : Nat) : rd x l (t + 1) = rdS (rd x l t) (kW t) (wn l t) := rfl
set_option maxRecDepth 100000 in
theorem m117 : Meets Tryd.prog 117 sp117 := by
  refine meets_of_owed (C := c117) ⟨tab_ok, lkS_ok ⟨m129, m130, trivial⟩⟩ (by kernel_rfl) (by kernel_rfl : Tryd.prog.funcs[117]? = some Tryd.f117) (by kernel_rfl) (by kernel_rfl) (by kernel_rfl) _ ?_
  rintro _ ⟨x, l, rfl, hb, hl⟩
  refine ⟨fun _ => rfl, inv117 x l, ?_⟩
  show owed c117 (inv117 x l) Tryd.f117 [a8 x.l, .arr .u8 64 l] (a8 (prL x.l l))
  unfold prL
  rw [vc117, ofR_l]
  have hw0 : wl l 0 = [] := rfl
  have hm0 : mixL x l 0 = x.l := rfl
  have hr0 : rd x l 0 = x := rfl
  have hxl : [((x.a.toNat : Nat) : Int), ((x.b.toNat : Nat) : Int), ((x.c.toNat : Nat) : Int), ((x.d.toNat : Nat) : Int), ((x.e.toNat : Nat) : Int), ((x.f.toNat : Nat) : Int), ((x.g.toNat : Nat) : Int), ((x.h.toNat : Nat) : Int)] = x.l := rfl
  simp (decide := true) only [eq_self, true_and, and_true, ne_eq, not_false_eq_true, Int.toNat_natCast, hw0, List.nil_append, Int.toNat_zero, hm0, hr0, hxl]
  refine ⟨rfl, fun t ht => ?_⟩
  split
  · rename_i h
    have h : t < 64 := by have := of_decide_eq_true h; omega
    have ew : IntKind.i64.wrap ((t : Int) + 1) = ((t + 1 : Nat) : Int) := by rw [wi (by omega) (by omega)]; omega
    split
    · rename_i h2
      have h2 : t < 16 := by have := of_decide_eq_true h2; omega
      have e4 : IntKind.i64.wrap (4 * (t : Int)) = ((4 * t : Nat) : Int) := by rw [wi (by omega) (by omega)]; omega
      rw [e4, ew, Int.toNat_natCast, Int.toNat_natCast]
      simp only [List.drop_zero, Nat.sub_zero, List.take_of_length_le (Nat.le_of_eq hl), ← wn_lo l h2, wl_set l h]
      refine ⟨⟨l, 4 * t, rfl, hb, by omega, by omega⟩, ?_⟩
      and_intros <;> first | exact trivial | rfl | omega
    · rename_i h2
      have h2 : 16 ≤ t := by have := of_decide_eq_false h2; omega
      have e15 : IntKind.i64.wrap ((t : Int) - 15) = ((t - 15 : Nat) : Int) := by rw [wi (by omega) (by omega)]; omega
      have e16 : IntKind.i64.wrap ((t : Int) - 16) = ((t - 16 : Nat) : Int) := by rw [wi (by omega) (by omega)]; omega
      have e7 : IntKind.i64.wrap ((t : Int) - 7) = ((t - 7 : Nat) : Int) := by rw [wi (by omega) (by omega)]; omega
      have e2 : IntKind.i64.wrap ((t : Int) - 2) = ((t - 2 : Nat) : Int) := by rw [wi (by omega) (by omega)]; omega
      have g15 := wl_get l (n := t) (j := t - 15) (by omega) (List.replicate (64 - t) 0)
      have g16 := wl_get l (n := t) (j := t - 16) (by omega) (List.replicate (64 - t) 0)
      have g7 := wl_get l (n := t) (j := t - 7) (by omega) (List.replicate (64 - t) 0)
      have g2 := wl_get l (n := t) (j := t - 2) (by omega) (List.replicate (64 - t) 0)
      simp only [e15, e16, e7, e2, ew, Int.toNat_natCast, g15, g16, g7, g2, toW_wd, xorW, shr3, shr10, addW, fA, fB, ← wn_hi l h2, wl_set l h]
      and_intros <;> first | exact trivial | rfl | omega | exact ⟨_, 7, rfl, by decide, by decide⟩ | exact ⟨_, 18, rfl, by decide, by decide⟩ | exact ⟨_, 17, rfl, by decide, by decide⟩ | exact ⟨_, 19, rfl, by decide, by decide⟩
  · rename_i h
    obtain rfl : t = 64 := by have := of_decide_eq_false h; omega
    refine ⟨rfl, fun t ht => ?_⟩
    split
    · rename_i h
      have h : t < 64 := by have := of_decide_eq_true h; omega
      have ew : IntKind.i64.wrap ((t : Int) + 1) = ((t + 1 : Nat) : Int) := by rw [wi (by omega) (by omega)]; omega
      have gt := wl_get l (n := 64) (j := t) h (List.replicate (64 - 64) 0)
      simp only [ew, Int.toNat_natCast, gt, kW_eq h, toW_wd, xorW, andW, notW', addW, fC, fD, fch, fmj, rd_succ]
      and_intros <;> first | exact trivial | rfl | omega | exact ⟨_, 6, rfl, by decide, by decide⟩ | exact ⟨_, 11, rfl, by decide, by decide⟩ | exact ⟨_, 25, rfl, by decide, by decide⟩ | exact ⟨_, 2, rfl, by decide, by decide⟩ | exact ⟨_, 13, rfl, by decide, by decide⟩ | exact ⟨_, 22, rfl, by decide, by decide⟩
    · rename_i h
      obtain rfl : t = 64 := by have := of_decide_eq_false h; omega
      refine ⟨rfl, fun t ht => ?_⟩
      split
      · rename_i h
        have h : t < 8 := by have := of_decide_eq_true h; omega
        have ew : IntKind.i64.wrap ((t : Int) + 1) = ((t + 1 : Nat) : Int) := by rw [wi (by omega) (by omega)]; omega
        have hs := mix_step x l h
        simp only [R8.l] at hs
        simp only [ew, Int.toNat_natCast, hs]
        and_intros <;> first | exact trivial | rfl | omega
      · rename_i h
        obtain rfl : t = 8 := by have := of_decide_eq_false h; omega
        rfl
end Go.Proofs.YtkicjckhkefnpaaDoor
namespace Go.Proofs.YtkicjckhkefnpaaDoor
open Go Go.Vg
def pw (l : List Int) (i : Nat) : Nat → W
  | 0 => 0
  | k + 1 => pw l i k * 256 + BitVec.ofNat 32 (l.getD (i + k) 0).toNat
def inv128 (x : R8) (l : List Int) : Nat → Option Inv
  | 3 => some ⟨Nat, fun i => [(6, .d (i64 ((4 * i : Nat) : Int))), (5, .row 24), (24, .any)], fun i => [(24, .row 113 (.ints .u32 (wl l i)))], fun s => (slotN s 6).toNat / 4, fun _ i => i ≤ 16, fun i => 16 - i⟩
  | 7 => some ⟨Nat × Nat, fun i => [(29, .d (i64 (i.1 : Int))), (7, .d (wd (pw l i.2 i.1)))], fun _ => [], fun s => ((slotN s 29).toNat, (slotN s 6).toNat), fun s i => i.1 ≤ 4 ∧ (i.2 : Int) = slotN s 6, fun i => 4 - i.1⟩
  | 12 => some ⟨Nat, fun _ => [(5, .row 24)], fun i => [(24, .row 113 (.ints .u32 (wl l i)))], fun s => (rowD s 24).length, fun _ i => 16 ≤ i ∧ i ≤ 64, fun i => 64 - i⟩
  | 18 => some ⟨Nat, fun i => [(119, .d (i64 i)), (12, .d (wd (rd x l i).a)), (13, .d (wd (rd x l i).b)), (14, .d (wd (rd x l i).c)), (15, .d (wd (rd x l i).d)), (16, .d (wd (rd x l i).e)), (17, .d (wd (rd x l i).f)), (18, .d (wd (rd x l i).g)), (19, .d (wd (rd x l i).h))],
      fun _ => [], fun s => (slotN s 119).toNat, fun _ i => i ≤ 64, fun i => 64 - i⟩
  | _ => none
--KEEP rr Go.Vg.toW chW mjW w4 wat BitVec.toNat wl wn rd mixL prL pr kW Go.Vg.gl0 Go.Vg.gl1 pw
set_option maxRecDepth 100000 in
theorem vc128  (x : R8) (l : List Int) (F : D)  :
    (owed c128 (inv128 x l) Tryd.f128 [.ints .u32 x.l, .str l] F) = (
 True ∧
 ((0 : Int) ≤ (0 : Int) ∧ (0 : Int) ≤ (64 : Int) ∧ (64 : Int) ≤ (281474976710656 : Int) ∧ (↑(4 : Nat) : Int) * (64 : Int) ≤ (281474976710656 : Int) ∧ (1 : Nat) = (1 : Nat)) ∧
 True ∧
 True ∧
 (((sm (AV.d (D.ints IntKind.u32 [(↑(BitVec.toNat x.a) : Int), (↑(BitVec.toNat x.b) : Int), (↑(BitVec.toNat x.c) : Int), (↑(BitVec.toNat x.d) : Int), (↑(BitVec.toNat x.e) : Int), (↑(BitVec.toNat x.f) : Int), (↑(BitVec.toNat x.g) : Int), (↑(BitVec.toNat x.h) : Int)])) ∧
 sm (AV.d (D.str l)) ∧ sm (AV.d (D.val (Value.slice none (0 : Nat) (0 : Nat)))) ∧ sm (AV.row (24 : Nat)) ∧ AV.d (D.val (Value.int IntKind.i64 (0 : Int))) = AV.d (D.val (Value.int IntKind.i64 (↑(0 : Nat) : Int))) ∧ True) ∧
 (some (Blk.row (113 : TypeId) (D.ints IntKind.u32 [])) = some (Blk.row (113 : TypeId) (D.ints IntKind.u32 (wl l (0 / 4 : Nat)))) ∧ True) ∧ true = true) ∧
 (0 / 4 : Nat) ≤ (16 : Nat)) ∧
 ∀ (x_1 : Nat),
 x_1 ≤ (16 : Nat) →
 true = true ∧
 True ∧
 True ∧
 match decide ((↑((4 : Nat) * x_1) : Int) < (64 : Int)) with
 | true =>
  True ∧
  True ∧
  (((sm (AV.d (D.ints IntKind.u32 [(↑(BitVec.toNat x.a) : Int), (↑(BitVec.toNat x.b) : Int), (↑(BitVec.toNat x.c) : Int), (↑(BitVec.toNat x.d) : Int), (↑(BitVec.toNat x.e) : Int), (↑(BitVec.toNat x.f) : Int), (↑(BitVec.toNat x.g) : Int), (↑(BitVec.toNat x.h) : Int)])) ∧
  sm (AV.d (D.str l)) ∧
  sm (AV.d (D.val (Value.slice none (0 : Nat) (0 : Nat)))) ∧
  sm (AV.row (24 : Nat)) ∧
  sm (AV.d (D.val (Value.int IntKind.i64 (↑((4 : Nat) * x_1) : Int)))) ∧
  AV.d (D.val (Value.int IntKind.u32 (0 : Int))) = AV.d (D.val (Value.int IntKind.u32 (↑(BitVec.toNat (pw l (↑((4 : Nat) * x_1) : Int).toNat (0 : Nat))) : Int))) ∧
  sm (AV.d (D.val (Value.int IntKind.i64 (↑((4 : Nat) * x_1) : Int)))) ∧ sm (AV.d (D.val (Value.bool (decide ((↑((4 : Nat) * x_1) : Int) < (64 : Int)))))) ∧ AV.d (D.val (Value.int IntKind.i64 (0 : Int))) = AV.d (D.val (Value.int IntKind.i64 (↑(0 : Nat) : Int))) ∧ True) ∧
  (sm (some (Blk.row (113 : TypeId) (D.ints IntKind.u32 (wl l x_1)))) ∧ True) ∧ true = true) ∧
  (0 : Nat) ≤ (4 : Nat) ∧ (↑(↑((4 : Nat) * x_1) : Int).toNat : Int) = (↑((4 : Nat) * x_1) : Int)) ∧
  ∀ (x_2 : Nat × Nat),
  x_2.fst ≤ (4 : Nat) ∧ (↑x_2.snd : Int) = (↑((4 : Nat) * x_1) : Int) →
  true = true ∧
  True ∧
  match decide ((↑x_2.fst : Int) < (4 : Int)) with
  | true =>
   True ∧
   True ∧
   True ∧
   True ∧
   True ∧
   True ∧
   True ∧
   True ∧
   ((0 : Int) ≤ IntKind.i64.wrap ((↑((4 : Nat) * x_1) : Int) + (↑x_2.fst : Int)) ∧ IntKind.i64.wrap ((↑((4 : Nat) * x_1) : Int) + (↑x_2.fst : Int)) < (↑l.length : Int)) ∧
   True ∧
   True ∧
   True ∧
   True ∧
   True ∧
   ((sm (AV.d (D.ints IntKind.u32 [(↑(BitVec.toNat x.a) : Int), (↑(BitVec.toNat x.b) : Int), (↑(BitVec.toNat x.c) : Int), (↑(BitVec.toNat x.d) : Int), (↑(BitVec.toNat x.e) : Int), (↑(BitVec.toNat x.f) : Int), (↑(BitVec.toNat x.g) : Int), (↑(BitVec.toNat x.h) : Int)])) ∧
   sm (AV.d (D.str l)) ∧
   sm (AV.d (D.val (Value.slice none (0 : Nat) (0 : Nat)))) ∧
   sm (AV.row (24 : Nat)) ∧
   sm (AV.d (D.val (Value.int IntKind.i64 (↑((4 : Nat) * x_1) : Int)))) ∧
   AV.d (D.val (Value.int IntKind.u32 (IntKind.u32.wrap (IntKind.u32.wrap ((↑(BitVec.toNat (pw l x_2.snd x_2.fst)) : Int) * (256 : Int)) + IntKind.u32.wrap (l.getD (IntKind.i64.wrap ((↑((4 : Nat) * x_1) : Int) + (↑x_2.fst : Int))).toNat (0 : Int)))))) =
   AV.d (D.val (Value.int IntKind.u32 (↑(BitVec.toNat (pw l (↑((4 : Nat) * x_1) : Int).toNat (IntKind.i64.wrap ((↑x_2.fst : Int) + (1 : Int))).toNat)) : Int))) ∧
   sm (AV.d (D.val (Value.int IntKind.i64 (↑((4 : Nat) * x_1) : Int)))) ∧
   sm (AV.d (D.val (Value.bool (decide ((↑((4 : Nat) * x_1) : Int) < (64 : Int)))))) ∧ AV.d (D.val (Value.int IntKind.i64 (IntKind.i64.wrap ((↑x_2.fst : Int) + (1 : Int))))) = AV.d (D.val (Value.int IntKind.i64 (↑(IntKind.i64.wrap ((↑x_2.fst : Int) + (1 : Int))).toNat : Int))) ∧ True) ∧
   (sm (some (Blk.row (113 : TypeId) (D.ints IntKind.u32 (wl l x_1)))) ∧ True) ∧ true = true) ∧
   ((IntKind.i64.wrap ((↑x_2.fst : Int) + (1 : Int))).toNat ≤ (4 : Nat) ∧ (↑(↑((4 : Nat) * x_1) : Int).toNat : Int) = (↑((4 : Nat) * x_1) : Int)) ∧ (4 : Nat) - (IntKind.i64.wrap ((↑x_2.fst : Int) + (1 : Int))).toNat < (4 : Nat) - x_2.fst
  | false =>
   True ∧
   True ∧
   ((1 : Nat) = (1 : Nat) ∧ (1 : Nat) ≤ (4096 : Nat)) ∧
   ((113 : TypeId) = (113 : TypeId) ∧ (170 : Nat) = (170 : Nat) ∧ true = true ∧ (wl l x_1 ++ [(↑(BitVec.toNat (pw l x_2.snd x_2.fst)) : Int)]).length ≤ (140737488355328 : Nat) ∧ (wl l x_1 ++ [(↑(BitVec.toNat (pw l x_2.snd x_2.fst)) : Int)]).length * (4 : Nat) ≤ (140737488355328 : Nat) ∧ (1 : Nat) ≠ (0 : Nat) ∧ (1 : Nat) = (1 : Nat)) ∧
   True ∧
   True ∧
   True ∧
   True ∧
   ((sm (AV.d (D.ints IntKind.u32 [(↑(BitVec.toNat x.a) : Int), (↑(BitVec.toNat x.b) : Int), (↑(BitVec.toNat x.c) : Int), (↑(BitVec.toNat x.d) : Int), (↑(BitVec.toNat x.e) : Int), (↑(BitVec.toNat x.f) : Int), (↑(BitVec.toNat x.g) : Int), (↑(BitVec.toNat x.h) : Int)])) ∧
   sm (AV.d (D.str l)) ∧
   sm (AV.d (D.val (Value.slice none (0 : Nat) (0 : Nat)))) ∧ sm (AV.row (24 : Nat)) ∧ AV.d (D.val (Value.int IntKind.i64 (IntKind.i64.wrap ((↑((4 : Nat) * x_1) : Int) + (4 : Int))))) = AV.d (D.val (Value.int IntKind.i64 (↑((4 : Nat) * ((IntKind.i64.wrap ((↑((4 : Nat) * x_1) : Int) + (4 : Int))).toNat / (4 : Nat))) : Int))) ∧ True) ∧
   (some (Blk.row (113 : TypeId) (D.ints IntKind.u32 (wl l x_1 ++ [(↑(BitVec.toNat (pw l x_2.snd x_2.fst)) : Int)]))) = some (Blk.row (113 : TypeId) (D.ints IntKind.u32 (wl l ((IntKind.i64.wrap ((↑((4 : Nat) * x_1) : Int) + (4 : Int))).toNat / (4 : Nat))))) ∧ True) ∧ true = true) ∧
   (IntKind.i64.wrap ((↑((4 : Nat) * x_1) : Int) + (4 : Int))).toNat / (4 : Nat) ≤ (16 : Nat) ∧ (16 : Nat) - (IntKind.i64.wrap ((↑((4 : Nat) * x_1) : Int) + (4 : Int))).toNat / (4 : Nat) < (16 : Nat) - x_1
 | false =>
  (((sm (AV.row (24 : Nat)) ∧ True) ∧ (some (Blk.row (113 : TypeId) (D.ints IntKind.u32 (wl l x_1))) = some (Blk.row (113 : TypeId) (D.ints IntKind.u32 (wl l (wl l x_1).length))) ∧ True) ∧ true = true) ∧ (16 : Nat) ≤ (wl l x_1).length ∧ (wl l x_1).length ≤ (64 : Nat)) ∧
  ∀ (x_2 : Nat),
  (16 : Nat) ≤ x_2 ∧ x_2 ≤ (64 : Nat) →
  true = true ∧
  True ∧
  True ∧
  True ∧
  match decide ((↑(wl l x_2).length : Int) < (64 : Int)) with
  | true =>
   True ∧
   True ∧
   True ∧
   True ∧
   True ∧
   True ∧
   ((0 : Int) ≤ IntKind.i64.wrap ((↑(wl l x_2).length : Int) - (15 : Int)) ∧ IntKind.i64.wrap ((↑(wl l x_2).length : Int) - (15 : Int)) < (↑(wl l x_2).length : Int) ∧ (1 : Nat) = (1 : Nat)) ∧
   ((IntKind.i64.wrap ((↑(wl l x_2).length : Int) - (15 : Int))).toNat < (wl l x_2).length ∧ (1 : Nat) = (1 : Nat) ∧ false = false) ∧
   True ∧
   True ∧
   True ∧
   ((0 : Int) ≤ IntKind.i64.wrap ((↑(wl l x_2).length : Int) - (2 : Int)) ∧ IntKind.i64.wrap ((↑(wl l x_2).length : Int) - (2 : Int)) < (↑(wl l x_2).length : Int) ∧ (1 : Nat) = (1 : Nat)) ∧
   ((IntKind.i64.wrap ((↑(wl l x_2).length : Int) - (2 : Int))).toNat < (wl l x_2).length ∧ (1 : Nat) = (1 : Nat) ∧ false = false) ∧
   True ∧
   True ∧
   True ∧
   True ∧
   True ∧
   True ∧
   ((0 : Int) ≤ IntKind.i64.wrap ((↑(wl l x_2).length : Int) - (16 : Int)) ∧ IntKind.i64.wrap ((↑(wl l x_2).length : Int) - (16 : Int)) < (↑(wl l x_2).length : Int) ∧ (1 : Nat) = (1 : Nat)) ∧
   ((IntKind.i64.wrap ((↑(wl l x_2).length : Int) - (16 : Int))).toNat < (wl l x_2).length ∧ (1 : Nat) = (1 : Nat) ∧ false = false) ∧
   True ∧
   True ∧
   True ∧
   ((0 : Int) ≤ IntKind.i64.wrap ((↑(wl l x_2).length : Int) - (7 : Int)) ∧ IntKind.i64.wrap ((↑(wl l x_2).length : Int) - (7 : Int)) < (↑(wl l x_2).length : Int) ∧ (1 : Nat) = (1 : Nat)) ∧
   ((IntKind.i64.wrap ((↑(wl l x_2).length : Int) - (7 : Int))).toNat < (wl l x_2).length ∧ (1 : Nat) = (1 : Nat) ∧ false = false) ∧
   True ∧
   True ∧
   (∃ (x : W),
   ∃ (n : Nat),
   [D.val (Value.int IntKind.u32 ((wl l x_2).getD (IntKind.i64.wrap ((↑(wl l x_2).length : Int) - (15 : Int))).toNat (0 : Int))), D.val (Value.int IntKind.u64 (7 : Int))] = [D.val (Value.int IntKind.u32 (↑(BitVec.toNat x) : Int)), D.val (Value.int IntKind.u64 (↑n : Int))] ∧
   (1 : Nat) ≤ n ∧ n ≤ (31 : Nat)) ∧
   True ∧
   (∃ (x : W),
   ∃ (n : Nat),
   [D.val (Value.int IntKind.u32 ((wl l x_2).getD (IntKind.i64.wrap ((↑(wl l x_2).length : Int) - (15 : Int))).toNat (0 : Int))), D.val (Value.int IntKind.u64 (18 : Int))] = [D.val (Value.int IntKind.u32 (↑(BitVec.toNat x) : Int)), D.val (Value.int IntKind.u64 (↑n : Int))] ∧
   (1 : Nat) ≤ n ∧ n ≤ (31 : Nat)) ∧
   True ∧
   True ∧
   (8 : Int) ≠ (0 : Int) ∧
   True ∧
   True ∧
   True ∧
   (∃ (x : W),
   ∃ (n : Nat),
   [D.val (Value.int IntKind.u32 ((wl l x_2).getD (IntKind.i64.wrap ((↑(wl l x_2).length : Int) - (2 : Int))).toNat (0 : Int))), D.val (Value.int IntKind.u64 (17 : Int))] = [D.val (Value.int IntKind.u32 (↑(BitVec.toNat x) : Int)), D.val (Value.int IntKind.u64 (↑n : Int))] ∧
   (1 : Nat) ≤ n ∧ n ≤ (31 : Nat)) ∧
   True ∧
   (∃ (x : W),
   ∃ (n : Nat),
   [D.val (Value.int IntKind.u32 ((wl l x_2).getD (IntKind.i64.wrap ((↑(wl l x_2).length : Int) - (2 : Int))).toNat (0 : Int))), D.val (Value.int IntKind.u64 (19 : Int))] = [D.val (Value.int IntKind.u32 (↑(BitVec.toNat x) : Int)), D.val (Value.int IntKind.u64 (↑n : Int))] ∧
   (1 : Nat) ≤ n ∧ n ≤ (31 : Nat)) ∧
   True ∧
   True ∧
   (1024 : Int) ≠ (0 : Int) ∧
   True ∧
   True ∧
   ((1 : Nat) = (1 : Nat) ∧ (1 : Nat) ≤ (4096 : Nat)) ∧
   ((113 : TypeId) = (113 : TypeId) ∧
   (170 : Nat) = (170 : Nat) ∧
   true = true ∧
   (wl l x_2 ++
   [IntKind.u32.wrap
   (IntKind.u32.wrap
   (IntKind.u32.wrap ((wl l x_2).getD (IntKind.i64.wrap ((↑(wl l x_2).length : Int) - (16 : Int))).toNat (0 : Int) + (wl l x_2).getD (IntKind.i64.wrap ((↑(wl l x_2).length : Int) - (7 : Int))).toNat (0 : Int)) +
   ixor IntKind.u32
   (ixor IntKind.u32 (↑(BitVec.toNat (rr (toW (D.val (Value.int IntKind.u32 ((wl l x_2).getD (IntKind.i64.wrap ((↑(wl l x_2).length : Int) - (15 : Int))).toNat (0 : Int))))) (7 : Nat))) : Int)
   (↑(BitVec.toNat (rr (toW (D.val (Value.int IntKind.u32 ((wl l x_2).getD (IntKind.i64.wrap ((↑(wl l x_2).length : Int) - (15 : Int))).toNat (0 : Int))))) (18 : Nat))) : Int))
   (IntKind.u32.wrap (((wl l x_2).getD (IntKind.i64.wrap ((↑(wl l x_2).length : Int) - (15 : Int))).toNat (0 : Int)).tdiv (8 : Int)))) +
   ixor IntKind.u32
   (ixor IntKind.u32 (↑(BitVec.toNat (rr (toW (D.val (Value.int IntKind.u32 ((wl l x_2).getD (IntKind.i64.wrap ((↑(wl l x_2).length : Int) - (2 : Int))).toNat (0 : Int))))) (17 : Nat))) : Int)
   (↑(BitVec.toNat (rr (toW (D.val (Value.int IntKind.u32 ((wl l x_2).getD (IntKind.i64.wrap ((↑(wl l x_2).length : Int) - (2 : Int))).toNat (0 : Int))))) (19 : Nat))) : Int))
   (IntKind.u32.wrap (((wl l x_2).getD (IntKind.i64.wrap ((↑(wl l x_2).length : Int) - (2 : Int))).toNat (0 : Int)).tdiv (1024 : Int))))]).length ≤
   (140737488355328 : Nat) ∧
   (wl l x_2 ++
   [IntKind.u32.wrap
   (IntKind.u32.wrap
   (IntKind.u32.wrap ((wl l x_2).getD (IntKind.i64.wrap ((↑(wl l x_2).length : Int) - (16 : Int))).toNat (0 : Int) + (wl l x_2).getD (IntKind.i64.wrap ((↑(wl l x_2).length : Int) - (7 : Int))).toNat (0 : Int)) +
   ixor IntKind.u32
   (ixor IntKind.u32 (↑(BitVec.toNat (rr (toW (D.val (Value.int IntKind.u32 ((wl l x_2).getD (IntKind.i64.wrap ((↑(wl l x_2).length : Int) - (15 : Int))).toNat (0 : Int))))) (7 : Nat))) : Int)
   (↑(BitVec.toNat (rr (toW (D.val (Value.int IntKind.u32 ((wl l x_2).getD (IntKind.i64.wrap ((↑(wl l x_2).length : Int) - (15 : Int))).toNat (0 : Int))))) (18 : Nat))) : Int))
   (IntKind.u32.wrap (((wl l x_2).getD (IntKind.i64.wrap ((↑(wl l x_2).length : Int) - (15 : Int))).toNat (0 : Int)).tdiv (8 : Int)))) +
   ixor IntKind.u32
   (ixor IntKind.u32 (↑(BitVec.toNat (rr (toW (D.val (Value.int IntKind.u32 ((wl l x_2).getD (IntKind.i64.wrap ((↑(wl l x_2).length : Int) - (2 : Int))).toNat (0 : Int))))) (17 : Nat))) : Int)
   (↑(BitVec.toNat (rr (toW (D.val (Value.int IntKind.u32 ((wl l x_2).getD (IntKind.i64.wrap ((↑(wl l x_2).length : Int) - (2 : Int))).toNat (0 : Int))))) (19 : Nat))) : Int))
   (IntKind.u32.wrap (((wl l x_2).getD (IntKind.i64.wrap ((↑(wl l x_2).length : Int) - (2 : Int))).toNat (0 : Int)).tdiv (1024 : Int))))]).length *
   (4 : Nat) ≤
   (140737488355328 : Nat) ∧
   (1 : Nat) ≠ (0 : Nat) ∧ (1 : Nat) = (1 : Nat)) ∧
   True ∧
   ((sm (AV.row (24 : Nat)) ∧ True) ∧
   (some
   (Blk.row (113 : TypeId)
   (D.ints IntKind.u32
   (wl l x_2 ++
   [IntKind.u32.wrap
   (IntKind.u32.wrap
   (IntKind.u32.wrap ((wl l x_2).getD (IntKind.i64.wrap ((↑(wl l x_2).length : Int) - (16 : Int))).toNat (0 : Int) + (wl l x_2).getD (IntKind.i64.wrap ((↑(wl l x_2).length : Int) - (7 : Int))).toNat (0 : Int)) +
   ixor IntKind.u32
   (ixor IntKind.u32 (↑(BitVec.toNat (rr (toW (D.val (Value.int IntKind.u32 ((wl l x_2).getD (IntKind.i64.wrap ((↑(wl l x_2).length : Int) - (15 : Int))).toNat (0 : Int))))) (7 : Nat))) : Int)
   (↑(BitVec.toNat (rr (toW (D.val (Value.int IntKind.u32 ((wl l x_2).getD (IntKind.i64.wrap ((↑(wl l x_2).length : Int) - (15 : Int))).toNat (0 : Int))))) (18 : Nat))) : Int))
   (IntKind.u32.wrap (((wl l x_2).getD (IntKind.i64.wrap ((↑(wl l x_2).length : Int) - (15 : Int))).toNat (0 : Int)).tdiv (8 : Int)))) +
   ixor IntKind.u32
   (ixor IntKind.u32 (↑(BitVec.toNat (rr (toW (D.val (Value.int IntKind.u32 ((wl l x_2).getD (IntKind.i64.wrap ((↑(wl l x_2).length : Int) - (2 : Int))).toNat (0 : Int))))) (17 : Nat))) : Int)
   (↑(BitVec.toNat (rr (toW (D.val (Value.int IntKind.u32 ((wl l x_2).getD (IntKind.i64.wrap ((↑(wl l x_2).length : Int) - (2 : Int))).toNat (0 : Int))))) (19 : Nat))) : Int))
   (IntKind.u32.wrap (((wl l x_2).getD (IntKind.i64.wrap ((↑(wl l x_2).length : Int) - (2 : Int))).toNat (0 : Int)).tdiv (1024 : Int))))]))) =
   some
   (Blk.row (113 : TypeId)
   (D.ints IntKind.u32
   (wl l
   (wl l x_2 ++
   [IntKind.u32.wrap
   (IntKind.u32.wrap
   (IntKind.u32.wrap ((wl l x_2).getD (IntKind.i64.wrap ((↑(wl l x_2).length : Int) - (16 : Int))).toNat (0 : Int) + (wl l x_2).getD (IntKind.i64.wrap ((↑(wl l x_2).length : Int) - (7 : Int))).toNat (0 : Int)) +
   ixor IntKind.u32
   (ixor IntKind.u32 (↑(BitVec.toNat (rr (toW (D.val (Value.int IntKind.u32 ((wl l x_2).getD (IntKind.i64.wrap ((↑(wl l x_2).length : Int) - (15 : Int))).toNat (0 : Int))))) (7 : Nat))) : Int)
   (↑(BitVec.toNat (rr (toW (D.val (Value.int IntKind.u32 ((wl l x_2).getD (IntKind.i64.wrap ((↑(wl l x_2).length : Int) - (15 : Int))).toNat (0 : Int))))) (18 : Nat))) : Int))
   (IntKind.u32.wrap (((wl l x_2).getD (IntKind.i64.wrap ((↑(wl l x_2).length : Int) - (15 : Int))).toNat (0 : Int)).tdiv (8 : Int)))) +
   ixor IntKind.u32
   (ixor IntKind.u32 (↑(BitVec.toNat (rr (toW (D.val (Value.int IntKind.u32 ((wl l x_2).getD (IntKind.i64.wrap ((↑(wl l x_2).length : Int) - (2 : Int))).toNat (0 : Int))))) (17 : Nat))) : Int)
   (↑(BitVec.toNat (rr (toW (D.val (Value.int IntKind.u32 ((wl l x_2).getD (IntKind.i64.wrap ((↑(wl l x_2).length : Int) - (2 : Int))).toNat (0 : Int))))) (19 : Nat))) : Int))
   (IntKind.u32.wrap (((wl l x_2).getD (IntKind.i64.wrap ((↑(wl l x_2).length : Int) - (2 : Int))).toNat (0 : Int)).tdiv (1024 : Int))))]).length))) ∧
   True) ∧
   true = true) ∧
   ((16 : Nat) ≤
   (wl l x_2 ++
   [IntKind.u32.wrap
   (IntKind.u32.wrap
   (IntKind.u32.wrap ((wl l x_2).getD (IntKind.i64.wrap ((↑(wl l x_2).length : Int) - (16 : Int))).toNat (0 : Int) + (wl l x_2).getD (IntKind.i64.wrap ((↑(wl l x_2).length : Int) - (7 : Int))).toNat (0 : Int)) +
   ixor IntKind.u32
   (ixor IntKind.u32 (↑(BitVec.toNat (rr (toW (D.val (Value.int IntKind.u32 ((wl l x_2).getD (IntKind.i64.wrap ((↑(wl l x_2).length : Int) - (15 : Int))).toNat (0 : Int))))) (7 : Nat))) : Int)
   (↑(BitVec.toNat (rr (toW (D.val (Value.int IntKind.u32 ((wl l x_2).getD (IntKind.i64.wrap ((↑(wl l x_2).length : Int) - (15 : Int))).toNat (0 : Int))))) (18 : Nat))) : Int))
   (IntKind.u32.wrap (((wl l x_2).getD (IntKind.i64.wrap ((↑(wl l x_2).length : Int) - (15 : Int))).toNat (0 : Int)).tdiv (8 : Int)))) +
   ixor IntKind.u32
   (ixor IntKind.u32 (↑(BitVec.toNat (rr (toW (D.val (Value.int IntKind.u32 ((wl l x_2).getD (IntKind.i64.wrap ((↑(wl l x_2).length : Int) - (2 : Int))).toNat (0 : Int))))) (17 : Nat))) : Int)
   (↑(BitVec.toNat (rr (toW (D.val (Value.int IntKind.u32 ((wl l x_2).getD (IntKind.i64.wrap ((↑(wl l x_2).length : Int) - (2 : Int))).toNat (0 : Int))))) (19 : Nat))) : Int))
   (IntKind.u32.wrap (((wl l x_2).getD (IntKind.i64.wrap ((↑(wl l x_2).length : Int) - (2 : Int))).toNat (0 : Int)).tdiv (1024 : Int))))]).length ∧
   (wl l x_2 ++
   [IntKind.u32.wrap
   (IntKind.u32.wrap
   (IntKind.u32.wrap ((wl l x_2).getD (IntKind.i64.wrap ((↑(wl l x_2).length : Int) - (16 : Int))).toNat (0 : Int) + (wl l x_2).getD (IntKind.i64.wrap ((↑(wl l x_2).length : Int) - (7 : Int))).toNat (0 : Int)) +
   ixor IntKind.u32
   (ixor IntKind.u32 (↑(BitVec.toNat (rr (toW (D.val (Value.int IntKind.u32 ((wl l x_2).getD (IntKind.i64.wrap ((↑(wl l x_2).length : Int) - (15 : Int))).toNat (0 : Int))))) (7 : Nat))) : Int)
   (↑(BitVec.toNat (rr (toW (D.val (Value.int IntKind.u32 ((wl l x_2).getD (IntKind.i64.wrap ((↑(wl l x_2).length : Int) - (15 : Int))).toNat (0 : Int))))) (18 : Nat))) : Int))
   (IntKind.u32.wrap (((wl l x_2).getD (IntKind.i64.wrap ((↑(wl l x_2).length : Int) - (15 : Int))).toNat (0 : Int)).tdiv (8 : Int)))) +
   ixor IntKind.u32
   (ixor IntKind.u32 (↑(BitVec.toNat (rr (toW (D.val (Value.int IntKind.u32 ((wl l x_2).getD (IntKind.i64.wrap ((↑(wl l x_2).length : Int) - (2 : Int))).toNat (0 : Int))))) (17 : Nat))) : Int)
   (↑(BitVec.toNat (rr (toW (D.val (Value.int IntKind.u32 ((wl l x_2).getD (IntKind.i64.wrap ((↑(wl l x_2).length : Int) - (2 : Int))).toNat (0 : Int))))) (19 : Nat))) : Int))
   (IntKind.u32.wrap (((wl l x_2).getD (IntKind.i64.wrap ((↑(wl l x_2).length : Int) - (2 : Int))).toNat (0 : Int)).tdiv (1024 : Int))))]).length ≤
   (64 : Nat)) ∧
   (64 : Nat) -
   (wl l x_2 ++
   [IntKind.u32.wrap
   (IntKind.u32.wrap
   (IntKind.u32.wrap ((wl l x_2).getD (IntKind.i64.wrap ((↑(wl l x_2).length : Int) - (16 : Int))).toNat (0 : Int) + (wl l x_2).getD (IntKind.i64.wrap ((↑(wl l x_2).length : Int) - (7 : Int))).toNat (0 : Int)) +
   ixor IntKind.u32
   (ixor IntKind.u32 (↑(BitVec.toNat (rr (toW (D.val (Value.int IntKind.u32 ((wl l x_2).getD (IntKind.i64.wrap ((↑(wl l x_2).length : Int) - (15 : Int))).toNat (0 : Int))))) (7 : Nat))) : Int)
   (↑(BitVec.toNat (rr (toW (D.val (Value.int IntKind.u32 ((wl l x_2).getD (IntKind.i64.wrap ((↑(wl l x_2).length : Int) - (15 : Int))).toNat (0 : Int))))) (18 : Nat))) : Int))
   (IntKind.u32.wrap (((wl l x_2).getD (IntKind.i64.wrap ((↑(wl l x_2).length : Int) - (15 : Int))).toNat (0 : Int)).tdiv (8 : Int)))) +
   ixor IntKind.u32
   (ixor IntKind.u32 (↑(BitVec.toNat (rr (toW (D.val (Value.int IntKind.u32 ((wl l x_2).getD (IntKind.i64.wrap ((↑(wl l x_2).length : Int) - (2 : Int))).toNat (0 : Int))))) (17 : Nat))) : Int)
   (↑(BitVec.toNat (rr (toW (D.val (Value.int IntKind.u32 ((wl l x_2).getD (IntKind.i64.wrap ((↑(wl l x_2).length : Int) - (2 : Int))).toNat (0 : Int))))) (19 : Nat))) : Int))
   (IntKind.u32.wrap (((wl l x_2).getD (IntKind.i64.wrap ((↑(wl l x_2).length : Int) - (2 : Int))).toNat (0 : Int)).tdiv (1024 : Int))))]).length <
   (64 : Nat) - x_2
  | false =>
   True ∧
   ((0 : Int) ≤ (0 : Int) ∧ (0 : Int) < (↑(8 : Nat) : Int) ∧ (1 : Nat) = (1 : Nat)) ∧
   ((1 : Nat) ≠ (0 : Nat) ∧ (1 : Nat) = (1 : Nat) ∧ false = false) ∧
   True ∧
   ((0 : Int) ≤ (1 : Int) ∧ (1 : Int) < (↑(8 : Nat) : Int) ∧ (1 : Nat) = (1 : Nat)) ∧
   ((1 : Nat) ≠ (0 : Nat) ∧ (1 : Nat) = (1 : Nat) ∧ false = false) ∧
   True ∧
   ((0 : Int) ≤ (2 : Int) ∧ (2 : Int) < (↑(8 : Nat) : Int) ∧ (1 : Nat) = (1 : Nat)) ∧
   ((1 : Nat) ≠ (0 : Nat) ∧ (1 : Nat) = (1 : Nat) ∧ false = false) ∧
   True ∧
   ((0 : Int) ≤ (3 : Int) ∧ (3 : Int) < (↑(8 : Nat) : Int) ∧ (1 : Nat) = (1 : Nat)) ∧
   ((1 : Nat) ≠ (0 : Nat) ∧ (1 : Nat) = (1 : Nat) ∧ false = false) ∧
   True ∧
   ((0 : Int) ≤ (4 : Int) ∧ (4 : Int) < (↑(8 : Nat) : Int) ∧ (1 : Nat) = (1 : Nat)) ∧
   ((1 : Nat) ≠ (0 : Nat) ∧ (1 : Nat) = (1 : Nat) ∧ false = false) ∧
   True ∧
   ((0 : Int) ≤ (5 : Int) ∧ (5 : Int) < (↑(8 : Nat) : Int) ∧ (1 : Nat) = (1 : Nat)) ∧
   ((1 : Nat) ≠ (0 : Nat) ∧ (1 : Nat) = (1 : Nat) ∧ false = false) ∧
   True ∧
   ((0 : Int) ≤ (6 : Int) ∧ (6 : Int) < (↑(8 : Nat) : Int) ∧ (1 : Nat) = (1 : Nat)) ∧
   ((1 : Nat) ≠ (0 : Nat) ∧ (1 : Nat) = (1 : Nat) ∧ false = false) ∧
   True ∧
   ((0 : Int) ≤ (7 : Int) ∧ (7 : Int) < (↑(8 : Nat) : Int) ∧ (1 : Nat) = (1 : Nat)) ∧
   ((1 : Nat) ≠ (0 : Nat) ∧ (1 : Nat) = (1 : Nat) ∧ false = false) ∧
   True ∧
   True ∧
   True ∧
   True ∧
   True ∧
   True ∧
   True ∧
   True ∧
   True ∧
   True ∧
   True ∧
   (((sm (AV.d (D.ints IntKind.u32 [(↑(BitVec.toNat x.a) : Int), (↑(BitVec.toNat x.b) : Int), (↑(BitVec.toNat x.c) : Int), (↑(BitVec.toNat x.d) : Int), (↑(BitVec.toNat x.e) : Int), (↑(BitVec.toNat x.f) : Int), (↑(BitVec.toNat x.g) : Int), (↑(BitVec.toNat x.h) : Int)])) ∧
   sm (AV.d (D.str l)) ∧
   sm (AV.d (D.val (Value.slice none (0 : Nat) (0 : Nat)))) ∧
   sm (AV.row (24 : Nat)) ∧
   sm (AV.d (D.val (Value.int IntKind.i64 (↑((4 : Nat) * x_1) : Int)))) ∧
   AV.d (D.val (Value.int IntKind.u32 (↑(BitVec.toNat x.a) : Int))) = AV.d (D.val (Value.int IntKind.u32 (↑(BitVec.toNat (rd x l (Int.toNat (0 : Int))).a) : Int))) ∧
   AV.d (D.val (Value.int IntKind.u32 (↑(BitVec.toNat x.b) : Int))) = AV.d (D.val (Value.int IntKind.u32 (↑(BitVec.toNat (rd x l (Int.toNat (0 : Int))).b) : Int))) ∧
   AV.d (D.val (Value.int IntKind.u32 (↑(BitVec.toNat x.c) : Int))) = AV.d (D.val (Value.int IntKind.u32 (↑(BitVec.toNat (rd x l (Int.toNat (0 : Int))).c) : Int))) ∧
   AV.d (D.val (Value.int IntKind.u32 (↑(BitVec.toNat x.d) : Int))) = AV.d (D.val (Value.int IntKind.u32 (↑(BitVec.toNat (rd x l (Int.toNat (0 : Int))).d) : Int))) ∧
   AV.d (D.val (Value.int IntKind.u32 (↑(BitVec.toNat x.e) : Int))) = AV.d (D.val (Value.int IntKind.u32 (↑(BitVec.toNat (rd x l (Int.toNat (0 : Int))).e) : Int))) ∧
   AV.d (D.val (Value.int IntKind.u32 (↑(BitVec.toNat x.f) : Int))) = AV.d (D.val (Value.int IntKind.u32 (↑(BitVec.toNat (rd x l (Int.toNat (0 : Int))).f) : Int))) ∧
   AV.d (D.val (Value.int IntKind.u32 (↑(BitVec.toNat x.g) : Int))) = AV.d (D.val (Value.int IntKind.u32 (↑(BitVec.toNat (rd x l (Int.toNat (0 : Int))).g) : Int))) ∧
   AV.d (D.val (Value.int IntKind.u32 (↑(BitVec.toNat x.h) : Int))) = AV.d (D.val (Value.int IntKind.u32 (↑(BitVec.toNat (rd x l (Int.toNat (0 : Int))).h) : Int))) ∧
   sm (AV.d (D.val (Value.int IntKind.i64 (↑((4 : Nat) * x_1) : Int)))) ∧
   sm (AV.d (D.val (Value.bool (decide ((↑((4 : Nat) * x_1) : Int) < (64 : Int)))))) ∧
   sm (AV.row (24 : Nat)) ∧
   sm (AV.d (D.val (Value.int IntKind.i64 (↑(wl l x_2).length : Int)))) ∧
   sm (AV.d (D.val (Value.bool (decide ((↑(wl l x_2).length : Int) < (64 : Int)))))) ∧
   sm
   (AV.d
   (D.ints IntKind.u32
   [(↑(BitVec.toNat x.a) : Int), (↑(BitVec.toNat x.b) : Int), (↑(BitVec.toNat x.c) : Int), (↑(BitVec.toNat x.d) : Int), (↑(BitVec.toNat x.e) : Int), (↑(BitVec.toNat x.f) : Int), (↑(BitVec.toNat x.g) : Int), (↑(BitVec.toNat x.h) : Int)])) ∧
   sm (AV.dat (D.val (Value.int IntKind.u32 (↑(BitVec.toNat x.a) : Int)))) ∧
   sm (AV.d (D.val (Value.int IntKind.u32 (↑(BitVec.toNat x.a) : Int)))) ∧
   sm
   (AV.d
   (D.ints IntKind.u32
   [(↑(BitVec.toNat x.a) : Int), (↑(BitVec.toNat x.b) : Int), (↑(BitVec.toNat x.c) : Int), (↑(BitVec.toNat x.d) : Int), (↑(BitVec.toNat x.e) : Int), (↑(BitVec.toNat x.f) : Int), (↑(BitVec.toNat x.g) : Int),
   (↑(BitVec.toNat x.h) : Int)])) ∧
   sm (AV.dat (D.val (Value.int IntKind.u32 (↑(BitVec.toNat x.b) : Int)))) ∧
   sm (AV.d (D.val (Value.int IntKind.u32 (↑(BitVec.toNat x.b) : Int)))) ∧
   sm
   (AV.d
   (D.ints IntKind.u32
   [(↑(BitVec.toNat x.a) : Int), (↑(BitVec.toNat x.b) : Int), (↑(BitVec.toNat x.c) : Int), (↑(BitVec.toNat x.d) : Int), (↑(BitVec.toNat x.e) : Int), (↑(BitVec.toNat x.f) : Int), (↑(BitVec.toNat x.g) : Int),
   (↑(BitVec.toNat x.h) : Int)])) ∧
   sm (AV.dat (D.val (Value.int IntKind.u32 (↑(BitVec.toNat x.c) : Int)))) ∧
   sm (AV.d (D.val (Value.int IntKind.u32 (↑(BitVec.toNat x.c) : Int)))) ∧
   sm
   (AV.d
   (D.ints IntKind.u32
   [(↑(BitVec.toNat x.a) : Int), (↑(BitVec.toNat x.b) : Int), (↑(BitVec.toNat x.c) : Int), (↑(BitVec.toNat x.d) : Int), (↑(BitVec.toNat x.e) : Int), (↑(BitVec.toNat x.f) : Int), (↑(BitVec.toNat x.g) : Int),
   (↑(BitVec.toNat x.h) : Int)])) ∧
   sm (AV.dat (D.val (Value.int IntKind.u32 (↑(BitVec.toNat x.d) : Int)))) ∧
   sm (AV.d (D.val (Value.int IntKind.u32 (↑(BitVec.toNat x.d) : Int)))) ∧
   sm
   (AV.d
   (D.ints IntKind.u32
   [(↑(BitVec.toNat x.a) : Int), (↑(BitVec.toNat x.b) : Int), (↑(BitVec.toNat x.c) : Int), (↑(BitVec.toNat x.d) : Int), (↑(BitVec.toNat x.e) : Int), (↑(BitVec.toNat x.f) : Int), (↑(BitVec.toNat x.g) : Int),
   (↑(BitVec.toNat x.h) : Int)])) ∧
   sm (AV.dat (D.val (Value.int IntKind.u32 (↑(BitVec.toNat x.e) : Int)))) ∧
   sm (AV.d (D.val (Value.int IntKind.u32 (↑(BitVec.toNat x.e) : Int)))) ∧
   sm
   (AV.d
   (D.ints IntKind.u32
   [(↑(BitVec.toNat x.a) : Int), (↑(BitVec.toNat x.b) : Int), (↑(BitVec.toNat x.c) : Int), (↑(BitVec.toNat x.d) : Int), (↑(BitVec.toNat x.e) : Int), (↑(BitVec.toNat x.f) : Int), (↑(BitVec.toNat x.g) : Int),
   (↑(BitVec.toNat x.h) : Int)])) ∧
   sm (AV.dat (D.val (Value.int IntKind.u32 (↑(BitVec.toNat x.f) : Int)))) ∧
   sm (AV.d (D.val (Value.int IntKind.u32 (↑(BitVec.toNat x.f) : Int)))) ∧
   sm
   (AV.d
   (D.ints IntKind.u32
   [(↑(BitVec.toNat x.a) : Int), (↑(BitVec.toNat x.b) : Int), (↑(BitVec.toNat x.c) : Int), (↑(BitVec.toNat x.d) : Int), (↑(BitVec.toNat x.e) : Int), (↑(BitVec.toNat x.f) : Int), (↑(BitVec.toNat x.g) : Int),
   (↑(BitVec.toNat x.h) : Int)])) ∧
   sm (AV.dat (D.val (Value.int IntKind.u32 (↑(BitVec.toNat x.g) : Int)))) ∧
   sm (AV.d (D.val (Value.int IntKind.u32 (↑(BitVec.toNat x.g) : Int)))) ∧
   sm
   (AV.d
   (D.ints IntKind.u32
   [(↑(BitVec.toNat x.a) : Int), (↑(BitVec.toNat x.b) : Int), (↑(BitVec.toNat x.c) : Int), (↑(BitVec.toNat x.d) : Int), (↑(BitVec.toNat x.e) : Int), (↑(BitVec.toNat x.f) : Int),
   (↑(BitVec.toNat x.g) : Int), (↑(BitVec.toNat x.h) : Int)])) ∧
   sm (AV.dat (D.val (Value.int IntKind.u32 (↑(BitVec.toNat x.h) : Int)))) ∧
   sm (AV.d (D.val (Value.int IntKind.u32 (↑(BitVec.toNat x.h) : Int)))) ∧
   sm (AV.row (24 : Nat)) ∧
   sm (AV.d (D.val (Value.int IntKind.i64 (↑(wl l x_2).length : Int)))) ∧ AV.d (D.val (Value.int IntKind.i64 (0 : Int))) = AV.d (D.val (Value.int IntKind.i64 (↑(Int.toNat (0 : Int)) : Int))) ∧ True) ∧
   (sm (some (Blk.row (113 : TypeId) (D.ints IntKind.u32 (wl l x_2)))) ∧ True) ∧ true = true) ∧
   Int.toNat (0 : Int) ≤ (64 : Nat)) ∧
   ∀ (x_3 : Nat),
   x_3 ≤ (64 : Nat) →
   true = true ∧
   True ∧
   match decide ((↑x_3 : Int) < (↑(wl l x_2).length : Int)) with
   | true =>
    True ∧
    ((0 : Int) ≤ (↑x_3 : Int) ∧ (↑x_3 : Int) < (↑(wl l x_2).length : Int) ∧ (1 : Nat) = (1 : Nat)) ∧
    ((↑x_3 : Int).toNat < (wl l x_2).length ∧ (1 : Nat) = (1 : Nat) ∧ false = false) ∧
    True ∧
    True ∧
    True ∧
    True ∧
    (∃ (x_4 : W),
    ∃ (n : Nat),
    [D.val (Value.int IntKind.u32 (↑(BitVec.toNat (rd x l x_3).e) : Int)), D.val (Value.int IntKind.u64 (6 : Int))] = [D.val (Value.int IntKind.u32 (↑(BitVec.toNat x_4) : Int)), D.val (Value.int IntKind.u64 (↑n : Int))] ∧ (1 : Nat) ≤ n ∧ n ≤ (31 : Nat)) ∧
    True ∧
    (∃ (x_4 : W),
    ∃ (n : Nat),
    [D.val (Value.int IntKind.u32 (↑(BitVec.toNat (rd x l x_3).e) : Int)), D.val (Value.int IntKind.u64 (11 : Int))] = [D.val (Value.int IntKind.u32 (↑(BitVec.toNat x_4) : Int)), D.val (Value.int IntKind.u64 (↑n : Int))] ∧ (1 : Nat) ≤ n ∧ n ≤ (31 : Nat)) ∧
    True ∧
    True ∧
    (∃ (x_4 : W),
    ∃ (n : Nat),
    [D.val (Value.int IntKind.u32 (↑(BitVec.toNat (rd x l x_3).e) : Int)), D.val (Value.int IntKind.u64 (25 : Int))] = [D.val (Value.int IntKind.u32 (↑(BitVec.toNat x_4) : Int)), D.val (Value.int IntKind.u64 (↑n : Int))] ∧
    (1 : Nat) ≤ n ∧ n ≤ (31 : Nat)) ∧
    True ∧
    True ∧
    True ∧
    True ∧
    True ∧
    (∃ (x_4 : W),
    ∃ (y : W),
    ∃ (z : W),
    [D.val (Value.int IntKind.u32 (↑(BitVec.toNat (rd x l x_3).e) : Int)), D.val (Value.int IntKind.u32 (↑(BitVec.toNat (rd x l x_3).f) : Int)), D.val (Value.int IntKind.u32 (↑(BitVec.toNat (rd x l x_3).g) : Int))] =
    [D.val (Value.int IntKind.u32 (↑(BitVec.toNat x_4) : Int)), D.val (Value.int IntKind.u32 (↑(BitVec.toNat y) : Int)), D.val (Value.int IntKind.u32 (↑(BitVec.toNat z) : Int))]) ∧
    True ∧
    True ∧
    ((0 : Int) ≤ (↑x_3 : Int) ∧ (↑x_3 : Int) < (↑(64 : Nat) : Int) ∧ (64 : Nat) = (64 : Nat) ∧ (1 : Nat) = (1 : Nat)) ∧
    ((1 : Nat) ≠ (0 : Nat) ∧ (1 : Nat) = (1 : Nat) ∧ false = false) ∧
    True ∧
    True ∧
    True ∧
    True ∧
    True ∧
    (∃ (x_4 : W),
    ∃ (n : Nat),
    [D.val (Value.int IntKind.u32 (↑(BitVec.toNat (rd x l x_3).a) : Int)), D.val (Value.int IntKind.u64 (2 : Int))] =
    [D.val (Value.int IntKind.u32 (↑(BitVec.toNat x_4) : Int)), D.val (Value.int IntKind.u64 (↑n : Int))] ∧
    (1 : Nat) ≤ n ∧ n ≤ (31 : Nat)) ∧
    True ∧
    (∃ (x_4 : W),
    ∃ (n : Nat),
    [D.val (Value.int IntKind.u32 (↑(BitVec.toNat (rd x l x_3).a) : Int)), D.val (Value.int IntKind.u64 (13 : Int))] =
    [D.val (Value.int IntKind.u32 (↑(BitVec.toNat x_4) : Int)), D.val (Value.int IntKind.u64 (↑n : Int))] ∧
    (1 : Nat) ≤ n ∧ n ≤ (31 : Nat)) ∧
    True ∧
    True ∧
    (∃ (x_4 : W),
    ∃ (n : Nat),
    [D.val (Value.int IntKind.u32 (↑(BitVec.toNat (rd x l x_3).a) : Int)), D.val (Value.int IntKind.u64 (22 : Int))] =
    [D.val (Value.int IntKind.u32 (↑(BitVec.toNat x_4) : Int)), D.val (Value.int IntKind.u64 (↑n : Int))] ∧
    (1 : Nat) ≤ n ∧ n ≤ (31 : Nat)) ∧
    True ∧
    True ∧
    True ∧
    True ∧
    (∃ (x_4 : W),
    ∃ (y : W),
    ∃ (z : W),
    [D.val (Value.int IntKind.u32 (↑(BitVec.toNat (rd x l x_3).a) : Int)), D.val (Value.int IntKind.u32 (↑(BitVec.toNat (rd x l x_3).b) : Int)),
    D.val (Value.int IntKind.u32 (↑(BitVec.toNat (rd x l x_3).c) : Int))] =
    [D.val (Value.int IntKind.u32 (↑(BitVec.toNat x_4) : Int)), D.val (Value.int IntKind.u32 (↑(BitVec.toNat y) : Int)), D.val (Value.int IntKind.u32 (↑(BitVec.toNat z) : Int))]) ∧
    True ∧
    True ∧
    True ∧
    True ∧
    True ∧
    True ∧
    True ∧
    True ∧
    True ∧
    True ∧
    True ∧
    True ∧
    True ∧
    True ∧
    True ∧
    True ∧
    True ∧
    True ∧
    True ∧
    True ∧
    True ∧
    True ∧
    True ∧
    True ∧
    ((sm
    (AV.d
    (D.ints IntKind.u32
    [(↑(BitVec.toNat x.a) : Int), (↑(BitVec.toNat x.b) : Int), (↑(BitVec.toNat x.c) : Int), (↑(BitVec.toNat x.d) : Int),
    (↑(BitVec.toNat x.e) : Int), (↑(BitVec.toNat x.f) : Int), (↑(BitVec.toNat x.g) : Int), (↑(BitVec.toNat x.h) : Int)])) ∧
    sm (AV.d (D.str l)) ∧
    sm (AV.d (D.val (Value.slice none (0 : Nat) (0 : Nat)))) ∧
    sm (AV.row (24 : Nat)) ∧
    sm (AV.d (D.val (Value.int IntKind.i64 (↑((4 : Nat) * x_1) : Int)))) ∧
    AV.d
    (D.val
    (Value.int IntKind.u32
    (IntKind.u32.wrap
    (IntKind.u32.wrap
    (IntKind.u32.wrap
    (IntKind.u32.wrap
    (IntKind.u32.wrap
    ((↑(BitVec.toNat (rd x l x_3).h) : Int) +
    ixor IntKind.u32
    (ixor IntKind.u32
    (↑(BitVec.toNat
    (rr (toW (D.val (Value.int IntKind.u32 (↑(BitVec.toNat (rd x l x_3).e) : Int)))) (6 : Nat))) :
    Int)
    (↑(BitVec.toNat
    (rr (toW (D.val (Value.int IntKind.u32 (↑(BitVec.toNat (rd x l x_3).e) : Int)))) (11 : Nat))) :
    Int))
    (↑(BitVec.toNat
    (rr (toW (D.val (Value.int IntKind.u32 (↑(BitVec.toNat (rd x l x_3).e) : Int)))) (25 : Nat))) :
    Int)) +
    (↑(BitVec.toNat
    (chW (toW (D.val (Value.int IntKind.u32 (↑(BitVec.toNat (rd x l x_3).e) : Int))))
    (toW (D.val (Value.int IntKind.u32 (↑(BitVec.toNat (rd x l x_3).f) : Int))))
    (toW (D.val (Value.int IntKind.u32 (↑(BitVec.toNat (rd x l x_3).g) : Int)))))) :
    Int)) +
    gl1.getD (↑x_3 : Int).toNat (0 : Int)) +
    (wl l x_2).getD (↑x_3 : Int).toNat (0 : Int)) +
    IntKind.u32.wrap
    (ixor IntKind.u32
    (ixor IntKind.u32
    (↑(BitVec.toNat (rr (toW (D.val (Value.int IntKind.u32 (↑(BitVec.toNat (rd x l x_3).a) : Int)))) (2 : Nat))) : Int)
    (↑(BitVec.toNat (rr (toW (D.val (Value.int IntKind.u32 (↑(BitVec.toNat (rd x l x_3).a) : Int)))) (13 : Nat))) :
    Int))
    (↑(BitVec.toNat (rr (toW (D.val (Value.int IntKind.u32 (↑(BitVec.toNat (rd x l x_3).a) : Int)))) (22 : Nat))) : Int) +
    (↑(BitVec.toNat
    (mjW (toW (D.val (Value.int IntKind.u32 (↑(BitVec.toNat (rd x l x_3).a) : Int))))
    (toW (D.val (Value.int IntKind.u32 (↑(BitVec.toNat (rd x l x_3).b) : Int))))
    (toW (D.val (Value.int IntKind.u32 (↑(BitVec.toNat (rd x l x_3).c) : Int)))))) :
    Int)))))) =
    AV.d (D.val (Value.int IntKind.u32 (↑(BitVec.toNat (rd x l (IntKind.i64.wrap ((↑x_3 : Int) + (1 : Int))).toNat).a) : Int))) ∧
    AV.d (D.val (Value.int IntKind.u32 (↑(BitVec.toNat (rd x l x_3).a) : Int))) =
    AV.d (D.val (Value.int IntKind.u32 (↑(BitVec.toNat (rd x l (IntKind.i64.wrap ((↑x_3 : Int) + (1 : Int))).toNat).b) : Int))) ∧
    AV.d (D.val (Value.int IntKind.u32 (↑(BitVec.toNat (rd x l x_3).b) : Int))) =
    AV.d (D.val (Value.int IntKind.u32 (↑(BitVec.toNat (rd x l (IntKind.i64.wrap ((↑x_3 : Int) + (1 : Int))).toNat).c) : Int))) ∧
    AV.d (D.val (Value.int IntKind.u32 (↑(BitVec.toNat (rd x l x_3).c) : Int))) =
    AV.d (D.val (Value.int IntKind.u32 (↑(BitVec.toNat (rd x l (IntKind.i64.wrap ((↑x_3 : Int) + (1 : Int))).toNat).d) : Int))) ∧
    AV.d
    (D.val
    (Value.int IntKind.u32
    (IntKind.u32.wrap
    ((↑(BitVec.toNat (rd x l x_3).d) : Int) +
    IntKind.u32.wrap
    (IntKind.u32.wrap
    (IntKind.u32.wrap
    (IntKind.u32.wrap
    ((↑(BitVec.toNat (rd x l x_3).h) : Int) +
    ixor IntKind.u32
    (ixor IntKind.u32
    (↑(BitVec.toNat
    (rr (toW (D.val (Value.int IntKind.u32 (↑(BitVec.toNat (rd x l x_3).e) : Int))))
    (6 : Nat))) :
    Int)
    (↑(BitVec.toNat
    (rr (toW (D.val (Value.int IntKind.u32 (↑(BitVec.toNat (rd x l x_3).e) : Int))))
    (11 : Nat))) :
    Int))
    (↑(BitVec.toNat
    (rr (toW (D.val (Value.int IntKind.u32 (↑(BitVec.toNat (rd x l x_3).e) : Int))))
    (25 : Nat))) :
    Int)) +
    (↑(BitVec.toNat
    (chW (toW (D.val (Value.int IntKind.u32 (↑(BitVec.toNat (rd x l x_3).e) : Int))))
    (toW (D.val (Value.int IntKind.u32 (↑(BitVec.toNat (rd x l x_3).f) : Int))))
    (toW (D.val (Value.int IntKind.u32 (↑(BitVec.toNat (rd x l x_3).g) : Int)))))) :
    Int)) +
    gl1.getD (↑x_3 : Int).toNat (0 : Int)) +
    (wl l x_2).getD (↑x_3 : Int).toNat (0 : Int)))))) =
    AV.d (D.val (Value.int IntKind.u32 (↑(BitVec.toNat (rd x l (IntKind.i64.wrap ((↑x_3 : Int) + (1 : Int))).toNat).e) : Int))) ∧
    AV.d (D.val (Value.int IntKind.u32 (↑(BitVec.toNat (rd x l x_3).e) : Int))) =
    AV.d
    (D.val (Value.int IntKind.u32 (↑(BitVec.toNat (rd x l (IntKind.i64.wrap ((↑x_3 : Int) + (1 : Int))).toNat).f) : Int))) ∧
    AV.d (D.val (Value.int IntKind.u32 (↑(BitVec.toNat (rd x l x_3).f) : Int))) =
    AV.d
    (D.val (Value.int IntKind.u32 (↑(BitVec.toNat (rd x l (IntKind.i64.wrap ((↑x_3 : Int) + (1 : Int))).toNat).g) : Int))) ∧
    AV.d (D.val (Value.int IntKind.u32 (↑(BitVec.toNat (rd x l x_3).g) : Int))) =
    AV.d
    (D.val
    (Value.int IntKind.u32 (↑(BitVec.toNat (rd x l (IntKind.i64.wrap ((↑x_3 : Int) + (1 : Int))).toNat).h) : Int))) ∧
    sm (AV.d (D.val (Value.int IntKind.i64 (↑((4 : Nat) * x_1) : Int)))) ∧
    sm (AV.d (D.val (Value.bool (decide ((↑((4 : Nat) * x_1) : Int) < (64 : Int)))))) ∧
    sm (AV.row (24 : Nat)) ∧
    sm (AV.d (D.val (Value.int IntKind.i64 (↑(wl l x_2).length : Int)))) ∧
    sm (AV.d (D.val (Value.bool (decide ((↑(wl l x_2).length : Int) < (64 : Int)))))) ∧
    sm
    (AV.d
    (D.ints IntKind.u32
    [(↑(BitVec.toNat x.a) : Int), (↑(BitVec.toNat x.b) : Int), (↑(BitVec.toNat x.c) : Int),
    (↑(BitVec.toNat x.d) : Int), (↑(BitVec.toNat x.e) : Int), (↑(BitVec.toNat x.f) : Int),
    (↑(BitVec.toNat x.g) : Int), (↑(BitVec.toNat x.h) : Int)])) ∧
    sm (AV.dat (D.val (Value.int IntKind.u32 (↑(BitVec.toNat x.a) : Int)))) ∧
    sm (AV.d (D.val (Value.int IntKind.u32 (↑(BitVec.toNat x.a) : Int)))) ∧
    sm
    (AV.d
    (D.ints IntKind.u32
    [(↑(BitVec.toNat x.a) : Int), (↑(BitVec.toNat x.b) : Int), (↑(BitVec.toNat x.c) : Int),
    (↑(BitVec.toNat x.d) : Int), (↑(BitVec.toNat x.e) : Int), (↑(BitVec.toNat x.f) : Int),
    (↑(BitVec.toNat x.g) : Int), (↑(BitVec.toNat x.h) : Int)])) ∧
    sm (AV.dat (D.val (Value.int IntKind.u32 (↑(BitVec.toNat x.b) : Int)))) ∧
    sm (AV.d (D.val (Value.int IntKind.u32 (↑(BitVec.toNat x.b) : Int)))) ∧
    sm
    (AV.d
    (D.ints IntKind.u32
    [(↑(BitVec.toNat x.a) : Int), (↑(BitVec.toNat x.b) : Int), (↑(BitVec.toNat x.c) : Int),
    (↑(BitVec.toNat x.d) : Int), (↑(BitVec.toNat x.e) : Int), (↑(BitVec.toNat x.f) : Int),
    (↑(BitVec.toNat x.g) : Int), (↑(BitVec.toNat x.h) : Int)])) ∧
    sm (AV.dat (D.val (Value.int IntKind.u32 (↑(BitVec.toNat x.c) : Int)))) ∧
    sm (AV.d (D.val (Value.int IntKind.u32 (↑(BitVec.toNat x.c) : Int)))) ∧
    sm
    (AV.d
    (D.ints IntKind.u32
    [(↑(BitVec.toNat x.a) : Int), (↑(BitVec.toNat x.b) : Int),
    (↑(BitVec.toNat x.c) : Int), (↑(BitVec.toNat x.d) : Int),
    (↑(BitVec.toNat x.e) : Int), (↑(BitVec.toNat x.f) : Int),
    (↑(BitVec.toNat x.g) : Int), (↑(BitVec.toNat x.h) : Int)])) ∧
    sm (AV.dat (D.val (Value.int IntKind.u32 (↑(BitVec.toNat x.d) : Int)))) ∧
    sm (AV.d (D.val (Value.int IntKind.u32 (↑(BitVec.toNat x.d) : Int)))) ∧
    sm
    (AV.d
    (D.ints IntKind.u32
    [(↑(BitVec.toNat x.a) : Int), (↑(BitVec.toNat x.b) : Int),
    (↑(BitVec.toNat x.c) : Int), (↑(BitVec.toNat x.d) : Int),
    (↑(BitVec.toNat x.e) : Int), (↑(BitVec.toNat x.f) : Int),
    (↑(BitVec.toNat x.g) : Int), (↑(BitVec.toNat x.h) : Int)])) ∧
    sm (AV.dat (D.val (Value.int IntKind.u32 (↑(BitVec.toNat x.e) : Int)))) ∧
    sm (AV.d (D.val (Value.int IntKind.u32 (↑(BitVec.toNat x.e) : Int)))) ∧
    sm
    (AV.d
    (D.ints IntKind.u32
    [(↑(BitVec.toNat x.a) : Int), (↑(BitVec.toNat x.b) : Int),
    (↑(BitVec.toNat x.c) : Int), (↑(BitVec.toNat x.d) : Int),
    (↑(BitVec.toNat x.e) : Int), (↑(BitVec.toNat x.f) : Int),
    (↑(BitVec.toNat x.g) : Int), (↑(BitVec.toNat x.h) : Int)])) ∧
    sm (AV.dat (D.val (Value.int IntKind.u32 (↑(BitVec.toNat x.f) : Int)))) ∧
    sm (AV.d (D.val (Value.int IntKind.u32 (↑(BitVec.toNat x.f) : Int)))) ∧
    sm
    (AV.d
    (D.ints IntKind.u32
    [(↑(BitVec.toNat x.a) : Int), (↑(BitVec.toNat x.b) : Int),
    (↑(BitVec.toNat x.c) : Int), (↑(BitVec.toNat x.d) : Int),
    (↑(BitVec.toNat x.e) : Int), (↑(BitVec.toNat x.f) : Int),
    (↑(BitVec.toNat x.g) : Int), (↑(BitVec.toNat x.h) : Int)])) ∧
    sm (AV.dat (D.val (Value.int IntKind.u32 (↑(BitVec.toNat x.g) : Int)))) ∧
    sm (AV.d (D.val (Value.int IntKind.u32 (↑(BitVec.toNat x.g) : Int)))) ∧
    sm
    (AV.d
    (D.ints IntKind.u32
    [(↑(BitVec.toNat x.a) : Int), (↑(BitVec.toNat x.b) : Int),
    (↑(BitVec.toNat x.c) : Int), (↑(BitVec.toNat x.d) : Int),
    (↑(BitVec.toNat x.e) : Int), (↑(BitVec.toNat x.f) : Int),
    (↑(BitVec.toNat x.g) : Int),
    (↑(BitVec.toNat x.h) : Int)])) ∧
    sm
    (AV.dat
    (D.val (Value.int IntKind.u32 (↑(BitVec.toNat x.h) : Int)))) ∧
    sm
    (AV.d
    (D.val
    (Value.int IntKind.u32 (↑(BitVec.toNat x.h) : Int)))) ∧
    sm (AV.row (24 : Nat)) ∧
    sm
    (AV.d
    (D.val
    (Value.int IntKind.i64 (↑(wl l x_2).length : Int)))) ∧
    AV.d
    (D.val
    (Value.int IntKind.i64
    (IntKind.i64.wrap ((↑x_3 : Int) + (1 : Int))))) =
    AV.d
    (D.val
    (Value.int IntKind.i64
    (↑(IntKind.i64.wrap
    ((↑x_3 : Int) + (1 : Int))).toNat :
    Int))) ∧
    True) ∧
    (sm (some (Blk.row (113 : TypeId) (D.ints IntKind.u32 (wl l x_2)))) ∧ True) ∧ true = true) ∧
    (IntKind.i64.wrap ((↑x_3 : Int) + (1 : Int))).toNat ≤ (64 : Nat) ∧ (64 : Nat) - (IntKind.i64.wrap ((↑x_3 : Int) + (1 : Int))).toNat < (64 : Nat) - x_3
   | false =>
    True ∧
    ((0 : Int) ≤ (0 : Int) ∧ (0 : Int) < (↑(8 : Nat) : Int) ∧ (1 : Nat) = (1 : Nat)) ∧
    ((1 : Nat) ≠ (0 : Nat) ∧ (1 : Nat) = (1 : Nat) ∧ false = false) ∧
    True ∧
    True ∧
    True ∧
    ((0 : Int) ≤ (1 : Int) ∧ (1 : Int) < (↑(8 : Nat) : Int) ∧ (1 : Nat) = (1 : Nat)) ∧
    ((1 : Nat) ≠ (0 : Nat) ∧ (1 : Nat) = (1 : Nat) ∧ false = false) ∧
    True ∧
    True ∧
    True ∧
    ((0 : Int) ≤ (2 : Int) ∧ (2 : Int) < (↑(8 : Nat) : Int) ∧ (1 : Nat) = (1 : Nat)) ∧
    ((1 : Nat) ≠ (0 : Nat) ∧ (1 : Nat) = (1 : Nat) ∧ false = false) ∧
    True ∧
    True ∧
    True ∧
    ((0 : Int) ≤ (3 : Int) ∧ (3 : Int) < (↑(8 : Nat) : Int) ∧ (1 : Nat) = (1 : Nat)) ∧
    ((1 : Nat) ≠ (0 : Nat) ∧ (1 : Nat) = (1 : Nat) ∧ false = false) ∧
    True ∧
    True ∧
    True ∧
    ((0 : Int) ≤ (4 : Int) ∧ (4 : Int) < (↑(8 : Nat) : Int) ∧ (1 : Nat) = (1 : Nat)) ∧
    ((1 : Nat) ≠ (0 : Nat) ∧ (1 : Nat) = (1 : Nat) ∧ false = false) ∧
    True ∧
    True ∧
    True ∧
    ((0 : Int) ≤ (5 : Int) ∧ (5 : Int) < (↑(8 : Nat) : Int) ∧ (1 : Nat) = (1 : Nat)) ∧
    ((1 : Nat) ≠ (0 : Nat) ∧ (1 : Nat) = (1 : Nat) ∧ false = false) ∧
    True ∧
    True ∧
    True ∧
    ((0 : Int) ≤ (6 : Int) ∧ (6 : Int) < (↑(8 : Nat) : Int) ∧ (1 : Nat) = (1 : Nat)) ∧
    ((1 : Nat) ≠ (0 : Nat) ∧ (1 : Nat) = (1 : Nat) ∧ false = false) ∧
    True ∧
    True ∧
    True ∧
    ((0 : Int) ≤ (7 : Int) ∧ (7 : Int) < (↑(8 : Nat) : Int) ∧ (1 : Nat) = (1 : Nat)) ∧
    ((1 : Nat) ≠ (0 : Nat) ∧ (1 : Nat) = (1 : Nat) ∧ false = false) ∧
    True ∧
    True ∧
    ((1 : Nat) = (1 : Nat) ∧ (8 : Nat) ≤ (4096 : Nat)) ∧
    True ∧
    (false = false ∧ True) ∧
    D.ints IntKind.u32
    [IntKind.u32.wrap ((↑(BitVec.toNat x.a) : Int) + (↑(BitVec.toNat (rd x l x_3).a) : Int)), IntKind.u32.wrap ((↑(BitVec.toNat x.b) : Int) + (↑(BitVec.toNat (rd x l x_3).b) : Int)),
    IntKind.u32.wrap ((↑(BitVec.toNat x.c) : Int) + (↑(BitVec.toNat (rd x l x_3).c) : Int)), IntKind.u32.wrap ((↑(BitVec.toNat x.d) : Int) + (↑(BitVec.toNat (rd x l x_3).d) : Int)),
    IntKind.u32.wrap ((↑(BitVec.toNat x.e) : Int) + (↑(BitVec.toNat (rd x l x_3).e) : Int)), IntKind.u32.wrap ((↑(BitVec.toNat x.f) : Int) + (↑(BitVec.toNat (rd x l x_3).f) : Int)),
    IntKind.u32.wrap ((↑(BitVec.toNat x.g) : Int) + (↑(BitVec.toNat (rd x l x_3).g) : Int)), IntKind.u32.wrap ((↑(BitVec.toNat x.h) : Int) + (↑(BitVec.toNat (rd x l x_3).h) : Int))] =
    F) := by kernel_rfl
end Go.Proofs.YtkicjckhkefnpaaDoor
namespace Go.Proofs.YtkicjckhkefnpaaDoor
open Go Go.Vg
theorem mulW (x : W) : IntKind.u32.wrap ((x.toNat : Int) * 256) = ((x * 256).toNat : Int) := by
  rw [w32, BitVec.toNat_mul]
  have : (256 : W).toNat = 256 := rfl
  rw [this]
  omega
theorem bytW {l : List Int} (h : isBytes l) {i : Nat} (hi : i < l.length) : IntKind.u32.wrap (l.getD i 0) = ((BitVec.ofNat 32 (l.getD i 0).toNat).toNat : Int) := by
  obtain ⟨b, e, hb⟩ := byte_at h hi
  rw [e, Int.toNat_natCast, wN32, BitVec.toNat_ofNat]
theorem pw_wat {l : List Int} (h : isBytes l) {i : Nat} (hi : i + 3 < l.length) : pw l i 4 = wat l i := by
  obtain ⟨a, ea, ha⟩ := byte_at h (i := i) (by omega)
  obtain ⟨b, eb, hb⟩ := byte_at h (i := i + 1) (by omega)
  obtain ⟨c, ec, hc⟩ := byte_at h (i := i + 2) (by omega)
  obtain ⟨d, ed, hd⟩ := byte_at h (i := i + 3) (by omega)
  unfold wat
  simp only [pw, Nat.add_zero]
  rw [ea, eb, ec, ed]
  unfold w4
  simp only [Int.toNat_natCast]
  apply BitVec.eq_of_toNat_eq
  have h256 : (256 : W).toNat = 256 := rfl
  simp only [BitVec.toNat_add, BitVec.toNat_mul, BitVec.toNat_ofNat, h256]
  simp only [show (2 : Nat) ^ 32 = 4294967296 from rfl]
  omega
theorem quoW (x : W) (k : Nat) (hk : k ≤ 32) : IntKind.u32.wrap (((x.toNat : Nat) : Int).tdiv ((2 ^ k : Nat) : Int)) = ((x >>> k).toNat : Int) := by
  have hx := x.isLt
  have : x.toNat / 2 ^ k < 4294967296 := Nat.lt_of_le_of_lt (Nat.div_le_self _ _) hx
  rw [tdivN, wrapN .u32 (show _ < 4294967296 from this), BitVec.toNat_ushiftRight, Nat.shiftRight_eq_div_pow]
theorem quo8 (x : W) : IntKind.u32.wrap (((x.toNat : Nat) : Int).tdiv 8) = ((x >>> 3).toNat : Int) := quoW x 3 (by decide)
theorem quo1024 (x : W) : IntKind.u32.wrap (((x.toNat : Nat) : Int).tdiv 1024) = ((x >>> 10).toNat : Int) := quoW x 10 (by decide)
theorem sched (a b c d : W) : ((a + b) + c) + d = ((a + c) + b) + d := by
  rw [BitVec.add_assoc a b c, BitVec.add_comm b c, ← BitVec.add_assoc]
theorem wl_get' (l : List Int) {n j : Nat} (h : j < n) : (wl l n).getD j 0 = ((wn l j).toNat : Int) := by
  have := wl_get l h []
  rwa [List.append_nil] at this
set_option maxRecDepth 100000 in
theorem m128 : Meets Tryd.prog 128 sp128 := by
  refine meets_of_owed (C := c128) ⟨tab_ok, lkS_ok ⟨m133, m134, m135, trivial⟩⟩ (by kernel_rfl) (by kernel_rfl : Tryd.prog.funcs[128]? = some Tryd.f128) (by kernel_rfl) (by kernel_rfl) (by kernel_rfl) _ ?_
  rintro _ ⟨x, l, rfl, hb, hl⟩
  refine ⟨(fun h => by cases h), inv128 x l, ?_⟩
  show owed c128 (inv128 x l) Tryd.f128 [.ints .u32 x.l, .str l] (.ints .u32 (prL x.l l))
  unfold prL
  rw [vc128, ofR_l]
  have hw0 : wl l (0 / 4) = [] := rfl
  have hp0 : ∀ i, pw l i 0 = 0 := fun _ => rfl
  have hz : ((BitVec.toNat (0 : W) : Nat) : Int) = 0 := rfl
  have hr0 : rd x l 0 = x := rfl
  simp (decide := true) only [eq_self, true_and, and_true, ne_eq, not_false_eq_true, Int.toNat_natCast, hw0, hp0, hz, Int.toNat_zero, hr0]
  refine ⟨by and_intros <;> first | rfl | omega | decide | trivial, fun i hi => ?_⟩
  split
  · rename_i h
    have h : i < 16 := by have := of_decide_eq_true h; omega
    refine ⟨by and_intros <;> first | rfl | omega | decide | trivial, ?_⟩
    rintro ⟨k, at_⟩ ⟨hk, hat⟩
    simp only at hk hat ⊢
    obtain rfl : at_ = 4 * i := by omega
    split
    · rename_i h2
      have h2 : k < 4 := by have := of_decide_eq_true h2; omega
      have e1 : IntKind.i64.wrap (((4 * i : Nat) : Int) + (k : Int)) = ((4 * i + k : Nat) : Int) := by rw [wi (by omega) (by omega)]; omega
      have e2 : IntKind.i64.wrap ((k : Int) + 1) = ((k + 1 : Nat) : Int) := by rw [wi (by omega) (by omega)]; omega
      simp only [e1, e2, Int.toNat_natCast, mulW, bytW hb (i := 4 * i + k) (by omega), addW]
      and_intros <;> first | rfl | omega | trivial
    · rename_i h2
      obtain rfl : k = 4 := by have := of_decide_eq_false h2; omega
      have e4 : IntKind.i64.wrap (((4 * i : Nat) : Int) + 4) = ((4 * i + 4 : Nat) : Int) := by rw [wi (by omega) (by omega)]; omega
      rw [e4, Int.toNat_natCast, show (4 * i + 4) / 4 = i + 1 by omega, pw_wat hb (by omega), ← wn_lo l h, ← wl_succ, wl_len]
      and_intros <;> first | rfl | omega | trivial
  · rename_i h
    obtain rfl : i = 16 := by have := of_decide_eq_false h; omega
    simp only [wl_len]
    refine ⟨by and_intros <;> first | rfl | omega | decide | trivial, ?_⟩
    rintro n ⟨hn, hn2⟩
    split
    · rename_i h
      have h : n < 64 := by have := of_decide_eq_true h; omega
      have e15 : IntKind.i64.wrap ((n : Int) - 15) = ((n - 15 : Nat) : Int) := by rw [wi (by omega) (by omega)]; omega
      have e16 : IntKind.i64.wrap ((n : Int) - 16) = ((n - 16 : Nat) : Int) := by rw [wi (by omega) (by omega)]; omega
      have e7 : IntKind.i64.wrap ((n : Int) - 7) = ((n - 7 : Nat) : Int) := by rw [wi (by omega) (by omega)]; omega
      have e2 : IntKind.i64.wrap ((n : Int) - 2) = ((n - 2 : Nat) : Int) := by rw [wi (by omega) (by omega)]; omega
      have g15 := wl_get' l (n := n) (j := n - 15) (by omega)
      have g16 := wl_get' l (n := n) (j := n - 16) (by omega)
      have g7 := wl_get' l (n := n) (j := n - 7) (by omega)
      have g2 := wl_get' l (n := n) (j := n - 2) (by omega)
      have hs : wn l (n - 16) + wn l (n - 7) + sA (wn l (n - 15)) + sB (wn l (n - 2)) = wn l n := by rw [sched, ← wn_hi l hn]
      simp only [e15, e16, e7, e2, Int.toNat_natCast, g15, g16, g7, g2, toW_wd, xorW, quo8, quo1024, addW, fA, fB, hs, ← wl_succ, wl_len]
      and_intros <;> first | exact trivial | rfl | omega | exact ⟨_, 7, rfl, by decide, by decide⟩ | exact ⟨_, 18, rfl, by decide, by decide⟩ | exact ⟨_, 17, rfl, by decide, by decide⟩ | exact ⟨_, 19, rfl, by decide, by decide⟩
    · rename_i h
      obtain rfl : n = 64 := by have := of_decide_eq_false h; omega
      refine ⟨by and_intros <;> first | rfl | omega | decide | trivial, fun t ht => ?_⟩
      split
      · rename_i h
        have h : t < 64 := by have := of_decide_eq_true h; omega
        have ew : IntKind.i64.wrap ((t : Int) + 1) = ((t + 1 : Nat) : Int) := by rw [wi (by omega) (by omega)]; omega
        have gt := wl_get' l (n := 64) (j := t) h
        simp only [ew, Int.toNat_natCast, gt, gl_ok.2.2, kW_eq h, toW_wd, xorW, addW, fC, fD, rd_succ]
        and_intros <;> first | exact trivial | rfl | omega | exact ⟨_, 6, rfl, by decide, by decide⟩ | exact ⟨_, 11, rfl, by decide, by decide⟩ | exact ⟨_, 25, rfl, by decide, by decide⟩ | exact ⟨_, 2, rfl, by decide, by decide⟩ | exact ⟨_, 13, rfl, by decide, by decide⟩ | exact ⟨_, 22, rfl, by decide, by decide⟩ | exact ⟨_, _, _, rfl⟩
      · rename_i h
        obtain rfl : t = 64 := by have := of_decide_eq_false h; omega
        simp only [addW]
        and_intros <;> first | exact trivial | rfl | omega
end Go.Proofs.YtkicjckhkefnpaaDoor
namespace Go.Proofs.YtkicjckhkefnpaaDoor
open Go Go.Vg
structure HS where
  h : R8
  n : Nat
  l : List Int
abbrev stD (s : HS) : D := .st [a8 s.h.l, .val (.int .u64 (s.n : Int)), .arr .u8 64 s.l]
def stp (s : HS) (b : Int) : HS :=
  let l' := s.l.set (s.n % 64) b
  let n' := (s.n + 1) % 18446744073709551616
  if n' % 64 = 0 then ⟨pr s.h l', n', l'⟩ else ⟨s.h, n', l'⟩
def wrS (s : HS) (p : List Int) : HS := p.foldl stp s
def ofS (d : D) : HS := ⟨ofR (arrOf (fldOf d 0)), (numOf (fldOf d 1)).toNat, arrOf (fldOf d 2)⟩
def okS (s : HS) : Prop := s.l.length = 64 ∧ isBytes s.l ∧ s.n < 18446744073709551616
def sp76 : Go.Vg.Spec := ⟨fun ds => ∃ s p, ds = [stD s, .ints .u8 p] ∧ okS s ∧ isBytes p ∧ p.length ≤ 1000000000000000, fun ds => stD (wrS (ofS (ds.headD default)) (intsOf (ds.getD 1 default))), true, [117, 26]⟩
def zc (n : Nat) : Nat := (119 - n % 64) % 64
def tl (b : Nat) : Nat → List Int
  | 0 => []
  | k + 1 => ((b / 256 ^ k % 256 : Nat) : Int) :: tl b k
def padL (n : Nat) : List Int := 128 :: (List.replicate (zc n) 0 ++ tl (8 * n % 18446744073709551616) 8)
def sp118 : Go.Vg.Spec := ⟨fun ds => ∃ n, ds = [.val (.int .u64 ((n : Nat) : Int))] ∧ n < 18446744073709551616, fun ds => .ints .u8 (padL (numOf (ds.headD default)).toNat), false, [73]⟩
def sp127 : Go.Vg.Spec := ⟨fun ds => ∃ n, ds = [.val (.int .u64 ((n : Nat) : Int))] ∧ n < 18446744073709551616, fun ds => .str (padL (numOf (ds.headD default)).toNat), true, [73]⟩
def c76 : Ctx := ⟨tab, lkS [(117, sp117)], [], []⟩
def c118 : Ctx := ⟨tab, fun _ => none, [5], []⟩
def inv76 (s : HS) (p : List Int) : Nat → Option Inv
  | 2 => some ⟨Nat, fun i => [(9, .d (i64 i))], fun i => [(2, .fix (stD (wrS s (p.take i))))], fun s => (slotN s 9).toNat, fun _ i => i ≤ p.length, fun i => p.length - i⟩
  | _ => none
def pz (n i : Nat) : List Int := 128 :: List.replicate i 0
def pt (n i : Nat) : List Int := 128 :: (List.replicate (zc n) 0 ++ (tl (8 * n % 18446744073709551616) 8).take i)
def inv118 (n : Nat) : Nat → Option Inv
  | 2 => some ⟨Nat, fun _ => [(3, .row 5), (5, .any)], fun i => [(5, .row 5 (.ints .u8 (pz n i)))], fun s => (rowD s 5).length - 1, fun _ i => i ≤ zc n, fun i => zc n - i⟩
  | 5 => some ⟨Nat, fun i => [(16, .d (i64 i)), (3, .row 5), (7, .any)], fun i => [(5, .row 5 (.ints .u8 (pt n i)))], fun s => (slotN s 16).toNat, fun _ i => i ≤ 8, fun i => 8 - i⟩
  | _ => none
def inv127 (n : Nat) : Nat → Option Inv
  | 3 => some ⟨Nat, fun i => [(3, .d (.str (pz n i)))], fun _ => [], fun s => (strOf (slotD s 3)).length - 1, fun _ i => i ≤ zc n, fun i => zc n - i⟩
  | 8 => some ⟨Nat, fun i => [(21, .d (i64 i)), (5, .d (.val (.int .u64 ((8 * n % 18446744073709551616 / 256 ^ i : Nat) : Int)))), (6, .d (.str (tl (8 * n % 18446744073709551616) i)))], fun _ => [], fun s => (slotN s 21).toNat, fun _ i => i ≤ 8, fun i => 8 - i⟩
  | _ => none
--KEEP BitVec.toNat prL pr R8.l wrS ofS okS padL zc tl pz pt
set_option maxRecDepth 100000 in
theorem vc76  (s : HS) (p : List Int) (F : D)  :
    (owed c76 (inv76 s p) Tryd.f76 [stD s, .ints .u8 p] F) = (
 (True ∧ false = false) ∧
 (True ∧ (73 : Nat) ≠ (0 : Nat)) ∧
 True ∧
 True ∧
 True ∧
 (((AV.d (D.val (Value.int IntKind.i64 (0 : Int))) = AV.d (D.val (Value.int IntKind.i64 (↑(Int.toNat (0 : Int)) : Int))) ∧ True) ∧
 (some (Blk.fix (D.st [D.arr IntKind.u32 (8 : Nat) [(↑(BitVec.toNat s.h.a) : Int), (↑(BitVec.toNat s.h.b) : Int), (↑(BitVec.toNat s.h.c) : Int), (↑(BitVec.toNat s.h.d) : Int), (↑(BitVec.toNat s.h.e) : Int), (↑(BitVec.toNat s.h.f) : Int), (↑(BitVec.toNat s.h.g) : Int), (↑(BitVec.toNat s.h.h) : Int)], D.val (Value.int IntKind.u64 (↑s.n : Int)), D.arr IntKind.u8 (64 : Nat) s.l])) =
 some
 (Blk.fix
 (D.st
 [D.arr IntKind.u32 (8 : Nat)
 [(↑(BitVec.toNat (wrS s (List.take (Int.toNat (0 : Int)) p)).h.a) : Int), (↑(BitVec.toNat (wrS s (List.take (Int.toNat (0 : Int)) p)).h.b) : Int), (↑(BitVec.toNat (wrS s (List.take (Int.toNat (0 : Int)) p)).h.c) : Int), (↑(BitVec.toNat (wrS s (List.take (Int.toNat (0 : Int)) p)).h.d) : Int), (↑(BitVec.toNat (wrS s (List.take (Int.toNat (0 : Int)) p)).h.e) : Int),
 (↑(BitVec.toNat (wrS s (List.take (Int.toNat (0 : Int)) p)).h.f) : Int), (↑(BitVec.toNat (wrS s (List.take (Int.toNat (0 : Int)) p)).h.g) : Int), (↑(BitVec.toNat (wrS s (List.take (Int.toNat (0 : Int)) p)).h.h) : Int)],
 D.val (Value.int IntKind.u64 (↑(wrS s (List.take (Int.toNat (0 : Int)) p)).n : Int)), D.arr IntKind.u8 (64 : Nat) (wrS s (List.take (Int.toNat (0 : Int)) p)).l])) ∧
 sm
 (some
 (Blk.fix
 (D.st
 [D.arr IntKind.u32 (8 : Nat) [(0 : Int), (0 : Int), (0 : Int), (0 : Int), (0 : Int), (0 : Int), (0 : Int), (0 : Int)], D.val (Value.int IntKind.u64 (0 : Int)),
 D.arr IntKind.u8 (64 : Nat)
 (List.replicate (64 : Nat) (0 : Int))]))) ∧
 True) ∧
 true = true) ∧
 Int.toNat (0 : Int) ≤ p.length) ∧
 ∀ (x : Nat),
 x ≤ p.length →
 true = true ∧
 True ∧
 match decide ((↑x : Int) < (↑p.length : Int)) with
 | true =>
  ((0 : Int) ≤ (↑x : Int) ∧ (↑x : Int) < (↑p.length : Int) ∧ (1 : Nat) = (1 : Nat)) ∧
  ((1 : Nat) ≠ (0 : Nat) ∧ (1 : Nat) = (1 : Nat) ∧ false = false) ∧
  True ∧
  (Sk.st [Sk.arr (8 : Nat), Sk.one, Sk.arr (64 : Nat)] = Sk.st [Sk.arr (8 : Nat), Sk.one, Sk.arr (64 : Nat)] ∧ (1 : Nat) < (3 : Nat)) ∧
  ((1 : Nat) ≠ (0 : Nat) ∧ (1 : Nat) = (1 : Nat) ∧ false = false) ∧
  (64 : Int) ≠ (0 : Int) ∧
  True ∧
  (Sk.st [Sk.arr (8 : Nat), Sk.one, Sk.arr (64 : Nat)] = Sk.st [Sk.arr (8 : Nat), Sk.one, Sk.arr (64 : Nat)] ∧ (2 : Nat) < (3 : Nat)) ∧
  ((0 : Int) ≤ (↑(wrS s (List.take x p)).n : Int).tmod (64 : Int) ∧ (↑(wrS s (List.take x p)).n : Int).tmod (64 : Int) < (↑(64 : Nat) : Int) ∧ (64 : Nat) = (64 : Nat) ∧ (1 : Nat) = (1 : Nat)) ∧
  (((2 : Nat) < (3 : Nat) ∧ ((↑(wrS s (List.take x p)).n : Int).tmod (64 : Int)).toNat < (64 : Nat) ∧ ([] : List Nat) = [] ∧ true = true) ∧ (1 : Nat) ≠ (0 : Nat) ∧ (1 : Nat) = (1 : Nat) ∧ false = false) ∧
  (Sk.st [Sk.arr (8 : Nat), Sk.one, Sk.arr (64 : Nat)] = Sk.st [Sk.arr (8 : Nat), Sk.one, Sk.arr (64 : Nat)] ∧ (1 : Nat) < (3 : Nat)) ∧
  ((1 : Nat) ≠ (0 : Nat) ∧ (1 : Nat) = (1 : Nat) ∧ false = false) ∧
  True ∧
  (Sk.st [Sk.arr (8 : Nat), Sk.one, Sk.arr (64 : Nat)] = Sk.st [Sk.arr (8 : Nat), Sk.one, Sk.arr (64 : Nat)] ∧ (1 : Nat) < (3 : Nat)) ∧
  (((1 : Nat) < (3 : Nat) ∧ Sk.one = Sk.one) ∧ (1 : Nat) ≠ (0 : Nat) ∧ (1 : Nat) = (1 : Nat) ∧ false = false) ∧
  (Sk.st [Sk.arr (8 : Nat), Sk.one, Sk.arr (64 : Nat)] = Sk.st [Sk.arr (8 : Nat), Sk.one, Sk.arr (64 : Nat)] ∧ (1 : Nat) < (3 : Nat)) ∧
  ((1 : Nat) ≠ (0 : Nat) ∧ (1 : Nat) = (1 : Nat) ∧ false = false) ∧
  (64 : Int) ≠ (0 : Int) ∧
  True ∧
  match (IntKind.u64.wrap ((↑(wrS s (List.take x p)).n : Int) + (1 : Int))).tmod (64 : Int) == (0 : Int) with
  | true =>
   (Sk.st [Sk.arr (8 : Nat), Sk.one, Sk.arr (64 : Nat)] = Sk.st [Sk.arr (8 : Nat), Sk.one, Sk.arr (64 : Nat)] ∧ (0 : Nat) < (3 : Nat)) ∧
   ((8 : Nat) ≠ (0 : Nat) ∧ (8 : Nat) = (8 : Nat) ∧ true = true) ∧
   (Sk.st [Sk.arr (8 : Nat), Sk.one, Sk.arr (64 : Nat)] = Sk.st [Sk.arr (8 : Nat), Sk.one, Sk.arr (64 : Nat)] ∧ (2 : Nat) < (3 : Nat)) ∧
   ((64 : Nat) ≠ (0 : Nat) ∧ (64 : Nat) = (64 : Nat) ∧ true = true) ∧
   (∃ (x_1 : R8),
   ∃ (l : List Int),
   [D.arr IntKind.u32 (8 : Nat)
   [(↑(BitVec.toNat (wrS s (List.take x p)).h.a) : Int), (↑(BitVec.toNat (wrS s (List.take x p)).h.b) : Int), (↑(BitVec.toNat (wrS s (List.take x p)).h.c) : Int), (↑(BitVec.toNat (wrS s (List.take x p)).h.d) : Int), (↑(BitVec.toNat (wrS s (List.take x p)).h.e) : Int),
   (↑(BitVec.toNat (wrS s (List.take x p)).h.f) : Int), (↑(BitVec.toNat (wrS s (List.take x p)).h.g) : Int), (↑(BitVec.toNat (wrS s (List.take x p)).h.h) : Int)],
   D.arr IntKind.u8 (64 : Nat) ((wrS s (List.take x p)).l.set ((↑(wrS s (List.take x p)).n : Int).tmod (64 : Int)).toNat (p.getD (↑x : Int).toNat (0 : Int)))] =
   [D.arr IntKind.u32 (8 : Nat) [(↑(BitVec.toNat x_1.a) : Int), (↑(BitVec.toNat x_1.b) : Int), (↑(BitVec.toNat x_1.c) : Int), (↑(BitVec.toNat x_1.d) : Int), (↑(BitVec.toNat x_1.e) : Int), (↑(BitVec.toNat x_1.f) : Int), (↑(BitVec.toNat x_1.g) : Int), (↑(BitVec.toNat x_1.h) : Int)], D.arr IntKind.u8 (64 : Nat) l] ∧
   isBytes l ∧ l.length = (64 : Nat)) ∧
   (Sk.st [Sk.arr (8 : Nat), Sk.one, Sk.arr (64 : Nat)] = Sk.st [Sk.arr (8 : Nat), Sk.one, Sk.arr (64 : Nat)] ∧ (0 : Nat) < (3 : Nat)) ∧
   (((0 : Nat) < (3 : Nat) ∧ Sk.arr (8 : Nat) = Sk.arr (8 : Nat)) ∧ (8 : Nat) ≠ (0 : Nat) ∧ (8 : Nat) = (8 : Nat) ∧ false = false) ∧
   True ∧
   True ∧
   ((AV.d (D.val (Value.int IntKind.i64 (IntKind.i64.wrap ((↑x : Int) + (1 : Int))))) = AV.d (D.val (Value.int IntKind.i64 (↑(IntKind.i64.wrap ((↑x : Int) + (1 : Int))).toNat : Int))) ∧ True) ∧
   (some
   (Blk.fix
   (D.st
   [D.arr IntKind.u32 (8 : Nat)
   (prL
   [(↑(BitVec.toNat (wrS s (List.take x p)).h.a) : Int), (↑(BitVec.toNat (wrS s (List.take x p)).h.b) : Int), (↑(BitVec.toNat (wrS s (List.take x p)).h.c) : Int), (↑(BitVec.toNat (wrS s (List.take x p)).h.d) : Int), (↑(BitVec.toNat (wrS s (List.take x p)).h.e) : Int),
   (↑(BitVec.toNat (wrS s (List.take x p)).h.f) : Int), (↑(BitVec.toNat (wrS s (List.take x p)).h.g) : Int), (↑(BitVec.toNat (wrS s (List.take x p)).h.h) : Int)]
   ((wrS s (List.take x p)).l.set ((↑(wrS s (List.take x p)).n : Int).tmod (64 : Int)).toNat (p.getD (↑x : Int).toNat (0 : Int)))),
   D.val (Value.int IntKind.u64 (IntKind.u64.wrap ((↑(wrS s (List.take x p)).n : Int) + (1 : Int)))), D.arr IntKind.u8 (64 : Nat) ((wrS s (List.take x p)).l.set ((↑(wrS s (List.take x p)).n : Int).tmod (64 : Int)).toNat (p.getD (↑x : Int).toNat (0 : Int)))])) =
   some
   (Blk.fix
   (D.st
   [D.arr IntKind.u32 (8 : Nat)
   [(↑(BitVec.toNat (wrS s (List.take (IntKind.i64.wrap ((↑x : Int) + (1 : Int))).toNat p)).h.a) : Int), (↑(BitVec.toNat (wrS s (List.take (IntKind.i64.wrap ((↑x : Int) + (1 : Int))).toNat p)).h.b) : Int),
   (↑(BitVec.toNat (wrS s (List.take (IntKind.i64.wrap ((↑x : Int) + (1 : Int))).toNat p)).h.c) : Int), (↑(BitVec.toNat (wrS s (List.take (IntKind.i64.wrap ((↑x : Int) + (1 : Int))).toNat p)).h.d) : Int),
   (↑(BitVec.toNat (wrS s (List.take (IntKind.i64.wrap ((↑x : Int) + (1 : Int))).toNat p)).h.e) : Int), (↑(BitVec.toNat (wrS s (List.take (IntKind.i64.wrap ((↑x : Int) + (1 : Int))).toNat p)).h.f) : Int),
   (↑(BitVec.toNat (wrS s (List.take (IntKind.i64.wrap ((↑x : Int) + (1 : Int))).toNat p)).h.g) : Int), (↑(BitVec.toNat (wrS s (List.take (IntKind.i64.wrap ((↑x : Int) + (1 : Int))).toNat p)).h.h) : Int)],
   D.val (Value.int IntKind.u64 (↑(wrS s (List.take (IntKind.i64.wrap ((↑x : Int) + (1 : Int))).toNat p)).n : Int)), D.arr IntKind.u8 (64 : Nat) (wrS s (List.take (IntKind.i64.wrap ((↑x : Int) + (1 : Int))).toNat p)).l])) ∧
   sm
   (some
   (Blk.fix
   (D.st
   [D.arr IntKind.u32 (8 : Nat) [(0 : Int), (0 : Int), (0 : Int), (0 : Int), (0 : Int), (0 : Int), (0 : Int), (0 : Int)], D.val (Value.int IntKind.u64 (0 : Int)),
   D.arr IntKind.u8 (64 : Nat)
   (List.replicate (64 : Nat) (0 : Int))]))) ∧
   True) ∧
   true = true) ∧
   (IntKind.i64.wrap ((↑x : Int) + (1 : Int))).toNat ≤ p.length ∧ p.length - (IntKind.i64.wrap ((↑x : Int) + (1 : Int))).toNat < p.length - x
  | false =>
   True ∧
   True ∧
   ((AV.d (D.val (Value.int IntKind.i64 (IntKind.i64.wrap ((↑x : Int) + (1 : Int))))) = AV.d (D.val (Value.int IntKind.i64 (↑(IntKind.i64.wrap ((↑x : Int) + (1 : Int))).toNat : Int))) ∧ True) ∧
   (some
   (Blk.fix
   (D.st
   [D.arr IntKind.u32 (8 : Nat)
   [(↑(BitVec.toNat (wrS s (List.take x p)).h.a) : Int), (↑(BitVec.toNat (wrS s (List.take x p)).h.b) : Int), (↑(BitVec.toNat (wrS s (List.take x p)).h.c) : Int), (↑(BitVec.toNat (wrS s (List.take x p)).h.d) : Int), (↑(BitVec.toNat (wrS s (List.take x p)).h.e) : Int),
   (↑(BitVec.toNat (wrS s (List.take x p)).h.f) : Int), (↑(BitVec.toNat (wrS s (List.take x p)).h.g) : Int), (↑(BitVec.toNat (wrS s (List.take x p)).h.h) : Int)],
   D.val (Value.int IntKind.u64 (IntKind.u64.wrap ((↑(wrS s (List.take x p)).n : Int) + (1 : Int)))), D.arr IntKind.u8 (64 : Nat) ((wrS s (List.take x p)).l.set ((↑(wrS s (List.take x p)).n : Int).tmod (64 : Int)).toNat (p.getD (↑x : Int).toNat (0 : Int)))])) =
   some
   (Blk.fix
   (D.st
   [D.arr IntKind.u32 (8 : Nat)
   [(↑(BitVec.toNat (wrS s (List.take (IntKind.i64.wrap ((↑x : Int) + (1 : Int))).toNat p)).h.a) : Int), (↑(BitVec.toNat (wrS s (List.take (IntKind.i64.wrap ((↑x : Int) + (1 : Int))).toNat p)).h.b) : Int), (↑(BitVec.toNat (wrS s (List.take (IntKind.i64.wrap ((↑x : Int) + (1 : Int))).toNat p)).h.c) : Int),
   (↑(BitVec.toNat (wrS s (List.take (IntKind.i64.wrap ((↑x : Int) + (1 : Int))).toNat p)).h.d) : Int), (↑(BitVec.toNat (wrS s (List.take (IntKind.i64.wrap ((↑x : Int) + (1 : Int))).toNat p)).h.e) : Int), (↑(BitVec.toNat (wrS s (List.take (IntKind.i64.wrap ((↑x : Int) + (1 : Int))).toNat p)).h.f) : Int),
   (↑(BitVec.toNat (wrS s (List.take (IntKind.i64.wrap ((↑x : Int) + (1 : Int))).toNat p)).h.g) : Int), (↑(BitVec.toNat (wrS s (List.take (IntKind.i64.wrap ((↑x : Int) + (1 : Int))).toNat p)).h.h) : Int)],
   D.val (Value.int IntKind.u64 (↑(wrS s (List.take (IntKind.i64.wrap ((↑x : Int) + (1 : Int))).toNat p)).n : Int)), D.arr IntKind.u8 (64 : Nat) (wrS s (List.take (IntKind.i64.wrap ((↑x : Int) + (1 : Int))).toNat p)).l])) ∧
   sm
   (some
   (Blk.fix
   (D.st
   [D.arr IntKind.u32 (8 : Nat) [(0 : Int), (0 : Int), (0 : Int), (0 : Int), (0 : Int), (0 : Int), (0 : Int), (0 : Int)], D.val (Value.int IntKind.u64 (0 : Int)),
   D.arr IntKind.u8 (64 : Nat)
   (List.replicate (64 : Nat) (0 : Int))]))) ∧
   True) ∧
   true = true) ∧
   (IntKind.i64.wrap ((↑x : Int) + (1 : Int))).toNat ≤ p.length ∧ p.length - (IntKind.i64.wrap ((↑x : Int) + (1 : Int))).toNat < p.length - x
 | false =>
  ((73 : Nat) ≠ (0 : Nat) ∧ (73 : Nat) = (73 : Nat) ∧ true = true) ∧
  (Sk.st [Sk.arr (8 : Nat), Sk.one, Sk.arr (64 : Nat)] = Sk.st [Sk.arr (8 : Nat), Sk.one, Sk.arr (64 : Nat)] ∧ (73 : Nat) ≠ (0 : Nat) ∧ (73 : Nat) = (73 : Nat) ∧ false = false) ∧
  (((73 : Nat) ≠ (0 : Nat) ∧ (73 : Nat) = (73 : Nat) ∧ true = true) ∧ True) ∧
  D.st
  [D.arr IntKind.u32 (8 : Nat)
  [(↑(BitVec.toNat (wrS s (List.take x p)).h.a) : Int), (↑(BitVec.toNat (wrS s (List.take x p)).h.b) : Int), (↑(BitVec.toNat (wrS s (List.take x p)).h.c) : Int), (↑(BitVec.toNat (wrS s (List.take x p)).h.d) : Int), (↑(BitVec.toNat (wrS s (List.take x p)).h.e) : Int), (↑(BitVec.toNat (wrS s (List.take x p)).h.f) : Int),
  (↑(BitVec.toNat (wrS s (List.take x p)).h.g) : Int), (↑(BitVec.toNat (wrS s (List.take x p)).h.h) : Int)],
  D.val (Value.int IntKind.u64 (↑(wrS s (List.take x p)).n : Int)), D.arr IntKind.u8 (64 : Nat) (wrS s (List.take x p)).l] =
  F) := by kernel_rfl
set_option maxRecDepth 100000 in
theorem vc118  (n : Nat) (F : D)  :
    (owed c118 (inv118 n) Tryd.f118 [.val (.int .u64 (n : Int))] F) = (
 True ∧
 ((1 : Nat) = (1 : Nat) ∧ (1 : Nat) ≤ (4096 : Nat)) ∧
 True ∧
 (((sm (AV.d (D.val (Value.int IntKind.u64 (↑n : Int)))) ∧ sm (AV.d (D.val (Value.slice none (0 : Nat) (0 : Nat)))) ∧ sm (AV.row (5 : Nat)) ∧ True) ∧ (some (Blk.row (5 : TypeId) (D.ints IntKind.u8 [(128 : Int)])) = some (Blk.row (5 : TypeId) (D.ints IntKind.u8 (pz n ((1 : Nat) - (1 : Nat))))) ∧ True) ∧ true = true) ∧ (1 : Nat) - (1 : Nat) ≤ zc n) ∧
 ∀ (x : Nat),
 x ≤ zc n →
 true = true ∧
 True ∧
 True ∧
 True ∧
 True ∧
 True ∧
 (64 : Int) ≠ (0 : Int) ∧
 True ∧
 match (IntKind.u64.wrap ((↑n : Int) + IntKind.u64.wrap (↑(pz n x).length : Int))).tmod (64 : Int) != (56 : Int) with
 | true =>
  True ∧
  ((1 : Nat) = (1 : Nat) ∧ (1 : Nat) ≤ (4096 : Nat)) ∧
  ((5 : TypeId) = (5 : TypeId) ∧ (26 : Nat) = (26 : Nat) ∧ true = true ∧ (pz n x ++ [(0 : Int)]).length ≤ (140737488355328 : Nat) ∧ (pz n x ++ [(0 : Int)]).length * (1 : Nat) ≤ (140737488355328 : Nat) ∧ (1 : Nat) ≠ (0 : Nat) ∧ (1 : Nat) = (1 : Nat)) ∧
  True ∧
  ((sm (AV.d (D.val (Value.int IntKind.u64 (↑n : Int)))) ∧ sm (AV.d (D.val (Value.slice none (0 : Nat) (0 : Nat)))) ∧ sm (AV.row (5 : Nat)) ∧ True) ∧ (some (Blk.row (5 : TypeId) (D.ints IntKind.u8 (pz n x ++ [(0 : Int)]))) = some (Blk.row (5 : TypeId) (D.ints IntKind.u8 (pz n ((pz n x ++ [(0 : Int)]).length - (1 : Nat))))) ∧ True) ∧ true = true) ∧
  (pz n x ++ [(0 : Int)]).length - (1 : Nat) ≤ zc n ∧ zc n - ((pz n x ++ [(0 : Int)]).length - (1 : Nat)) < zc n - x
 | false =>
  True ∧
  (((sm (AV.d (D.val (Value.int IntKind.u64 (↑n : Int)))) ∧
  sm (AV.d (D.val (Value.slice none (0 : Nat) (0 : Nat)))) ∧
  sm (AV.row (5 : Nat)) ∧
  sm (AV.d (D.val (Value.int IntKind.u64 (↑n : Int)))) ∧
  sm (AV.d (D.val (Value.int IntKind.i64 (↑(pz n x).length : Int)))) ∧
  sm (AV.d (D.val (Value.int IntKind.u64 (IntKind.u64.wrap (↑(pz n x).length : Int))))) ∧
  sm (AV.d (D.val (Value.int IntKind.u64 (IntKind.u64.wrap ((↑n : Int) + IntKind.u64.wrap (↑(pz n x).length : Int)))))) ∧
  sm (AV.d (D.val (Value.int IntKind.u64 ((IntKind.u64.wrap ((↑n : Int) + IntKind.u64.wrap (↑(pz n x).length : Int))).tmod (64 : Int))))) ∧
  sm (AV.d (D.val (Value.bool ((IntKind.u64.wrap ((↑n : Int) + IntKind.u64.wrap (↑(pz n x).length : Int))).tmod (64 : Int) != (56 : Int))))) ∧ AV.d (D.val (Value.int IntKind.i64 (0 : Int))) = AV.d (D.val (Value.int IntKind.i64 (↑(Int.toNat (0 : Int)) : Int))) ∧ True) ∧
  (some (Blk.row (5 : TypeId) (D.ints IntKind.u8 (pz n x))) = some (Blk.row (5 : TypeId) (D.ints IntKind.u8 (pt n (Int.toNat (0 : Int))))) ∧ True) ∧ true = true) ∧
  Int.toNat (0 : Int) ≤ (8 : Nat)) ∧
  ∀ (x_1 : Nat),
  x_1 ≤ (8 : Nat) →
  true = true ∧
  True ∧
  match decide ((↑x_1 : Int) < (8 : Int)) with
  | true =>
   True ∧
   True ∧
   True ∧
   True ∧
   True ∧
   True ∧
   True ∧
   True ∧
   True ∧
   (0 : Int) ≤ IntKind.u64.wrap (IntKind.i64.wrap ((56 : Int) - IntKind.i64.wrap ((8 : Int) * (↑x_1 : Int)))) ∧
   True ∧
   ((1 : Nat) = (1 : Nat) ∧ (1 : Nat) ≤ (4096 : Nat)) ∧
   ((5 : TypeId) = (5 : TypeId) ∧
   (26 : Nat) = (26 : Nat) ∧
   true = true ∧
   (pt n x_1 ++ [IntKind.u8.wrap (ishr IntKind.u64 (IntKind.u64.wrap ((8 : Int) * (↑n : Int))) (IntKind.u64.wrap (IntKind.i64.wrap ((56 : Int) - IntKind.i64.wrap ((8 : Int) * (↑x_1 : Int))))))]).length ≤ (140737488355328 : Nat) ∧
   (pt n x_1 ++ [IntKind.u8.wrap (ishr IntKind.u64 (IntKind.u64.wrap ((8 : Int) * (↑n : Int))) (IntKind.u64.wrap (IntKind.i64.wrap ((56 : Int) - IntKind.i64.wrap ((8 : Int) * (↑x_1 : Int))))))]).length * (1 : Nat) ≤ (140737488355328 : Nat) ∧ (1 : Nat) ≠ (0 : Nat) ∧ (1 : Nat) = (1 : Nat)) ∧
   True ∧
   True ∧
   True ∧
   ((sm (AV.d (D.val (Value.int IntKind.u64 (↑n : Int)))) ∧
   sm (AV.d (D.val (Value.slice none (0 : Nat) (0 : Nat)))) ∧
   sm (AV.row (5 : Nat)) ∧
   sm (AV.d (D.val (Value.int IntKind.u64 (↑n : Int)))) ∧
   sm (AV.d (D.val (Value.int IntKind.i64 (↑(pz n x).length : Int)))) ∧
   sm (AV.d (D.val (Value.int IntKind.u64 (IntKind.u64.wrap (↑(pz n x).length : Int))))) ∧
   sm (AV.d (D.val (Value.int IntKind.u64 (IntKind.u64.wrap ((↑n : Int) + IntKind.u64.wrap (↑(pz n x).length : Int)))))) ∧
   sm (AV.d (D.val (Value.int IntKind.u64 ((IntKind.u64.wrap ((↑n : Int) + IntKind.u64.wrap (↑(pz n x).length : Int))).tmod (64 : Int))))) ∧
   sm (AV.d (D.val (Value.bool ((IntKind.u64.wrap ((↑n : Int) + IntKind.u64.wrap (↑(pz n x).length : Int))).tmod (64 : Int) != (56 : Int))))) ∧
   AV.d (D.val (Value.int IntKind.i64 (IntKind.i64.wrap ((↑x_1 : Int) + (1 : Int))))) = AV.d (D.val (Value.int IntKind.i64 (↑(IntKind.i64.wrap ((↑x_1 : Int) + (1 : Int))).toNat : Int))) ∧ True) ∧
   (some (Blk.row (5 : TypeId) (D.ints IntKind.u8 (pt n x_1 ++ [IntKind.u8.wrap (ishr IntKind.u64 (IntKind.u64.wrap ((8 : Int) * (↑n : Int))) (IntKind.u64.wrap (IntKind.i64.wrap ((56 : Int) - IntKind.i64.wrap ((8 : Int) * (↑x_1 : Int))))))]))) =
   some (Blk.row (5 : TypeId) (D.ints IntKind.u8 (pt n (IntKind.i64.wrap ((↑x_1 : Int) + (1 : Int))).toNat))) ∧
   True) ∧
   true = true) ∧
   (IntKind.i64.wrap ((↑x_1 : Int) + (1 : Int))).toNat ≤ (8 : Nat) ∧ (8 : Nat) - (IntKind.i64.wrap ((↑x_1 : Int) + (1 : Int))).toNat < (8 : Nat) - x_1
  | false => True ∧ True ∧ (false = false ∧ True) ∧ D.ints IntKind.u8 (pt n x_1) = F) := by kernel_rfl
set_option maxRecDepth 100000 in
theorem vc127  (n : Nat) (F : D)  :
    (owed c0 (inv127 n) Tryd.f127 [.val (.int .u64 (n : Int))] F) = (
 True ∧
 True ∧
 True ∧
 (64 : Int) ≠ (0 : Int) ∧
 True ∧
 (((AV.d (D.str (ints { data := { toList := [(128 : UInt8)] } })) = AV.d (D.str (pz n ((ints { data := { toList := [(128 : UInt8)] } }).length - (1 : Nat)))) ∧ True) ∧ True ∧ true = true) ∧ (ints { data := { toList := [(128 : UInt8)] } }).length - (1 : Nat) ≤ zc n) ∧
 ∀ (x : Nat),
 x ≤ zc n →
 true = true ∧
 True ∧
 True ∧
 True ∧
 True ∧
 True ∧
 True ∧
 (64 : Int) ≠ (0 : Int) ∧
 True ∧
 match (IntKind.u64.wrap (IntKind.u64.wrap ((↑n : Int).tmod (64 : Int) + IntKind.u64.wrap (↑(pz n x).length : Int)) + (8 : Int))).tmod (64 : Int) != (0 : Int) with
 | true =>
  True ∧
  (↑((pz n x).length + (ints { data := { toList := [(0 : UInt8)] } }).length) : Int) ≤ (9223372036854775807 : Int) ∧
  True ∧
  ((AV.d (D.str (pz n x ++ ints { data := { toList := [(0 : UInt8)] } })) = AV.d (D.str (pz n ((pz n x ++ ints { data := { toList := [(0 : UInt8)] } }).length - (1 : Nat)))) ∧ True) ∧ True ∧ true = true) ∧
  (pz n x ++ ints { data := { toList := [(0 : UInt8)] } }).length - (1 : Nat) ≤ zc n ∧ zc n - ((pz n x ++ ints { data := { toList := [(0 : UInt8)] } }).length - (1 : Nat)) < zc n - x
 | false =>
  True ∧
  True ∧
  True ∧
  True ∧
  True ∧
  (((AV.d (D.val (Value.int IntKind.i64 (0 : Int))) = AV.d (D.val (Value.int IntKind.i64 (↑(Int.toNat (0 : Int)) : Int))) ∧
  AV.d (D.val (Value.int IntKind.u64 (IntKind.u64.wrap ((↑n : Int) * (8 : Int))))) = AV.d (D.val (Value.int IntKind.u64 (↑((8 : Nat) * n % (18446744073709551616 : Nat) / (1 : Nat)) : Int))) ∧ AV.d (D.str (ints { data := { toList := [] } })) = AV.d (D.str (tl ((8 : Nat) * n % (18446744073709551616 : Nat)) (Int.toNat (0 : Int)))) ∧ True) ∧
  True ∧ true = true) ∧
  Int.toNat (0 : Int) ≤ (8 : Nat)) ∧
  ∀ (x_1 : Nat),
  x_1 ≤ (8 : Nat) →
  true = true ∧
  True ∧
  match decide ((↑x_1 : Int) < (8 : Int)) with
  | true =>
   True ∧
   (256 : Int) ≠ (0 : Int) ∧
   True ∧
   ((1 : Nat) = (1 : Nat) ∧ (1 : Nat) ≤ (4096 : Nat)) ∧
   isBytes [IntKind.u8.wrap ((↑((8 : Nat) * n % (18446744073709551616 : Nat) / (256 : Nat) ^ x_1) : Int).tmod (256 : Int))] ∧
   True ∧
   (↑((1 : Nat) + (tl ((8 : Nat) * n % (18446744073709551616 : Nat)) x_1).length) : Int) ≤ (9223372036854775807 : Int) ∧
   True ∧
   True ∧
   (256 : Int) ≠ (0 : Int) ∧
   True ∧
   True ∧
   True ∧
   ((AV.d (D.val (Value.int IntKind.i64 (IntKind.i64.wrap ((↑x_1 : Int) + (1 : Int))))) = AV.d (D.val (Value.int IntKind.i64 (↑(IntKind.i64.wrap ((↑x_1 : Int) + (1 : Int))).toNat : Int))) ∧
   AV.d (D.val (Value.int IntKind.u64 (IntKind.u64.wrap ((↑((8 : Nat) * n % (18446744073709551616 : Nat) / (256 : Nat) ^ x_1) : Int).tdiv (256 : Int))))) =
   AV.d (D.val (Value.int IntKind.u64 (↑((8 : Nat) * n % (18446744073709551616 : Nat) / (256 : Nat) ^ (IntKind.i64.wrap ((↑x_1 : Int) + (1 : Int))).toNat) : Int))) ∧
   AV.d (D.str (IntKind.u8.wrap ((↑((8 : Nat) * n % (18446744073709551616 : Nat) / (256 : Nat) ^ x_1) : Int).tmod (256 : Int)) :: tl ((8 : Nat) * n % (18446744073709551616 : Nat)) x_1)) = AV.d (D.str (tl ((8 : Nat) * n % (18446744073709551616 : Nat)) (IntKind.i64.wrap ((↑x_1 : Int) + (1 : Int))).toNat)) ∧
   True) ∧
   True ∧ true = true) ∧
   (IntKind.i64.wrap ((↑x_1 : Int) + (1 : Int))).toNat ≤ (8 : Nat) ∧ (8 : Nat) - (IntKind.i64.wrap ((↑x_1 : Int) + (1 : Int))).toNat < (8 : Nat) - x_1
  | false => True ∧ True ∧ (↑((pz n x).length + (tl ((8 : Nat) * n % (18446744073709551616 : Nat)) x_1).length) : Int) ≤ (9223372036854775807 : Int) ∧ True ∧ (false = false ∧ True) ∧ D.str (pz n x ++ tl ((8 : Nat) * n % (18446744073709551616 : Nat)) x_1) = F) := by kernel_rfl
end Go.Proofs.YtkicjckhkefnpaaDoor
namespace Go.Proofs.YtkicjckhkefnpaaDoor
open Go Go.Vg
theorem prL_mk (x : R8) (l : List Int) : prL [(x.a.toNat : Int), (x.b.toNat : Int), (x.c.toNat : Int), (x.d.toNat : Int), (x.e.toNat : Int), (x.f.toNat : Int), (x.g.toNat : Int), (x.h.toNat : Int)] l =
    [((pr x l).a.toNat : Int), ((pr x l).b.toNat : Int), ((pr x l).c.toNat : Int), ((pr x l).d.toNat : Int), ((pr x l).e.toNat : Int), ((pr x l).f.toNat : Int), ((pr x l).g.toNat : Int), ((pr x l).h.toNat : Int)] := by
  show prL x.l l = (pr x l).l
  unfold prL
  rw [ofR_l]
theorem bytes_set {l : List Int} (h : isBytes l) {b : Int} (hb : 0 ≤ b ∧ b < 256) (i : Nat) : isBytes (l.set i b) := by
  intro x hx
  rcases List.mem_or_eq_of_mem_set hx with h1 | rfl
  · exact h x h1
  · exact hb
theorem stp_ok {s : HS} (h : okS s) {b : Int} (hb : 0 ≤ b ∧ b < 256) : okS (stp s b) := by
  unfold stp
  obtain ⟨h1, h2, h3⟩ := h
  have : (s.n + 1) % 18446744073709551616 < 18446744073709551616 := Nat.mod_lt _ (by decide)
  simp only
  split
  · exact ⟨by simp [h1], bytes_set h2 hb _, this⟩
  · exact ⟨by simp [h1], bytes_set h2 hb _, this⟩
theorem wr_ok : ∀ (p : List Int) {s : HS}, okS s → isBytes p → okS (wrS s p)
  | [], _, h, _ => h
  | b :: p, s, h, hp => by
    show okS (wrS (stp s b) p)
    exact wr_ok p (stp_ok h (hp b (by simp))) fun x hx => hp x (by simp [hx])
theorem wr_app (s : HS) (p q : List Int) : wrS s (p ++ q) = wrS (wrS s p) q := List.foldl_append
theorem take_snoc {p : List Int} {i : Nat} (h : i < p.length) : p.take (i + 1) = p.take i ++ [p.getD i 0] := by
  rw [List.take_add_one, List.getElem?_eq_getElem h, List.getD_eq_getElem?_getD, List.getElem?_eq_getElem h]
  rfl
theorem wr_snoc (s : HS) {p : List Int} {i : Nat} (h : i < p.length) : wrS s (p.take (i + 1)) = stp (wrS s (p.take i)) (p.getD i 0) := by
  rw [take_snoc h, wr_app]
  rfl
theorem bytes_take {l : List Int} (h : isBytes l) (n : Nat) : isBytes (l.take n) := fun x hx => h x (List.mem_of_mem_take hx)
theorem ofS_eq (s : HS) : ofS (stD s) = s := by
  show HS.mk (ofR s.h.l) ((s.n : Int)).toNat s.l = s
  rw [ofR_l, Int.toNat_natCast]
set_option maxRecDepth 100000 in
theorem m76 : Meets Tryd.prog 76 sp76 := by
  refine meets_of_owed (C := c76) ⟨tab_ok, lkS_ok ⟨m117, trivial⟩⟩ (by kernel_rfl) (by kernel_rfl : Tryd.prog.funcs[76]? = some Tryd.f76) (by kernel_rfl) (by kernel_rfl) (by kernel_rfl) _ ?_
  rintro _ ⟨s, p, rfl, hs, hp, hl⟩
  refine ⟨fun _ => rfl, inv76 s p, ?_⟩
  show owed c76 (inv76 s p) Tryd.f76 [stD s, .ints .u8 p] (stD (wrS (ofS (stD s)) p))
  rw [vc76, ofS_eq]
  have h0 : wrS s (List.take (Int.toNat 0) p) = s := rfl
  rw [h0]
  simp (decide := true) only [eq_self, true_and, and_true, ne_eq, not_false_eq_true]
  refine ⟨⟨rfl, Nat.zero_le _⟩, fun x hx => ?_⟩
  have hy := wr_ok (p.take x) hs (bytes_take hp x)
  split
  · rename_i h
    have h : x < p.length := by have := of_decide_eq_true h; omega
    have es := wr_snoc s h
    have ew : IntKind.i64.wrap ((x : Int) + 1) = ((x + 1 : Nat) : Int) := by rw [wi (by omega) (by omega)]; omega
    obtain ⟨b, eb, hb⟩ := byte_at hp h
    rw [ew]
    simp only [Int.toNat_natCast, es, eb]
    generalize wrS s (p.take x) = y at *
    obtain ⟨y1, y2, y3⟩ := hy
    have em : ((y.n : Nat) : Int).tmod 64 = ((y.n % 64 : Nat) : Int) := tmodN _ 64
    have en : IntKind.u64.wrap ((y.n : Int) + 1) = (((y.n + 1) % 18446744073709551616 : Nat) : Int) := by rw [w64]; omega
    have em2 : (((y.n + 1) % 18446744073709551616 : Nat) : Int).tmod 64 = (((y.n + 1) % 18446744073709551616 % 64 : Nat) : Int) := tmodN _ 64
    rw [em, en, em2, Int.toNat_natCast]
    have hlt : y.n % 64 < 64 := Nat.mod_lt _ (by decide)
    unfold stp
    simp only
    split
    · rename_i h2
      have h2 : (y.n + 1) % 18446744073709551616 % 64 = 0 := by have := eq_of_beq h2; omega
      rw [if_pos h2]
      refine ⟨by omega, by omega, by omega, ⟨_, _, rfl, bytes_set y2 (by omega) _, by simp [y1]⟩, ?_⟩
      rw [prL_mk]
      and_intros <;> first | trivial | rfl | omega
    · rename_i h2
      have h2 : ¬ (y.n + 1) % 18446744073709551616 % 64 = 0 := fun h3 => by rw [h3] at h2; cases h2
      rw [if_neg h2]
      and_intros <;> first | trivial | rfl | omega
  · rename_i h
    have h := of_decide_eq_false h
    rw [List.take_of_length_le (by omega)]
    rfl
theorem pz_len (n i : Nat) : (pz n i).length = i + 1 := by simp [pz]
theorem pz_succ (n i : Nat) : pz n i ++ [0] = pz n (i + 1) := by
  unfold pz
  rw [List.replicate_succ', List.cons_append]
theorem pz_end (n : Nat) : pz n (zc n) = pt n 0 := by unfold pz pt; simp
theorem zc_lt (n : Nat) : zc n < 64 := Nat.mod_lt _ (by decide)
theorem tl_len (b : Nat) : ∀ k, (tl b k).length = k
  | 0 => rfl
  | k + 1 => by rw [tl, List.length_cons, tl_len b k]
theorem tl_get (b : Nat) : ∀ k i, i < k → (tl b k).getD i 0 = ((b / 256 ^ (k - 1 - i) % 256 : Nat) : Int)
  | 0, _, h => by omega
  | k + 1, 0, _ => rfl
  | k + 1, i + 1, h => by
    rw [tl, List.getD_cons_succ, tl_get b k i (by omega), show k + 1 - 1 - (i + 1) = k - 1 - i by omega]
theorem pt_succ (n : Nat) {i : Nat} (h : i < 8) : pt n (i + 1) = pt n i ++ [((8 * n % 18446744073709551616 / 256 ^ (7 - i) % 256 : Nat) : Int)] := by
  unfold pt
  rw [take_snoc (by rw [tl_len]; exact h), tl_get _ 8 i h, show 8 - 1 - i = 7 - i by omega]
  simp
theorem pt_end (n : Nat) : pt n 8 = padL n := by
  unfold pt padL
  rw [List.take_of_length_le (by rw [tl_len]; exact Nat.le_refl _)]
theorem pt_len (n : Nat) {i : Nat} (h : i ≤ 8) : (pt n i).length ≤ 100 := by
  unfold pt
  have := zc_lt n
  simp
  omega
set_option maxRecDepth 100000 in
theorem m118 : Meets Tryd.prog 118 sp118 := by
  refine meets_of_owed (C := c118) ⟨tab_ok, fun f s h => by cases h⟩ (by kernel_rfl) (by kernel_rfl : Tryd.prog.funcs[118]? = some Tryd.f118) (by kernel_rfl) (by kernel_rfl) (by kernel_rfl) _ ?_
  rintro _ ⟨n, rfl, hn⟩
  refine ⟨(fun h => by cases h), inv118 n, ?_⟩
  show owed c118 (inv118 n) Tryd.f118 [.val (.int .u64 (n : Int))] (.ints .u8 (padL ((n : Int)).toNat))
  rw [vc118, Int.toNat_natCast]
  simp (decide := true) only [eq_self, true_and, and_true, ne_eq, not_false_eq_true, Nat.sub_self, pz_len]
  refine ⟨⟨rfl, Nat.zero_le _⟩, fun x hx => ?_⟩
  have hz := zc_lt n
  have e1 : IntKind.u64.wrap ((n : Int) + IntKind.u64.wrap ((x + 1 : Nat) : Int)) = (((n + x + 1) % 18446744073709551616 : Nat) : Int) := by
    rw [w64, w64]; omega
  have e2 : (((n + x + 1) % 18446744073709551616 : Nat) : Int).tmod 64 = (((n + x + 1) % 18446744073709551616 % 64 : Nat) : Int) := tmodN _ 64
  rw [e1, e2]
  have ez : zc n = (119 - n % 64) % 64 := rfl
  split
  · rename_i h
    have h : (n + x + 1) % 18446744073709551616 % 64 ≠ 56 := by
      intro h3
      rw [h3] at h
      cases h
    rw [pz_succ, pz_len, Nat.add_sub_cancel]
    and_intros <;> first | rfl | omega
  · rename_i h
    have h : (n + x + 1) % 18446744073709551616 % 64 = 56 := by
      have h3 := bne_eq_false_iff_eq.1 h
      omega
    obtain rfl : x = zc n := by omega
    rw [pz_end]
    refine ⟨⟨rfl, rfl⟩, fun i hi => ?_⟩
    split
    · rename_i h4
      have h4 : i < 8 := by have := of_decide_eq_true h4; omega
      have ew : IntKind.i64.wrap ((i : Int) + 1) = ((i + 1 : Nat) : Int) := by rw [wi (by omega) (by omega)]; omega
      have e8 : IntKind.i64.wrap (8 * (i : Int)) = ((8 * i : Nat) : Int) := by rw [wi (by omega) (by omega)]; omega
      have e56 : IntKind.u64.wrap (IntKind.i64.wrap (56 - ((8 * i : Nat) : Int))) = ((8 * (7 - i) : Nat) : Int) := by
        rw [wi (by omega) (by omega), w64]; omega
      have en : IntKind.u64.wrap (8 * (n : Int)) = ((8 * n % 18446744073709551616 : Nat) : Int) := by rw [w64]; omega
      rw [ew, e8, e56, en, ishrN .u64 (show _ ≤ 64 by omega), wN8, Nat.pow_mul, show (2 : Nat) ^ 8 = 256 from rfl, ← pt_succ n h4, Int.toNat_natCast]
      have := pt_len n (i := i + 1) (by omega)
      and_intros <;> first | rfl | omega
    · rename_i h4
      obtain rfl : i = 8 := by have := of_decide_eq_false h4; omega
      rw [pt_end]
set_option maxRecDepth 100000 in
theorem m127 : Meets Tryd.prog 127 sp127 := by
  refine meets_of_owed (C := c0) ⟨tab_ok, fun f s h => by cases h⟩ (by kernel_rfl) (by kernel_rfl : Tryd.prog.funcs[127]? = some Tryd.f127) (by kernel_rfl) (by kernel_rfl) (by kernel_rfl) _ ?_
  rintro _ ⟨n, rfl, hn⟩
  refine ⟨fun _ => rfl, inv127 n, ?_⟩
  show owed c0 (inv127 n) Tryd.f127 [.val (.int .u64 (n : Int))] (.str (padL ((n : Int)).toNat))
  rw [vc127, Int.toNat_natCast]
  have i0 : ints { data := { toList := [(0 : UInt8)] } } = [0] := rfl
  have i128 : ints { data := { toList := [(128 : UInt8)] } } = [128] := rfl
  have ie : ints { data := { toList := [] } } = [] := rfl
  rw [i0, i128, ie]
  simp (decide := true) only [eq_self, true_and, and_true, ne_eq, not_false_eq_true, Nat.sub_self, pz_len, List.length_cons, List.length_nil]
  refine ⟨⟨rfl, Nat.zero_le _⟩, fun x hx => ?_⟩
  have hz := zc_lt n
  have ez : zc n = (119 - n % 64) % 64 := rfl
  have e0 : ((n : Nat) : Int).tmod 64 = ((n % 64 : Nat) : Int) := tmodN _ 64
  have e1 : IntKind.u64.wrap (IntKind.u64.wrap (((n % 64 : Nat) : Int) + IntKind.u64.wrap ((x + 1 : Nat) : Int)) + 8) = ((n % 64 + x + 9 : Nat) : Int) := by
    rw [w64, w64, w64]; omega
  have e2 : ((n % 64 + x + 9 : Nat) : Int).tmod 64 = (((n % 64 + x + 9) % 64 : Nat) : Int) := tmodN _ 64
  rw [e0, e1, e2]
  split
  · rename_i h
    have h : (n % 64 + x + 9) % 64 ≠ 0 := by
      intro h3
      rw [h3] at h
      cases h
    rw [pz_succ, pz_len, Nat.add_sub_cancel]
    and_intros <;> first | rfl | omega
  · rename_i h
    have h : (n % 64 + x + 9) % 64 = 0 := by
      have h3 := bne_eq_false_iff_eq.1 h
      omega
    obtain rfl : x = zc n := by omega
    have en : IntKind.u64.wrap ((n : Int) * 8) = ((8 * n % 18446744073709551616 : Nat) : Int) := by rw [w64]; omega
    rw [en]
    refine ⟨⟨rfl, by rw [Nat.div_one], rfl⟩, fun i hi => ?_⟩
    have hb2 : 8 * n % 18446744073709551616 < 18446744073709551616 := Nat.mod_lt _ (by decide)
    generalize hb : 8 * n % 18446744073709551616 = b at *
    split
    · rename_i h4
      have h4 : i < 8 := by have := of_decide_eq_true h4; omega
      have ew : IntKind.i64.wrap ((i : Int) + 1) = ((i + 1 : Nat) : Int) := by rw [wi (by omega) (by omega)]; omega
      have q1 : ((b / 256 ^ i : Nat) : Int).tmod 256 = ((b / 256 ^ i % 256 : Nat) : Int) := tmodN _ 256
      have q2 : ((b / 256 ^ i : Nat) : Int).tdiv 256 = ((b / 256 ^ i / 256 : Nat) : Int) := tdivN _ 256
      have q3 : b / 256 ^ (i + 1) = b / 256 ^ i / 256 := by rw [Nat.pow_succ, Nat.div_div_eq_div_mul]
      have q4 : b / 256 ^ i ≤ b := Nat.div_le_self _ _
      have ht : tl b (i + 1) = ((b / 256 ^ i % 256 : Nat) : Int) :: tl b i := rfl
      have q5 : IntKind.u8.wrap ((b / 256 ^ i % 256 : Nat) : Int) = ((b / 256 ^ i % 256 : Nat) : Int) := by rw [w8]; omega
      have q6 : IntKind.u64.wrap ((b / 256 ^ i / 256 : Nat) : Int) = ((b / 256 ^ i / 256 : Nat) : Int) := wrapN .u64 (show _ < 18446744073709551616 from Nat.lt_of_le_of_lt (Nat.le_trans (Nat.div_le_self _ _) q4) hb2)
      rw [ew, q1, q2, q5, q6, Int.toNat_natCast, q3, ht, tl_len]
      refine ⟨?_, by omega, ⟨rfl, rfl, rfl⟩, by omega, by omega⟩
      intro y hy
      rw [List.mem_singleton] at hy
      omega
    · rename_i h4
      obtain rfl : i = 8 := by have := of_decide_eq_false h4; omega
      rw [tl_len]
      refine ⟨by omega, ?_⟩
      unfold padL pz
      rw [hb]
      rfl
end Go.Proofs.YtkicjckhkefnpaaDoor
namespace Go.Proofs.YtkicjckhkefnpaaDoor
open Go Go.Vg
def fhK (h : R8) (m : List Int) : Nat → R8
  | 0 => h
  | k + 1 => pr (fhK h m k) ((m.drop (64 * k)).take 64)
def bt (l : List Int) (j k : Nat) : Int := ((l.getD j 0).toNat / 256 ^ k % 256 : Nat)
def outL (x : R8) : List Int := (List.range 32).map fun i => bt x.l (i / 4) (3 - i % 4)
def sumL (s : HS) : List Int := outL (wrS s (padL s.n)).h
def iv : R8 := ⟨0x6a09e667, 0xbb67ae85, 0x3c6ef372, 0xa54ff53a, 0x510e527f, 0x9b05688c, 0x1f83d9ab, 0x5be0cd19⟩
def st0 : HS := ⟨iv, 0, List.replicate 64 0⟩
def fromL (x : R8) (n : Nat) (p : List Int) : List Int :=
  outL (fhK x (p ++ padL ((n + p.length) % 18446744073709551616)) ((p ++ padL ((n + p.length) % 18446744073709551616)).length / 64))
def digL (p : List Int) : List Int := fromL iv 0 p
theorem fh_app (h : R8) (m t : List Int) : ∀ k, 64 * k ≤ m.length → fhK h (m ++ t) k = fhK h m k
  | 0, _ => rfl
  | k + 1, hk => by
    show pr (fhK h (m ++ t) k) (((m ++ t).drop (64 * k)).take 64) = pr (fhK h m k) ((m.drop (64 * k)).take 64)
    rw [fh_app h m t k (by omega), List.drop_append_of_le_length (by omega), List.take_append_of_le_length (by rw [List.length_drop]; omega)]
theorem set_take (L : List Int) (r : Nat) (b : Int) (h : r < L.length) : (L.set r b).take (r + 1) = L.take r ++ [b] := by
  rw [take_snoc (p := L.set r b) (by rw [List.length_set]; exact h), List.take_set, List.set_eq_of_length_le (by rw [List.length_take]; omega)]
  rw [List.getD_eq_getElem?_getD, List.getElem?_set_self h]
  rfl
theorem wr_fh (h : R8) (n : Nat) (l : List Int) (hl : l.length = 64) (hn : n % 64 = 0) (hn2 : n < 18446744073709551616) (m : List Int) :
    ∀ k, k ≤ m.length → ∃ L : List Int, L.length = 64 ∧ wrS ⟨h, n, l⟩ (m.take k) = ⟨fhK h m (k / 64), (n + k) % 18446744073709551616, L⟩ ∧ L.take (k % 64) = (m.take k).drop (64 * (k / 64))
  | 0, _ => ⟨l, hl, by
      show HS.mk h n l = ⟨h, (n + 0) % 18446744073709551616, l⟩
      rw [show (n + 0) % 18446744073709551616 = n by omega], rfl⟩
  | k + 1, hk => by
    obtain ⟨L, h1, h2, h3⟩ := wr_fh h n l hl hn hn2 m k (by omega)
    have hlt : k % 64 < L.length := by omega
    have e1 : (n + k) % 18446744073709551616 % 64 = k % 64 := by omega
    have e2 : ((n + k) % 18446744073709551616 + 1) % 18446744073709551616 = (n + (k + 1)) % 18446744073709551616 := by omega
    have e3 : (L.set (k % 64) (m.getD k 0)).take (k % 64 + 1) = (m.take (k + 1)).drop (64 * (k / 64)) := by
      rw [set_take _ _ _ hlt, h3, take_snoc (show k < m.length by omega), List.drop_append_of_le_length (by rw [List.length_take]; omega)]
    rw [wr_snoc _ (show k < m.length by omega), h2]
    refine ⟨L.set (k % 64) (m.getD k 0), by rw [List.length_set]; exact h1, ?_⟩
    unfold stp
    simp only [e1, e2]
    by_cases hc : (n + (k + 1)) % 18446744073709551616 % 64 = 0
    · have hc2 : (k + 1) % 64 = 0 := by omega
      have q : (k + 1) / 64 = k / 64 + 1 := by omega
      have r : k % 64 + 1 = 64 := by omega
      rw [if_pos hc, q, hc2]
      rw [r, List.take_of_length_le (by rw [List.length_set]; omega), List.drop_take, show k + 1 - 64 * (k / 64) = 64 by omega] at e3
      refine ⟨?_, ?_⟩
      · rw [e3]
        rfl
      · rw [List.drop_eq_nil_of_le (by rw [List.length_take]; omega)]
        rfl
    · have q : (k + 1) / 64 = k / 64 := by omega
      have r : (k + 1) % 64 = k % 64 + 1 := by omega
      rw [if_neg hc, q, r]
      exact ⟨rfl, e3⟩
theorem padL_len (n : Nat) : (padL n).length = 9 + zc n := by
  unfold padL
  rw [List.length_cons, List.length_append, List.length_replicate, tl_len]
  omega
theorem wr_full (h : R8) (n : Nat) (l : List Int) (hl : l.length = 64) (hn : n % 64 = 0) (hn2 : n < 18446744073709551616) (m : List Int) :
    (wrS ⟨h, n, l⟩ m).h = fhK h m (m.length / 64) ∧ (wrS ⟨h, n, l⟩ m).n = (n + m.length) % 18446744073709551616 := by
  obtain ⟨L, _, h2, _⟩ := wr_fh h n l hl hn hn2 m m.length (Nat.le_refl _)
  rw [List.take_length] at h2
  rw [h2]
  exact ⟨rfl, rfl⟩
theorem sum_from (h : R8) (n : Nat) (l : List Int) (hl : l.length = 64) (hn : n % 64 = 0) (hn2 : n < 18446744073709551616) (p : List Int) :
    sumL (wrS ⟨h, n, l⟩ p) = fromL h n p := by
  unfold sumL fromL
  rw [(wr_full h n l hl hn hn2 p).2, ← wr_app, (wr_full h n l hl hn hn2 _).1]
theorem sum_st0 (p : List Int) : sumL (wrS st0 p) = digL p := sum_from iv 0 _ (by simp) rfl (by decide) p
theorem mul64 (n : Nat) (p : List Int) (hn : n % 64 = 0) : (p ++ padL ((n + p.length) % 18446744073709551616)).length % 64 = 0 := by
  rw [List.length_append, padL_len]
  unfold zc
  omega
theorem outL_len (x : R8) : (outL x).length = 32 := by unfold outL; simp
theorem outL_bytes (x : R8) : isBytes (outL x) := by
  intro y hy
  unfold outL at hy
  obtain ⟨i, _, rfl⟩ := List.mem_map.1 hy
  unfold bt
  omega
theorem outL_get (x : R8) {i : Nat} (h : i < 32) : (outL x).getD i 0 = bt x.l (i / 4) (3 - i % 4) := by
  unfold outL
  rw [List.getD_eq_getElem?_getD, List.getElem?_map, List.getElem?_range h]
  rfl
theorem fill (L : List Int) {k n : Nat} (hn : L.length = n) (h : k < n) : (L.take k ++ List.replicate (n - k) 0).set k (L.getD k 0) = L.take (k + 1) ++ List.replicate (n - (k + 1)) 0 := by
  have e : n - k = (n - (k + 1)) + 1 := by omega
  have el : (L.take k).length = k := by rw [List.length_take]; omega
  rw [e, List.replicate_succ, List.set_append_right _ _ (by omega), el, Nat.sub_self, List.set_cons_zero, take_snoc (by omega), List.append_assoc]
  rfl
theorem st0_ok : okS st0 := ⟨rfl, by intro x hx; rw [show st0.l = List.replicate 64 0 from rfl] at hx; have := List.eq_of_mem_replicate hx; omega, by decide⟩
theorem xl_get (x : R8) {j : Nat} (h : j < 8) : ∃ w : W, x.l.getD j 0 = ((w.toNat : Nat) : Int) := by
  rcases (by omega : j = 0 ∨ j = 1 ∨ j = 2 ∨ j = 3 ∨ j = 4 ∨ j = 5 ∨ j = 6 ∨ j = 7) with rfl | rfl | rfl | rfl | rfl | rfl | rfl | rfl <;> exact ⟨_, rfl⟩
end Go.Proofs.YtkicjckhkefnpaaDoor
namespace Go.Proofs.YtkicjckhkefnpaaDoor
open Go Go.Vg
def woL (l : List Int) : R8 := ⟨wn l 0, wn l 1, wn l 2, wn l 3, wn l 4, wn l 5, wn l 6, wn l 7⟩
def rsS (l : List Int) (n : Nat) : HS := if n % 64 = 0 then ⟨woL l, n, List.replicate 64 0⟩ else st0
def rsE (n : Nat) : Int := if n % 64 = 0 then 0 else 1
abbrev d32 (l : List Int) : D := .arr .u8 32 l
def isD (l : List Int) : Prop := isBytes l ∧ l.length = 32
def big : Nat := 1000000000000000
def sp75 : Go.Vg.Spec := ⟨fun ds => ds.length = 0, fun _ => stD st0, true, []⟩
def sp77 : Go.Vg.Spec := ⟨fun ds => ∃ s, ds = [stD s] ∧ okS s, fun ds => d32 (sumL (ofS (ds.headD default))), true, [117]⟩
def sp116 : Go.Vg.Spec := ⟨fun ds => ds.length = 0, fun _ => .ints .u32 iv.l, false, []⟩
def sp115 : Go.Vg.Spec := ⟨fun ds => ∃ (x : R8) (n : Nat) (p : List Int), ds = [.ints .u32 x.l, u64 (n : Int), .str p] ∧ isBytes p ∧ p.length ≤ 1000000000000000 ∧ n % 64 = 0 ∧ n < 18446744073709551616,
  fun ds => d32 (fromL (ofR (intsOf (ds.headD default))) (numOf (ds.getD 1 default)).toNat (strOf (ds.getD 2 default))), true, [170, 73, 9]⟩
def sp70 : Go.Vg.Spec := ⟨fun ds => ∃ p, ds = [.ints .u8 p] ∧ isBytes p ∧ p.length ≤ 1000000000000000, fun ds => d32 (digL (intsOf (ds.headD default))), true, [26]⟩
def sp71 : Go.Vg.Spec := ⟨fun ds => ∃ p, ds = [.str p] ∧ isBytes p ∧ p.length ≤ 1000000000000000, fun ds => d32 (digL (strOf (ds.headD default))), true, [9]⟩
def c77 : Ctx := ⟨tab, lkS [(76, sp76), (118, sp118)], [], []⟩
def c115 : Ctx := ⟨tab, lkS [(127, sp127), (128, sp128)], [], []⟩
def c70 : Ctx := ⟨tab, lkS [(75, sp75), (76, sp76), (77, sp77)], [], []⟩
def c71 : Ctx := ⟨tab, lkS [(116, sp116), (115, sp115)], [], []⟩
def inv77 (s : HS) : Nat → Option Inv
  | 4 => some ⟨Nat, fun i => [(13, .d (i64 i))], fun i => [(3, .fix (d32 ((sumL s).take (4 * i) ++ List.replicate (32 - 4 * i) 0)))], fun s => (slotN s 13).toNat, fun _ i => i ≤ 8, fun i => 8 - i⟩
  | _ => none
def fullL (n : Nat) (p : List Int) : List Int := p ++ padL ((n + p.length) % 18446744073709551616)
def inv115 (x : R8) (n : Nat) (p : List Int) : Nat → Option Inv
  | 3 => some ⟨Nat, fun k => [(7, .d (i64 ((64 * k : Nat) : Int))), (0, .d (.ints .u32 (fhK x (fullL n p) k).l))], fun _ => [], fun s => (slotN s 7).toNat / 64, fun _ k => k ≤ (fullL n p).length / 64, fun k => (fullL n p).length / 64 - k⟩
  | 8 => some ⟨Nat, fun i => [(31, .d (i64 i))], fun i => [(8, .fix (d32 ((fromL x n p).take i ++ List.replicate (32 - i) 0)))], fun s => (slotN s 31).toNat, fun _ i => i ≤ 32, fun i => 32 - i⟩
  | _ => none
def woI (l : List Int) (i : Nat) : List Int := (woL l).l.take i ++ iv.l.drop i
--KEEP ofR BitVec.toNat prL pr Go.Proofs.YtkicjckhkefnpaaDoor.R8.l wrS ofS okS padL fhK outL sumL fromL digL woL wl woI iv st0 rsS rsE wat fullL
set_option maxRecDepth 100000 in
theorem vc75  (F : D)  :
    (owed c0 (fun _ => none) Tryd.f75 [] F) = (
 (True ∧ (73 : Nat) ≠ (0 : Nat)) ∧
 ((1 : Nat) = (1 : Nat) ∧
 false = false ∧
 ((0 : Nat) < (8 : Nat) ∧ ([] : List Nat) = [] ∧ true = true) ∧
 false = false ∧
 ((1 : Nat) < (8 : Nat) ∧ ([] : List Nat) = [] ∧ true = true) ∧
 false = false ∧
 ((2 : Nat) < (8 : Nat) ∧ ([] : List Nat) = [] ∧ true = true) ∧
 false = false ∧ ((3 : Nat) < (8 : Nat) ∧ ([] : List Nat) = [] ∧ true = true) ∧ false = false ∧ ((4 : Nat) < (8 : Nat) ∧ ([] : List Nat) = [] ∧ true = true) ∧ false = false ∧ ((5 : Nat) < (8 : Nat) ∧ ([] : List Nat) = [] ∧ true = true) ∧ false = false ∧ ((6 : Nat) < (8 : Nat) ∧ ([] : List Nat) = [] ∧ true = true) ∧ false = false ∧ ((7 : Nat) < (8 : Nat) ∧ ([] : List Nat) = [] ∧ true = true) ∧ True) ∧
 (false = false ∧ ((0 : Nat) < (3 : Nat) ∧ Sk.arr (8 : Nat) = Sk.arr (8 : Nat)) ∧ True) ∧
 (Sk.st [Sk.arr (8 : Nat), Sk.one, Sk.arr (64 : Nat)] = Sk.st [Sk.arr (8 : Nat), Sk.one, Sk.arr (64 : Nat)] ∧ (73 : Nat) ≠ (0 : Nat) ∧ (73 : Nat) = (73 : Nat) ∧ false = false) ∧
 (((73 : Nat) ≠ (0 : Nat) ∧ (73 : Nat) = (73 : Nat) ∧ true = true) ∧ True) ∧
 D.st
 [D.arr IntKind.u32 (8 : Nat) [(1779033703 : Int), (3144134277 : Int), (1013904242 : Int), (2773480762 : Int), (1359893119 : Int), (2600822924 : Int), (528734635 : Int), (1541459225 : Int)], D.val (Value.int IntKind.u64 (0 : Int)),
 D.arr IntKind.u8 (64 : Nat)
 (List.replicate (64 : Nat) (0 : Int))] =
 F) := by kernel_rfl
set_option maxRecDepth 100000 in
theorem vc77  (s : HS) (F : D)  :
    (owed c77 (inv77 s) Tryd.f77 [stD s] F) = (
 (True ∧ false = false) ∧
 (True ∧ (32 : Nat) ≠ (0 : Nat)) ∧
 ((73 : Nat) ≠ (0 : Nat) ∧ (73 : Nat) = (73 : Nat) ∧ true = true) ∧
 (Sk.st [Sk.arr (8 : Nat), Sk.one, Sk.arr (64 : Nat)] = Sk.st [Sk.arr (8 : Nat), Sk.one, Sk.arr (64 : Nat)] ∧ (1 : Nat) < (3 : Nat)) ∧
 ((1 : Nat) ≠ (0 : Nat) ∧ (1 : Nat) = (1 : Nat) ∧ false = false) ∧
 (∃ (n : Nat), [D.val (Value.int IntKind.u64 (↑s.n : Int))] = [D.val (Value.int IntKind.u64 (↑n : Int))] ∧ n < (18446744073709551616 : Nat)) ∧
 (∃ (s_1 : HS),
 ∃ (p : List Int),
 [D.st [D.arr IntKind.u32 (8 : Nat) s.h.l, D.val (Value.int IntKind.u64 (↑s.n : Int)), D.arr IntKind.u8 (64 : Nat) s.l], D.ints IntKind.u8 (padL (↑s.n : Int).toNat)] = [D.st [D.arr IntKind.u32 (8 : Nat) s_1.h.l, D.val (Value.int IntKind.u64 (↑s_1.n : Int)), D.arr IntKind.u8 (64 : Nat) s_1.l], D.ints IntKind.u8 p] ∧ okS s_1 ∧ isBytes p ∧ p.length ≤ (1000000000000000 : Nat)) ∧
 (Sk.st [Sk.arr (8 : Nat), Sk.one, Sk.arr (64 : Nat)] = Sk.st [Sk.arr (8 : Nat), Sk.one, Sk.arr (64 : Nat)] ∧ (73 : Nat) ≠ (0 : Nat) ∧ (73 : Nat) = (73 : Nat) ∧ false = false) ∧
 (True ∧ (32 : Nat) ≠ (0 : Nat)) ∧
 (Sk.st [Sk.arr (8 : Nat), Sk.one, Sk.arr (64 : Nat)] = Sk.st [Sk.arr (8 : Nat), Sk.one, Sk.arr (64 : Nat)] ∧ (0 : Nat) < (3 : Nat)) ∧
 ((8 : Nat) ≠ (0 : Nat) ∧ (8 : Nat) = (8 : Nat) ∧ true = true) ∧
 True ∧
 (((AV.d (D.val (Value.int IntKind.i64 (0 : Int))) = AV.d (D.val (Value.int IntKind.i64 (↑(Int.toNat (0 : Int)) : Int))) ∧ True) ∧
 (sm
 (some
 (Blk.fix
 (D.st
 [D.arr IntKind.u32 (8 : Nat) (wrS (ofS (D.st [D.arr IntKind.u32 (8 : Nat) s.h.l, D.val (Value.int IntKind.u64 (↑s.n : Int)), D.arr IntKind.u8 (64 : Nat) s.l])) (padL (↑s.n : Int).toNat)).h.l,
 D.val (Value.int IntKind.u64 (↑(wrS (ofS (D.st [D.arr IntKind.u32 (8 : Nat) s.h.l, D.val (Value.int IntKind.u64 (↑s.n : Int)), D.arr IntKind.u8 (64 : Nat) s.l])) (padL (↑s.n : Int).toNat)).n : Int)),
 D.arr IntKind.u8 (64 : Nat) (wrS (ofS (D.st [D.arr IntKind.u32 (8 : Nat) s.h.l, D.val (Value.int IntKind.u64 (↑s.n : Int)), D.arr IntKind.u8 (64 : Nat) s.l])) (padL (↑s.n : Int).toNat)).l]))) ∧
 sm
 (some
 (Blk.fix
 (D.arr IntKind.u8 (32 : Nat)
 [(0 : Int), (0 : Int), (0 : Int), (0 : Int), (0 : Int), (0 : Int), (0 : Int), (0 : Int), (0 : Int), (0 : Int), (0 : Int), (0 : Int), (0 : Int), (0 : Int), (0 : Int), (0 : Int), (0 : Int), (0 : Int), (0 : Int), (0 : Int), (0 : Int), (0 : Int), (0 : Int), (0 : Int), (0 : Int), (0 : Int), (0 : Int), (0 : Int), (0 : Int), (0 : Int), (0 : Int),
 (0 : Int)]))) ∧
 some
 (Blk.fix
 (D.arr IntKind.u8 (32 : Nat)
 [(0 : Int), (0 : Int), (0 : Int), (0 : Int), (0 : Int), (0 : Int), (0 : Int), (0 : Int), (0 : Int), (0 : Int), (0 : Int), (0 : Int), (0 : Int), (0 : Int), (0 : Int), (0 : Int), (0 : Int), (0 : Int), (0 : Int), (0 : Int), (0 : Int), (0 : Int), (0 : Int), (0 : Int), (0 : Int), (0 : Int), (0 : Int), (0 : Int), (0 : Int), (0 : Int), (0 : Int),
 (0 : Int)])) =
 some
 (Blk.fix
 (D.arr IntKind.u8 (32 : Nat)
 (List.take (0 : Nat) (sumL s) ++
 [(0 : Int), (0 : Int), (0 : Int), (0 : Int), (0 : Int), (0 : Int), (0 : Int), (0 : Int), (0 : Int), (0 : Int), (0 : Int), (0 : Int), (0 : Int), (0 : Int), (0 : Int), (0 : Int), (0 : Int), (0 : Int), (0 : Int), (0 : Int), (0 : Int), (0 : Int), (0 : Int), (0 : Int), (0 : Int), (0 : Int), (0 : Int), (0 : Int), (0 : Int), (0 : Int), (0 : Int),
 (0 : Int)]))) ∧
 True) ∧
 true = true) ∧
 Int.toNat (0 : Int) ≤ (8 : Nat)) ∧
 ∀ (x : Nat),
 x ≤ (8 : Nat) →
 true = true ∧
 True ∧
 match decide ((↑x : Int) < (8 : Int)) with
 | true =>
  True ∧
  ((0 : Int) ≤ (↑x : Int) ∧ (↑x : Int) < (↑(8 : Nat) : Int) ∧ (8 : Nat) = (8 : Nat) ∧ Ty.int IntKind.u32 = Ty.int IntKind.u32 ∧ (1 : Nat) = (1 : Nat)) ∧
  True ∧
  True ∧
  True ∧
  True ∧
  True ∧
  True ∧
  True ∧
  True ∧
  True ∧
  True ∧
  True ∧
  True ∧
  True ∧
  True ∧
  (0 : Int) ≤ (24 : Int) ∧
  True ∧
  True ∧
  (0 : Int) ≤ (16 : Int) ∧
  True ∧
  True ∧
  (0 : Int) ≤ (8 : Int) ∧
  True ∧
  True ∧
  True ∧
  ((0 : Int) ≤ IntKind.i64.wrap ((4 : Int) * (↑x : Int)) ∧ IntKind.i64.wrap ((4 : Int) * (↑x : Int)) < (↑(32 : Nat) : Int) ∧ (32 : Nat) = (32 : Nat) ∧ (1 : Nat) = (1 : Nat)) ∧
  (((IntKind.i64.wrap ((4 : Int) * (↑x : Int))).toNat < (32 : Nat) ∧ ([] : List Nat) = [] ∧ true = true) ∧ (1 : Nat) ≠ (0 : Nat) ∧ (1 : Nat) = (1 : Nat) ∧ false = false) ∧
  ((0 : Int) ≤ IntKind.i64.wrap (IntKind.i64.wrap ((4 : Int) * (↑x : Int)) + (1 : Int)) ∧ IntKind.i64.wrap (IntKind.i64.wrap ((4 : Int) * (↑x : Int)) + (1 : Int)) < (↑(32 : Nat) : Int) ∧ (32 : Nat) = (32 : Nat) ∧ (1 : Nat) = (1 : Nat)) ∧
  (((IntKind.i64.wrap (IntKind.i64.wrap ((4 : Int) * (↑x : Int)) + (1 : Int))).toNat < (32 : Nat) ∧ ([] : List Nat) = [] ∧ true = true) ∧ (1 : Nat) ≠ (0 : Nat) ∧ (1 : Nat) = (1 : Nat) ∧ false = false) ∧
  ((0 : Int) ≤ IntKind.i64.wrap (IntKind.i64.wrap ((4 : Int) * (↑x : Int)) + (2 : Int)) ∧ IntKind.i64.wrap (IntKind.i64.wrap ((4 : Int) * (↑x : Int)) + (2 : Int)) < (↑(32 : Nat) : Int) ∧ (32 : Nat) = (32 : Nat) ∧ (1 : Nat) = (1 : Nat)) ∧
  (((IntKind.i64.wrap (IntKind.i64.wrap ((4 : Int) * (↑x : Int)) + (2 : Int))).toNat < (32 : Nat) ∧ ([] : List Nat) = [] ∧ true = true) ∧ (1 : Nat) ≠ (0 : Nat) ∧ (1 : Nat) = (1 : Nat) ∧ false = false) ∧
  ((0 : Int) ≤ IntKind.i64.wrap (IntKind.i64.wrap ((4 : Int) * (↑x : Int)) + (3 : Int)) ∧ IntKind.i64.wrap (IntKind.i64.wrap ((4 : Int) * (↑x : Int)) + (3 : Int)) < (↑(32 : Nat) : Int) ∧ (32 : Nat) = (32 : Nat) ∧ (1 : Nat) = (1 : Nat)) ∧
  (((IntKind.i64.wrap (IntKind.i64.wrap ((4 : Int) * (↑x : Int)) + (3 : Int))).toNat < (32 : Nat) ∧ ([] : List Nat) = [] ∧ true = true) ∧ (1 : Nat) ≠ (0 : Nat) ∧ (1 : Nat) = (1 : Nat) ∧ false = false) ∧
  True ∧
  True ∧
  ((AV.d (D.val (Value.int IntKind.i64 (IntKind.i64.wrap ((↑x : Int) + (1 : Int))))) = AV.d (D.val (Value.int IntKind.i64 (↑(IntKind.i64.wrap ((↑x : Int) + (1 : Int))).toNat : Int))) ∧ True) ∧
  (sm
  (some
  (Blk.fix
  (D.st
  [D.arr IntKind.u32 (8 : Nat) (wrS (ofS (D.st [D.arr IntKind.u32 (8 : Nat) s.h.l, D.val (Value.int IntKind.u64 (↑s.n : Int)), D.arr IntKind.u8 (64 : Nat) s.l])) (padL (↑s.n : Int).toNat)).h.l,
  D.val (Value.int IntKind.u64 (↑(wrS (ofS (D.st [D.arr IntKind.u32 (8 : Nat) s.h.l, D.val (Value.int IntKind.u64 (↑s.n : Int)), D.arr IntKind.u8 (64 : Nat) s.l])) (padL (↑s.n : Int).toNat)).n : Int)),
  D.arr IntKind.u8 (64 : Nat) (wrS (ofS (D.st [D.arr IntKind.u32 (8 : Nat) s.h.l, D.val (Value.int IntKind.u64 (↑s.n : Int)), D.arr IntKind.u8 (64 : Nat) s.l])) (padL (↑s.n : Int).toNat)).l]))) ∧
  sm
  (some
  (Blk.fix
  (D.arr IntKind.u8 (32 : Nat)
  [(0 : Int), (0 : Int), (0 : Int), (0 : Int), (0 : Int), (0 : Int), (0 : Int), (0 : Int), (0 : Int), (0 : Int), (0 : Int), (0 : Int), (0 : Int), (0 : Int), (0 : Int), (0 : Int), (0 : Int), (0 : Int), (0 : Int), (0 : Int), (0 : Int), (0 : Int), (0 : Int), (0 : Int),
  (0 : Int), (0 : Int), (0 : Int), (0 : Int), (0 : Int), (0 : Int), (0 : Int), (0 : Int)]))) ∧
  some
  (Blk.fix
  (D.arr IntKind.u8 (32 : Nat)
  (((((List.take ((4 : Nat) * x) (sumL s) ++ List.replicate ((32 : Nat) - (4 : Nat) * x) (0 : Int)).set (IntKind.i64.wrap ((4 : Int) * (↑x : Int))).toNat
  (IntKind.u8.wrap (ishr IntKind.u32 ((wrS (ofS (D.st [D.arr IntKind.u32 (8 : Nat) s.h.l, D.val (Value.int IntKind.u64 (↑s.n : Int)), D.arr IntKind.u8 (64 : Nat) s.l])) (padL (↑s.n : Int).toNat)).h.l.getD (↑x : Int).toNat (0 : Int)) (24 : Int)))).set
  (IntKind.i64.wrap (IntKind.i64.wrap ((4 : Int) * (↑x : Int)) + (1 : Int))).toNat
  (IntKind.u8.wrap (ishr IntKind.u32 ((wrS (ofS (D.st [D.arr IntKind.u32 (8 : Nat) s.h.l, D.val (Value.int IntKind.u64 (↑s.n : Int)), D.arr IntKind.u8 (64 : Nat) s.l])) (padL (↑s.n : Int).toNat)).h.l.getD (↑x : Int).toNat (0 : Int)) (16 : Int)))).set
  (IntKind.i64.wrap (IntKind.i64.wrap ((4 : Int) * (↑x : Int)) + (2 : Int))).toNat
  (IntKind.u8.wrap (ishr IntKind.u32 ((wrS (ofS (D.st [D.arr IntKind.u32 (8 : Nat) s.h.l, D.val (Value.int IntKind.u64 (↑s.n : Int)), D.arr IntKind.u8 (64 : Nat) s.l])) (padL (↑s.n : Int).toNat)).h.l.getD (↑x : Int).toNat (0 : Int)) (8 : Int)))).set
  (IntKind.i64.wrap (IntKind.i64.wrap ((4 : Int) * (↑x : Int)) + (3 : Int))).toNat
  (IntKind.u8.wrap ((wrS (ofS (D.st [D.arr IntKind.u32 (8 : Nat) s.h.l, D.val (Value.int IntKind.u64 (↑s.n : Int)), D.arr IntKind.u8 (64 : Nat) s.l])) (padL (↑s.n : Int).toNat)).h.l.getD (↑x : Int).toNat (0 : Int)))))) =
  some (Blk.fix (D.arr IntKind.u8 (32 : Nat) (List.take ((4 : Nat) * (IntKind.i64.wrap ((↑x : Int) + (1 : Int))).toNat) (sumL s) ++ List.replicate ((32 : Nat) - (4 : Nat) * (IntKind.i64.wrap ((↑x : Int) + (1 : Int))).toNat) (0 : Int)))) ∧
  True) ∧
  true = true) ∧
  (IntKind.i64.wrap ((↑x : Int) + (1 : Int))).toNat ≤ (8 : Nat) ∧ (8 : Nat) - (IntKind.i64.wrap ((↑x : Int) + (1 : Int))).toNat < (8 : Nat) - x
 | false =>
  ((32 : Nat) ≠ (0 : Nat) ∧ (32 : Nat) = (32 : Nat) ∧ true = true) ∧
  (Sk.arr (32 : Nat) = Sk.arr (32 : Nat) ∧ (32 : Nat) ≠ (0 : Nat) ∧ (32 : Nat) = (32 : Nat) ∧ false = false) ∧ (((32 : Nat) ≠ (0 : Nat) ∧ (32 : Nat) = (32 : Nat) ∧ true = true) ∧ True) ∧ D.arr IntKind.u8 (32 : Nat) (List.take ((4 : Nat) * x) (sumL s) ++ List.replicate ((32 : Nat) - (4 : Nat) * x) (0 : Int)) = F) := by kernel_rfl
set_option maxRecDepth 100000 in
theorem vc116  (F : D)  :
    (owed c0 (fun _ => none) Tryd.f116 [] F) = (
 True ∧ ((1 : Nat) = (1 : Nat) ∧ (8 : Nat) ≤ (4096 : Nat)) ∧ True ∧ (false = false ∧ True) ∧ D.ints IntKind.u32 [(1779033703 : Int), (3144134277 : Int), (1013904242 : Int), (2773480762 : Int), (1359893119 : Int), (2600822924 : Int), (528734635 : Int), (1541459225 : Int)] = F) := by kernel_rfl
set_option maxRecDepth 100000 in
theorem vc115  (x : R8) (n : Nat) (p : List Int) (F : D)  :
    (owed c115 (inv115 x n p) Tryd.f115 [.ints .u32 x.l, u64 (n : Int), .str p] F) = (
 (True ∧ (32 : Nat) ≠ (0 : Nat)) ∧
 True ∧
 True ∧
 True ∧
 True ∧
 True ∧
 True ∧
 (∃ (n_1 : Nat), [D.val (Value.int IntKind.u64 (IntKind.u64.wrap ((↑n : Int) + IntKind.u64.wrap (↑p.length : Int))))] = [D.val (Value.int IntKind.u64 (↑n_1 : Int))] ∧ n_1 < (18446744073709551616 : Nat)) ∧
 (↑(p.length + (padL (IntKind.u64.wrap ((↑n : Int) + IntKind.u64.wrap (↑p.length : Int))).toNat).length) : Int) ≤ (9223372036854775807 : Int) ∧
 True ∧
 True ∧
 (((AV.d (D.val (Value.int IntKind.i64 (0 : Int))) = AV.d (D.val (Value.int IntKind.i64 (↑(0 : Nat) : Int))) ∧ AV.d (D.ints IntKind.u32 x.l) = AV.d (D.ints IntKind.u32 (fhK x (fullL n p) (0 / 64 : Nat)).l) ∧ True) ∧
 (sm
 (some
 (Blk.fix
 (D.arr IntKind.u8 (32 : Nat)
 [(0 : Int), (0 : Int), (0 : Int), (0 : Int), (0 : Int), (0 : Int), (0 : Int), (0 : Int), (0 : Int), (0 : Int), (0 : Int), (0 : Int), (0 : Int), (0 : Int), (0 : Int), (0 : Int), (0 : Int), (0 : Int), (0 : Int), (0 : Int), (0 : Int), (0 : Int), (0 : Int), (0 : Int), (0 : Int), (0 : Int), (0 : Int), (0 : Int), (0 : Int), (0 : Int), (0 : Int), (0 : Int)]))) ∧
 True) ∧
 true = true) ∧
 (0 / 64 : Nat) ≤ (fullL n p).length / (64 : Nat)) ∧
 ∀ (x_1 : Nat),
 x_1 ≤ (fullL n p).length / (64 : Nat) →
 true = true ∧
 True ∧
 True ∧
 True ∧
 True ∧
 match decide ((↑((64 : Nat) * x_1) : Int) < (↑(p ++ padL (IntKind.u64.wrap ((↑n : Int) + IntKind.u64.wrap (↑p.length : Int))).toNat).length : Int)) with
 | true =>
  True ∧
  True ∧
  True ∧
  True ∧
  True ∧
  ((0 : Int) ≤ (↑((64 : Nat) * x_1) : Int) ∧ (↑((64 : Nat) * x_1) : Int) ≤ IntKind.i64.wrap ((↑((64 : Nat) * x_1) : Int) + (64 : Int)) ∧ IntKind.i64.wrap ((↑((64 : Nat) * x_1) : Int) + (64 : Int)) ≤ (↑(p ++ padL (IntKind.u64.wrap ((↑n : Int) + IntKind.u64.wrap (↑p.length : Int))).toNat).length : Int)) ∧
  (∃ (x_2 : R8),
  ∃ (l : List Int),
  [D.ints IntKind.u32 (fhK x (fullL n p) x_1).l, D.str (List.drop (↑((64 : Nat) * x_1) : Int).toNat (List.take (IntKind.i64.wrap ((↑((64 : Nat) * x_1) : Int) + (64 : Int))).toNat (p ++ padL (IntKind.u64.wrap ((↑n : Int) + IntKind.u64.wrap (↑p.length : Int))).toNat)))] = [D.ints IntKind.u32 x_2.l, D.str l] ∧
  isBytes l ∧ l.length = (64 : Nat)) ∧
  True ∧
  True ∧
  True ∧
  True ∧
  ((AV.d (D.val (Value.int IntKind.i64 (IntKind.i64.wrap ((↑((64 : Nat) * x_1) : Int) + (64 : Int))))) = AV.d (D.val (Value.int IntKind.i64 (↑((64 : Nat) * ((IntKind.i64.wrap ((↑((64 : Nat) * x_1) : Int) + (64 : Int))).toNat / (64 : Nat))) : Int))) ∧
  AV.d (D.ints IntKind.u32 (prL (fhK x (fullL n p) x_1).l (List.drop (↑((64 : Nat) * x_1) : Int).toNat (List.take (IntKind.i64.wrap ((↑((64 : Nat) * x_1) : Int) + (64 : Int))).toNat (p ++ padL (IntKind.u64.wrap ((↑n : Int) + IntKind.u64.wrap (↑p.length : Int))).toNat))))) =
  AV.d (D.ints IntKind.u32 (fhK x (fullL n p) ((IntKind.i64.wrap ((↑((64 : Nat) * x_1) : Int) + (64 : Int))).toNat / (64 : Nat))).l) ∧
  True) ∧
  (sm
  (some
  (Blk.fix
  (D.arr IntKind.u8 (32 : Nat)
  [(0 : Int), (0 : Int), (0 : Int), (0 : Int), (0 : Int), (0 : Int), (0 : Int), (0 : Int), (0 : Int), (0 : Int), (0 : Int), (0 : Int), (0 : Int), (0 : Int), (0 : Int), (0 : Int), (0 : Int), (0 : Int), (0 : Int), (0 : Int), (0 : Int), (0 : Int), (0 : Int), (0 : Int), (0 : Int), (0 : Int), (0 : Int), (0 : Int), (0 : Int),
  (0 : Int), (0 : Int), (0 : Int)]))) ∧
  True) ∧
  true = true) ∧
  (IntKind.i64.wrap ((↑((64 : Nat) * x_1) : Int) + (64 : Int))).toNat / (64 : Nat) ≤ (fullL n p).length / (64 : Nat) ∧ (fullL n p).length / (64 : Nat) - (IntKind.i64.wrap ((↑((64 : Nat) * x_1) : Int) + (64 : Int))).toNat / (64 : Nat) < (fullL n p).length / (64 : Nat) - x_1
 | false =>
  (True ∧ (32 : Nat) ≠ (0 : Nat)) ∧
  True ∧
  (((AV.d (D.val (Value.int IntKind.i64 (0 : Int))) = AV.d (D.val (Value.int IntKind.i64 (↑(Int.toNat (0 : Int)) : Int))) ∧ True) ∧
  (sm
  (some
  (Blk.fix
  (D.arr IntKind.u8 (32 : Nat)
  [(0 : Int), (0 : Int), (0 : Int), (0 : Int), (0 : Int), (0 : Int), (0 : Int), (0 : Int), (0 : Int), (0 : Int), (0 : Int), (0 : Int), (0 : Int), (0 : Int), (0 : Int), (0 : Int), (0 : Int), (0 : Int), (0 : Int), (0 : Int), (0 : Int), (0 : Int), (0 : Int), (0 : Int), (0 : Int), (0 : Int), (0 : Int), (0 : Int), (0 : Int), (0 : Int),
  (0 : Int), (0 : Int)]))) ∧
  some
  (Blk.fix
  (D.arr IntKind.u8 (32 : Nat)
  [(0 : Int), (0 : Int), (0 : Int), (0 : Int), (0 : Int), (0 : Int), (0 : Int), (0 : Int), (0 : Int), (0 : Int), (0 : Int), (0 : Int), (0 : Int), (0 : Int), (0 : Int), (0 : Int), (0 : Int), (0 : Int), (0 : Int), (0 : Int), (0 : Int), (0 : Int), (0 : Int), (0 : Int), (0 : Int), (0 : Int), (0 : Int), (0 : Int), (0 : Int), (0 : Int),
  (0 : Int), (0 : Int)])) =
  some
  (Blk.fix
  (D.arr IntKind.u8 (32 : Nat)
  (List.take (Int.toNat (0 : Int)) (fromL x n p) ++
  [(0 : Int), (0 : Int), (0 : Int), (0 : Int), (0 : Int), (0 : Int), (0 : Int), (0 : Int), (0 : Int), (0 : Int), (0 : Int), (0 : Int), (0 : Int), (0 : Int), (0 : Int), (0 : Int), (0 : Int), (0 : Int), (0 : Int), (0 : Int), (0 : Int), (0 : Int), (0 : Int), (0 : Int), (0 : Int), (0 : Int), (0 : Int), (0 : Int), (0 : Int), (0 : Int),
  (0 : Int), (0 : Int)]))) ∧
  True) ∧
  true = true) ∧
  Int.toNat (0 : Int) ≤ (32 : Nat)) ∧
  ∀ (x_2 : Nat),
  x_2 ≤ (32 : Nat) →
  true = true ∧
  True ∧
  match decide ((↑x_2 : Int) < (32 : Int)) with
  | true =>
   True ∧
   True ∧
   True ∧
   True ∧
   True ∧
   (4 : Int) ≠ (0 : Int) ∧
   ((0 : Int) ≤ IntKind.i64.wrap ((↑x_2 : Int).tdiv (4 : Int)) ∧ IntKind.i64.wrap ((↑x_2 : Int).tdiv (4 : Int)) < (↑(fhK x (fullL n p) x_1).l.length : Int) ∧ (1 : Nat) = (1 : Nat)) ∧
   ((1 : Nat) ≠ (0 : Nat) ∧ (1 : Nat) = (1 : Nat) ∧ false = false) ∧
   True ∧
   (4 : Int) ≠ (0 : Int) ∧
   True ∧
   True ∧
   (0 : Int) ≤ IntKind.i64.wrap ((24 : Int) - IntKind.i64.wrap ((8 : Int) * (↑x_2 : Int).tmod (4 : Int))) ∧
   True ∧
   ((0 : Int) ≤ (↑x_2 : Int) ∧ (↑x_2 : Int) < (↑(32 : Nat) : Int) ∧ (32 : Nat) = (32 : Nat) ∧ (1 : Nat) = (1 : Nat)) ∧
   (((↑x_2 : Int).toNat < (32 : Nat) ∧ ([] : List Nat) = [] ∧ true = true) ∧ (1 : Nat) ≠ (0 : Nat) ∧ (1 : Nat) = (1 : Nat) ∧ false = false) ∧
   True ∧
   True ∧
   ((AV.d (D.val (Value.int IntKind.i64 (IntKind.i64.wrap ((↑x_2 : Int) + (1 : Int))))) = AV.d (D.val (Value.int IntKind.i64 (↑(IntKind.i64.wrap ((↑x_2 : Int) + (1 : Int))).toNat : Int))) ∧ True) ∧
   (sm
   (some
   (Blk.fix
   (D.arr IntKind.u8 (32 : Nat)
   [(0 : Int), (0 : Int), (0 : Int), (0 : Int), (0 : Int), (0 : Int), (0 : Int), (0 : Int), (0 : Int), (0 : Int), (0 : Int), (0 : Int), (0 : Int), (0 : Int), (0 : Int), (0 : Int), (0 : Int), (0 : Int), (0 : Int), (0 : Int), (0 : Int), (0 : Int), (0 : Int), (0 : Int), (0 : Int), (0 : Int),
   (0 : Int), (0 : Int), (0 : Int), (0 : Int), (0 : Int), (0 : Int)]))) ∧
   some
   (Blk.fix
   (D.arr IntKind.u8 (32 : Nat)
   ((List.take x_2 (fromL x n p) ++ List.replicate ((32 : Nat) - x_2) (0 : Int)).set (↑x_2 : Int).toNat
   (IntKind.u8.wrap (ishr IntKind.u32 ((fhK x (fullL n p) x_1).l.getD (IntKind.i64.wrap ((↑x_2 : Int).tdiv (4 : Int))).toNat (0 : Int)) (IntKind.i64.wrap ((24 : Int) - IntKind.i64.wrap ((8 : Int) * (↑x_2 : Int).tmod (4 : Int))))))))) =
   some (Blk.fix (D.arr IntKind.u8 (32 : Nat) (List.take (IntKind.i64.wrap ((↑x_2 : Int) + (1 : Int))).toNat (fromL x n p) ++ List.replicate ((32 : Nat) - (IntKind.i64.wrap ((↑x_2 : Int) + (1 : Int))).toNat) (0 : Int)))) ∧
   True) ∧
   true = true) ∧
   (IntKind.i64.wrap ((↑x_2 : Int) + (1 : Int))).toNat ≤ (32 : Nat) ∧ (32 : Nat) - (IntKind.i64.wrap ((↑x_2 : Int) + (1 : Int))).toNat < (32 : Nat) - x_2
  | false =>
   ((32 : Nat) ≠ (0 : Nat) ∧ (32 : Nat) = (32 : Nat) ∧ true = true) ∧
   (Sk.arr (32 : Nat) = Sk.arr (32 : Nat) ∧ (32 : Nat) ≠ (0 : Nat) ∧ (32 : Nat) = (32 : Nat) ∧ false = false) ∧ (((32 : Nat) ≠ (0 : Nat) ∧ (32 : Nat) = (32 : Nat) ∧ true = true) ∧ True) ∧ D.arr IntKind.u8 (32 : Nat) (List.take x_2 (fromL x n p) ++ List.replicate ((32 : Nat) - x_2) (0 : Int)) = F) := by kernel_rfl
set_option maxRecDepth 100000 in
theorem vc70  (p : List Int) (F : D)  :
    (owed c70 (fun _ => none) Tryd.f70 [.ints .u8 p] F) = (
 (True ∧ (32 : Nat) ≠ (0 : Nat)) ∧
 (0 : Nat) = (0 : Nat) ∧
 True ∧
 (∃ (s : HS), ∃ (p_1 : List Int), [D.st [D.arr IntKind.u32 (8 : Nat) st0.h.l, D.val (Value.int IntKind.u64 (↑st0.n : Int)), D.arr IntKind.u8 (64 : Nat) st0.l], D.ints IntKind.u8 p] = [D.st [D.arr IntKind.u32 (8 : Nat) s.h.l, D.val (Value.int IntKind.u64 (↑s.n : Int)), D.arr IntKind.u8 (64 : Nat) s.l], D.ints IntKind.u8 p_1] ∧ okS s ∧ isBytes p_1 ∧ p_1.length ≤ (1000000000000000 : Nat)) ∧
 (∃ (s : HS),
 [D.st
 [D.arr IntKind.u32 (8 : Nat) (wrS (ofS (D.st [D.arr IntKind.u32 (8 : Nat) st0.h.l, D.val (Value.int IntKind.u64 (↑st0.n : Int)), D.arr IntKind.u8 (64 : Nat) st0.l])) p).h.l, D.val (Value.int IntKind.u64 (↑(wrS (ofS (D.st [D.arr IntKind.u32 (8 : Nat) st0.h.l, D.val (Value.int IntKind.u64 (↑st0.n : Int)), D.arr IntKind.u8 (64 : Nat) st0.l])) p).n : Int)),
 D.arr IntKind.u8 (64 : Nat) (wrS (ofS (D.st [D.arr IntKind.u32 (8 : Nat) st0.h.l, D.val (Value.int IntKind.u64 (↑st0.n : Int)), D.arr IntKind.u8 (64 : Nat) st0.l])) p).l]] =
 [D.st [D.arr IntKind.u32 (8 : Nat) s.h.l, D.val (Value.int IntKind.u64 (↑s.n : Int)), D.arr IntKind.u8 (64 : Nat) s.l]] ∧
 okS s) ∧
 (Sk.arr (32 : Nat) = Sk.arr (32 : Nat) ∧ (32 : Nat) ≠ (0 : Nat) ∧ (32 : Nat) = (32 : Nat) ∧ false = false) ∧
 (((32 : Nat) ≠ (0 : Nat) ∧ (32 : Nat) = (32 : Nat) ∧ true = true) ∧ True) ∧
 D.arr IntKind.u8 (32 : Nat)
 (sumL
 (ofS
 (D.st
 [D.arr IntKind.u32 (8 : Nat) (wrS (ofS (D.st [D.arr IntKind.u32 (8 : Nat) st0.h.l, D.val (Value.int IntKind.u64 (↑st0.n : Int)), D.arr IntKind.u8 (64 : Nat) st0.l])) p).h.l, D.val (Value.int IntKind.u64 (↑(wrS (ofS (D.st [D.arr IntKind.u32 (8 : Nat) st0.h.l, D.val (Value.int IntKind.u64 (↑st0.n : Int)), D.arr IntKind.u8 (64 : Nat) st0.l])) p).n : Int)),
 D.arr IntKind.u8 (64 : Nat) (wrS (ofS (D.st [D.arr IntKind.u32 (8 : Nat) st0.h.l, D.val (Value.int IntKind.u64 (↑st0.n : Int)), D.arr IntKind.u8 (64 : Nat) st0.l])) p).l]))) =
 F) := by kernel_rfl
set_option maxRecDepth 100000 in
theorem vc71  (p : List Int) (F : D)  :
    (owed c71 (fun _ => none) Tryd.f71 [.str p] F) = (
 (True ∧ (32 : Nat) ≠ (0 : Nat)) ∧
 (0 : Nat) = (0 : Nat) ∧
 True ∧
 (∃ (x : R8), ∃ (n : Nat), ∃ (p_1 : List Int), [D.ints IntKind.u32 iv.l, D.val (Value.int IntKind.u64 (0 : Int)), D.str p] = [D.ints IntKind.u32 x.l, D.val (Value.int IntKind.u64 (↑n : Int)), D.str p_1] ∧ isBytes p_1 ∧ p_1.length ≤ (1000000000000000 : Nat) ∧ n % (64 : Nat) = (0 : Nat) ∧ n < (18446744073709551616 : Nat)) ∧
 (Sk.arr (32 : Nat) = Sk.arr (32 : Nat) ∧ (32 : Nat) ≠ (0 : Nat) ∧ (32 : Nat) = (32 : Nat) ∧ false = false) ∧ (((32 : Nat) ≠ (0 : Nat) ∧ (32 : Nat) = (32 : Nat) ∧ true = true) ∧ True) ∧ D.arr IntKind.u8 (32 : Nat) (fromL (ofR iv.l) (0 : Nat) p) = F) := by kernel_rfl
end Go.Proofs.YtkicjckhkefnpaaDoor
namespace Go.Proofs.YtkicjckhkefnpaaDoor
open Go Go.Vg
theorem btw (x : R8) {j : Nat} (h : j < 8) {k : Nat} (hk : k ≤ 3) : IntKind.u8.wrap (ishr .u32 (x.l.getD j 0) ((8 * k : Nat) : Int)) = bt x.l j k := by
  obtain ⟨w, e⟩ := xl_get x h
  unfold bt
  rw [e, ishrN .u32 (show 8 * k ≤ 32 by omega), wN8, Int.toNat_natCast, Nat.pow_mul]
theorem btw0 (x : R8) {j : Nat} (h : j < 8) : IntKind.u8.wrap (x.l.getD j 0) = bt x.l j 0 := by
  obtain ⟨w, e⟩ := xl_get x h
  unfold bt
  rw [e, wN8, Int.toNat_natCast, Nat.pow_zero, Nat.div_one]
theorem tl_bytes (b : Nat) : ∀ k, isBytes (tl b k)
  | 0 => fun x hx => by cases hx
  | k + 1 => fun x hx => by
    rcases List.mem_cons.1 hx with rfl | h
    · omega
    · exact tl_bytes b k x h
theorem padL_bytes (n : Nat) : isBytes (padL n) := by
  intro x hx
  unfold padL at hx
  rcases List.mem_cons.1 hx with rfl | h
  · omega
  · rcases List.mem_append.1 h with h | h
    · have := List.eq_of_mem_replicate h
      omega
    · exact tl_bytes _ _ x h
theorem bytes_app {a b : List Int} (ha : isBytes a) (hb : isBytes b) : isBytes (a ++ b) := by
  intro x hx
  rcases List.mem_append.1 hx with h | h
  · exact ha x h
  · exact hb x h
theorem bytes_drop {l : List Int} (h : isBytes l) (n : Nat) : isBytes (l.drop n) := fun x hx => h x (List.mem_of_mem_drop hx)
set_option maxRecDepth 100000 in
theorem m75 : Meets Tryd.prog 75 sp75 := by
  refine meets_of_owed (C := c0) ⟨tab_ok, fun f s h => by cases h⟩ (by kernel_rfl) (by kernel_rfl : Tryd.prog.funcs[75]? = some Tryd.f75) (by kernel_rfl) (by kernel_rfl) (by kernel_rfl) _ ?_
  rintro ds hds
  have hds : ds.length = 0 := hds
  obtain rfl := List.eq_nil_of_length_eq_zero hds
  refine ⟨fun _ => rfl, fun _ => none, ?_⟩
  show owed c0 (fun _ => none) Tryd.f75 [] (stD st0)
  rw [vc75]
  and_intros <;> first | rfl | decide | trivial
set_option maxRecDepth 100000 in
theorem m116 : Meets Tryd.prog 116 sp116 := by
  refine meets_of_owed (C := c0) ⟨tab_ok, fun f s h => by cases h⟩ (by kernel_rfl) (by kernel_rfl : Tryd.prog.funcs[116]? = some Tryd.f116) (by kernel_rfl) (by kernel_rfl) (by kernel_rfl) _ ?_
  rintro ds hds
  have hds : ds.length = 0 := hds
  obtain rfl := List.eq_nil_of_length_eq_zero hds
  refine ⟨(fun h => by cases h), fun _ => none, ?_⟩
  show owed c0 (fun _ => none) Tryd.f116 [] (.ints .u32 iv.l)
  rw [vc116]
  and_intros <;> first | rfl | decide | trivial
set_option maxRecDepth 100000 in
theorem m77 : Meets Tryd.prog 77 sp77 := by
  refine meets_of_owed (C := c77) ⟨tab_ok, lkS_ok ⟨m76, m118, trivial⟩⟩ (by kernel_rfl) (by kernel_rfl : Tryd.prog.funcs[77]? = some Tryd.f77) (by kernel_rfl) (by kernel_rfl) (by kernel_rfl) _ ?_
  rintro _ ⟨s, rfl, hs⟩
  refine ⟨fun _ => rfl, inv77 s, ?_⟩
  show owed c77 (inv77 s) Tryd.f77 [stD s] (d32 (sumL (ofS (stD s))))
  have e : ofS (D.st [D.arr .u32 8 s.h.l, D.val (.int .u64 (s.n : Int)), D.arr .u8 64 s.l]) = s := ofS_eq s
  rw [vc77]
  simp (decide := true) only [e, eq_self, true_and, and_true, ne_eq, not_false_eq_true, Int.toNat_natCast]
  have hz := zc_lt s.n
  have hl := padL_len s.n
  have hy : sumL s = outL (wrS s (padL s.n)).h := rfl
  refine ⟨⟨s.n, rfl, hs.2.2⟩, ⟨s, padL s.n, rfl, hs, padL_bytes _, by omega⟩, (by and_intros <;> first | rfl | trivial | omega), fun x hx => ?_⟩
  generalize wrS s (padL s.n) = y at *
  have hL : (sumL s).length = 32 := by rw [hy]; exact outL_len _
  have g : ∀ j, j ≤ 3 → 4 * x + j < 32 → (sumL s).getD (4 * x + j) 0 = bt y.h.l x (3 - j) := by
    intro j hj hlt
    rw [hy, outL_get _ hlt, show (4 * x + j) / 4 = x by omega, show (4 * x + j) % 4 = j by omega]
  generalize sumL s = L at *
  split
  · rename_i h
    have h : x < 8 := by have := of_decide_eq_true h; omega
    have ew : IntKind.i64.wrap ((x : Int) + 1) = ((x + 1 : Nat) : Int) := by rw [wi (by omega) (by omega)]; omega
    have e4 : IntKind.i64.wrap (4 * (x : Int)) = ((4 * x : Nat) : Int) := by rw [wi (by omega) (by omega)]; omega
    have e1 : ∀ j : Nat, j ≤ 3 → IntKind.i64.wrap (((4 * x : Nat) : Int) + (j : Int)) = ((4 * x + j : Nat) : Int) := fun j hj => by rw [wi (by omega) (by omega)]; omega
    have e41 := e1 1 (by decide)
    have e42 := e1 2 (by decide)
    have e43 := e1 3 (by decide)
    have b3 := btw y.h h (k := 3) (by decide)
    have b2 := btw y.h h (k := 2) (by decide)
    have b1 := btw y.h h (k := 1) (by decide)
    have b0 := btw0 y.h h
    have g0 := g 0 (by decide) (by omega)
    have g1 := g 1 (by decide) (by omega)
    have g2 := g 2 (by decide) (by omega)
    have g3 := g 3 (by decide) (by omega)
    have f0 := fill L (n := 32) (k := 4 * x + 0) hL (by omega)
    have f1 := fill L (n := 32) (k := 4 * x + 1) hL (by omega)
    have f2 := fill L (n := 32) (k := 4 * x + 2) hL (by omega)
    have f3 := fill L (n := 32) (k := 4 * x + 3) hL (by omega)
    rw [g0] at f0
    rw [g1] at f1
    rw [g2] at f2
    rw [g3] at f3
    change IntKind.u8.wrap (ishr .u32 (y.h.l.getD x 0) 24) = _ at b3
    change IntKind.u8.wrap (ishr .u32 (y.h.l.getD x 0) 16) = _ at b2
    change IntKind.u8.wrap (ishr .u32 (y.h.l.getD x 0) 8) = _ at b1
    change IntKind.i64.wrap (((4 * x : Nat) : Int) + 1) = _ at e41
    change IntKind.i64.wrap (((4 * x : Nat) : Int) + 2) = _ at e42
    change IntKind.i64.wrap (((4 * x : Nat) : Int) + 3) = _ at e43
    simp only [Nat.add_zero, Nat.sub_zero, Nat.sub_self, show 3 - 1 = 2 from rfl, show 3 - 2 = 1 from rfl] at f0 f1 f2 f3
    simp only [ew, e4, e41, e42, e43, Int.toNat_natCast, b3, b2, b1, b0, f0, f1, f2, f3]
    and_intros <;> first | rfl | omega | trivial
  · rename_i h
    obtain rfl : x = 8 := by have := of_decide_eq_false h; omega
    rw [List.take_of_length_le (by omega)]
    show d32 (L ++ []) = d32 L
    rw [List.append_nil]
set_option maxRecDepth 100000 in
theorem m115 : Meets Tryd.prog 115 sp115 := by
  refine meets_of_owed (C := c115) ⟨tab_ok, lkS_ok ⟨m127, m128, trivial⟩⟩ (by kernel_rfl) (by kernel_rfl : Tryd.prog.funcs[115]? = some Tryd.f115) (by kernel_rfl) (by kernel_rfl) (by kernel_rfl) _ ?_
  rintro _ ⟨x, n, p, rfl, hb, hl, hn, hn2⟩
  refine ⟨fun _ => rfl, inv115 x n p, ?_⟩
  show owed c115 (inv115 x n p) Tryd.f115 [.ints .u32 x.l, u64 (n : Int), .str p] (d32 (fromL (ofR x.l) ((n : Int)).toNat p))
  rw [vc115, ofR_l, Int.toNat_natCast]
  have ew : IntKind.u64.wrap ((n : Int) + IntKind.u64.wrap (p.length : Int)) = (((n + p.length) % 18446744073709551616 : Nat) : Int) := by
    rw [w64, w64]; omega
  have ef : p ++ padL ((n + p.length) % 18446744073709551616) = fullL n p := rfl
  have hm : (fullL n p).length % 64 = 0 := mul64 n p hn
  have hmb : isBytes (fullL n p) := bytes_app hb (padL_bytes _)
  have hz := zc_lt ((n + p.length) % 18446744073709551616)
  have hpl := padL_len ((n + p.length) % 18446744073709551616)
  have hml : (fullL n p).length = p.length + (padL ((n + p.length) % 18446744073709551616)).length := List.length_append
  have hfr : fromL x n p = outL (fhK x (fullL n p) ((fullL n p).length / 64)) := rfl
  simp (decide := true) only [ew, ef, eq_self, true_and, and_true, ne_eq, not_false_eq_true, Int.toNat_natCast]
  have hk0 : fhK x (fullL n p) (0 / 64) = x := rfl
  rw [hk0]
  generalize hM : fullL n p = M at *
  refine ⟨⟨_, rfl, Nat.mod_lt _ (by decide)⟩, by omega, (by and_intros <;> first | rfl | trivial | omega), fun k hk => ?_⟩
  split
  · rename_i h
    have h : 64 * k < M.length := by have := of_decide_eq_true h; omega
    have e1 : IntKind.i64.wrap (((64 * k : Nat) : Int) + 64) = ((64 * k + 64 : Nat) : Int) := by rw [wi (by omega) (by omega)]; omega
    have e2 : (64 * k + 64) / 64 = k + 1 := by omega
    have e3 : prL (fhK x M k).l (List.take 64 (List.drop (64 * k) M)) = (fhK x M (k + 1)).l := by
      unfold prL
      rw [ofR_l]
      rfl
    have e4 : List.drop (64 * k) (List.take (64 * k + 64) M) = List.take 64 (List.drop (64 * k) M) := by
      rw [List.drop_take, show 64 * k + 64 - 64 * k = 64 by omega]
    simp only [e1, Int.toNat_natCast, e2, e4, e3]
    refine ⟨by omega, ⟨_, _, rfl, bytes_take (bytes_drop hmb _) _, by rw [List.length_take, List.length_drop]; omega⟩, ?_, by omega, by omega⟩
    rw [show 64 * (k + 1) = 64 * k + 64 by omega]
    and_intros <;> first | rfl | trivial
  · rename_i h
    obtain rfl : k = M.length / 64 := by have := of_decide_eq_false h; omega
    have hL : (fromL x n p).length = 32 := by rw [hfr]; exact outL_len _
    refine ⟨(by and_intros <;> first | rfl | trivial | omega), fun i hi => ?_⟩
    split
    · rename_i h
      have h : i < 32 := by have := of_decide_eq_true h; omega
      have g := outL_get (fhK x M (M.length / 64)) h
      have f := fill (fromL x n p) hL h
      have d1 : ((i : Nat) : Int).tdiv 4 = ((i / 4 : Nat) : Int) := tdivN _ 4
      have d2 : ((i : Nat) : Int).tmod 4 = ((i % 4 : Nat) : Int) := tmodN _ 4
      have d3 : IntKind.i64.wrap ((i / 4 : Nat) : Int) = ((i / 4 : Nat) : Int) := by rw [wi (by omega) (by omega)]
      have d4 : IntKind.i64.wrap (24 - IntKind.i64.wrap (8 * ((i % 4 : Nat) : Int))) = ((8 * (3 - i % 4) : Nat) : Int) := by
        rw [wi (n := 8 * ((i % 4 : Nat) : Int)) (by omega) (by omega), wi (by omega) (by omega)]; omega
      have d5 : IntKind.i64.wrap ((i : Int) + 1) = ((i + 1 : Nat) : Int) := by rw [wi (by omega) (by omega)]; omega
      have d6 : (fhK x M (M.length / 64)).l.length = 8 := rfl
      have b := btw (fhK x M (M.length / 64)) (j := i / 4) (by omega) (k := 3 - i % 4) (by omega)
      rw [hfr, g] at f
      rw [hfr]
      simp only [d1, d2, d3, d4, d5, d6, Int.toNat_natCast, b, f]
      and_intros <;> first | rfl | omega | trivial
    · rename_i h
      obtain rfl : i = 32 := by have := of_decide_eq_false h; omega
      rw [List.take_of_length_le (by omega)]
      show d32 (fromL x n p ++ []) = d32 (fromL x n p)
      rw [List.append_nil]
end Go.Proofs.YtkicjckhkefnpaaDoor
namespace Go.Proofs.YtkicjckhkefnpaaDoor
open Go Go.Vg
theorem w4_sum {a b c d : Nat} (ha : a < 256) (hb : b < 256) (hc : c < 256) (hd : d < 256) :
    IntKind.u32.wrap (IntKind.u32.wrap (IntKind.u32.wrap (IntKind.u32.wrap (IntKind.u32.wrap (a : Int) * 16777216) + IntKind.u32.wrap (IntKind.u32.wrap (b : Int) * 65536)) + IntKind.u32.wrap (IntKind.u32.wrap (c : Int) * 256)) + IntKind.u32.wrap (d : Int)) = ((w4 a b c d).toNat : Int) := by
  unfold w4
  simp only [Int.toNat_natCast]
  rw [ofW _ (by omega)]
  simp only [w32]
  omega
theorem wl8 (l : List Int) : (woL l).l = wl l 8 := rfl
theorem wo_gen (a b : R8) {i : Nat} (h : i < 8) : (a.l.take i ++ b.l.drop i).set i (a.l.getD i 0) = a.l.take (i + 1) ++ b.l.drop (i + 1) := by
  rcases (by omega : i = 0 ∨ i = 1 ∨ i = 2 ∨ i = 3 ∨ i = 4 ∨ i = 5 ∨ i = 6 ∨ i = 7) with rfl | rfl | rfl | rfl | rfl | rfl | rfl | rfl <;> rfl
theorem wo_get (l : List Int) {i : Nat} (h : i < 8) : (woL l).l.getD i 0 = ((wat l (4 * i)).toNat : Int) := by
  rw [← wn_lo l (by omega)]
  rcases (by omega : i = 0 ∨ i = 1 ∨ i = 2 ∨ i = 3 ∨ i = 4 ∨ i = 5 ∨ i = 6 ∨ i = 7) with rfl | rfl | rfl | rfl | rfl | rfl | rfl | rfl <;> rfl
set_option maxRecDepth 100000 in
theorem m70 : Meets Tryd.prog 70 sp70 := by
  refine meets_of_owed (C := c70) ⟨tab_ok, lkS_ok ⟨m75, m76, m77, trivial⟩⟩ (by kernel_rfl) (by kernel_rfl : Tryd.prog.funcs[70]? = some Tryd.f70) (by kernel_rfl) (by kernel_rfl) (by kernel_rfl) _ ?_
  rintro _ ⟨p, rfl, hb, hl⟩
  refine ⟨fun _ => rfl, fun _ => none, ?_⟩
  show owed c70 (fun _ => none) Tryd.f70 [.ints .u8 p] (d32 (digL p))
  have e : ∀ s : HS, ofS (D.st [D.arr .u32 8 s.h.l, D.val (.int .u64 (s.n : Int)), D.arr .u8 64 s.l]) = s := ofS_eq
  rw [vc70]
  simp (decide := true) only [e, eq_self, true_and, and_true, ne_eq, not_false_eq_true, Int.toNat_natCast, sum_st0]
  exact ⟨⟨st0, p, rfl, st0_ok, hb, hl⟩, ⟨_, rfl, wr_ok p st0_ok hb⟩⟩
set_option maxRecDepth 100000 in
theorem m71 : Meets Tryd.prog 71 sp71 := by
  refine meets_of_owed (C := c71) ⟨tab_ok, lkS_ok ⟨m116, m115, trivial⟩⟩ (by kernel_rfl) (by kernel_rfl : Tryd.prog.funcs[71]? = some Tryd.f71) (by kernel_rfl) (by kernel_rfl) (by kernel_rfl) _ ?_
  rintro _ ⟨p, rfl, hb, hl⟩
  refine ⟨fun _ => rfl, fun _ => none, ?_⟩
  show owed c71 (fun _ => none) Tryd.f71 [.str p] (d32 (digL p))
  rw [vc71, ofR_l]
  simp (decide := true) only [eq_self, true_and, and_true, ne_eq, not_false_eq_true, Int.toNat_natCast]
  exact ⟨⟨iv, 0, p, rfl, hb, hl, rfl, by decide⟩, rfl⟩
end Go.Proofs.YtkicjckhkefnpaaDoor
