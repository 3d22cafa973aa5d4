/- The curve, of package curve and of the reference: specs. -/
import Derived.Test.YtnadggcfdakpoaaZb12
import Derived.Test.YtnadggcfdakpoaaZb9
namespace Go.Proofs.Ytnadggcfdakpoaa
open Go Go.Vg

abbrev ptD (l m : List Int) : D := .st [num4 l, num4 m]
abbrev quD (a b c d : List Int) : D := .st [num4 a, num4 b, num4 c, num4 d]
abbrev pjD (a b c : List Int) : D := .st [fel a, fel b, fel c]
def wF (d : D) (i : Nat) : Nat := wv (arrOf (fldOf d i))
def fF (d : D) (i : Nat) : Nat := vB 65536 (arrOf (fldOf d i))
def dN : Nat := 37095705934669439343138083508754565189542113879843219016388785533085940283555
def onB (x y : Nat) : Bool := decide (x < FP) && decide (y < FP) && decide (fsb (y * y % FP) (x * x % FP) = (1 + dN * (x * x % FP * (y * y % FP) % FP) % FP) % FP)
def bxL : List Int := [14507833142362363162, 7578651490590762930, 13881468655802702940, 2407515759118799870]
def byL : List Int := [7378697629483820632, 7378697629483820646, 7378697629483820646, 7378697629483820646]
def bxF : List Int := [54554, 36645, 11616, 51542, 42930, 38181, 51040, 26924, 56412, 64982, 57905, 49316, 21502, 52590, 14035, 8553]
def byF : List Int := [26200, 26214, 26214, 26214, 26214, 26214, 26214, 26214, 26214, 26214, 26214, 26214, 26214, 26214, 26214, 26214]
def oneF : List Int := [1, 0, 0, 0, 0, 0, 0, 0, 0, 0, 0, 0, 0, 0, 0, 0]
/-- Of two quads: e, f, g, h. -/
def qA (x y x' y' : Nat) : Nat := fsb y x * fsb y' x' % FP
def qB (x y x' y' : Nat) : Nat := (y + x) % FP * ((y' + x') % FP) % FP
def qC (t t' : Nat) : Nat := (t * t' % FP * dN % FP + t * t' % FP * dN % FP) % FP
def qZ (z z' : Nat) : Nat := (z * z' % FP + z * z' % FP) % FP
def qE (x y x' y' : Nat) : Nat := fsb (qB x y x' y') (qA x y x' y')
def qH (x y x' y' : Nat) : Nat := (qB x y x' y' + qA x y x' y') % FP
def qF (z t z' t' : Nat) : Nat := fsb (qZ z z') (qC t t')
def qG (z t z' t' : Nat) : Nat := (qZ z z' + qC t t') % FP
/-- Of two points as fractions. -/
def rE (x y x' y' : Nat) : Nat := dN * (x * x' % FP) % FP * (y * y' % FP) % FP
def rB (z z' : Nat) : Nat := z * z' % FP * (z * z' % FP) % FP
def rS (x y x' y' : Nat) : Nat := (x * y' % FP + y * x' % FP) % FP
def rX (x y z x' y' z' : Nat) : Nat := z * z' % FP * fsb (rB z z') (rE x y x' y') % FP * rS x y x' y' % FP
def rY (x y z x' y' z' : Nat) : Nat := z * z' % FP * ((rB z z' + rE x y x' y') % FP) % FP * ((x * x' % FP + y * y' % FP) % FP) % FP
def rZ (x y z x' y' z' : Nat) : Nat := fsb (rB z z') (rE x y x' y') * ((rB z z' + rE x y x' y') % FP) % FP
noncomputable def aff (x z : Nat) : Nat := x * fpw z (FP - 2) % FP
/-- What Add answers. -/
noncomputable def adX (x y x' y' : Nat) : Nat := if onB x y && onB x' y' then aff (qE x y x' y' * qF 1 (x * y % FP) 1 (x' * y' % FP) % FP) (qF 1 (x * y % FP) 1 (x' * y' % FP) * qG 1 (x * y % FP) 1 (x' * y' % FP) % FP) else 0
noncomputable def adY (x y x' y' : Nat) : Nat := if onB x y && onB x' y' then aff (qG 1 (x * y % FP) 1 (x' * y' % FP) * qH x y x' y' % FP) (qF 1 (x * y % FP) 1 (x' * y' % FP) * qG 1 (x * y % FP) 1 (x' * y' % FP) % FP) else 0
def adO (x y x' y' : Nat) : Int := if onB x y && onB x' y' then 0 else 1
def ngX (x y : Nat) : Nat := if onB x y then fsb 0 x else 0
def ngY (x y : Nat) : Nat := if onB x y then y else 0
def ngO (x y : Nat) : Int := if onB x y then 0 else 1

noncomputable def sp40 : Go.Vg.Spec := ⟨fun ds => ∃ l m, ds = [ptD l m] ∧ isN l ∧ isN m, fun ds => .val (.bool (onB (wF (ds.headD default) 0) (wF (ds.headD default) 1))), true, [67]⟩
noncomputable def sp37 : Go.Vg.Spec := ⟨fun ds => ∃ l m, ds = [ptD l m] ∧ isN l ∧ isN m, fun ds => .val (.bool (onB (wF (ds.headD default) 0) (wF (ds.headD default) 1))), true, [67]⟩
def sp41 : Go.Vg.Spec := ⟨fun ds => ds.length = 0, fun _ => ptD [0, 0, 0, 0] [1, 0, 0, 0], true, []⟩
def sp42 : Go.Vg.Spec := ⟨fun ds => ds.length = 0, fun _ => ptD bxL byL, true, []⟩
def sp43 : Go.Vg.Spec := ⟨fun ds => ds.length = 0, fun _ => pjD bxF byF oneF, true, []⟩
def sp102 : Go.Vg.Spec := ⟨fun ds => ∃ l m, ds = [ptD l m] ∧ isN l ∧ isN m, fun ds => quD (arrOf (fldOf (ds.headD default) 0)) (arrOf (fldOf (ds.headD default) 1)) [1, 0, 0, 0] (nB 18446744073709551616 4 (wF (ds.headD default) 0 * wF (ds.headD default) 1 % FP)), true, [67]⟩
def sp103 : Go.Vg.Spec := ⟨fun ds => ∃ a b c d a' b' c' d', ds = [quD a b c d, quD a' b' c' d'] ∧ (isN a ∧ isN b ∧ isN c ∧ isN d) ∧ isN a' ∧ isN b' ∧ isN c' ∧ isN d',
  fun ds => .st [n4 (qE (wF (ds.headD default) 0) (wF (ds.headD default) 1) (wF (ds.getD 1 default) 0) (wF (ds.getD 1 default) 1) * qF (wF (ds.headD default) 2) (wF (ds.headD default) 3) (wF (ds.getD 1 default) 2) (wF (ds.getD 1 default) 3) % FP),
    n4 (qG (wF (ds.headD default) 2) (wF (ds.headD default) 3) (wF (ds.getD 1 default) 2) (wF (ds.getD 1 default) 3) * qH (wF (ds.headD default) 0) (wF (ds.headD default) 1) (wF (ds.getD 1 default) 0) (wF (ds.getD 1 default) 1) % FP),
    n4 (qF (wF (ds.headD default) 2) (wF (ds.headD default) 3) (wF (ds.getD 1 default) 2) (wF (ds.getD 1 default) 3) * qG (wF (ds.headD default) 2) (wF (ds.headD default) 3) (wF (ds.getD 1 default) 2) (wF (ds.getD 1 default) 3) % FP),
    n4 (qE (wF (ds.headD default) 0) (wF (ds.headD default) 1) (wF (ds.getD 1 default) 0) (wF (ds.getD 1 default) 1) * qH (wF (ds.headD default) 0) (wF (ds.headD default) 1) (wF (ds.getD 1 default) 0) (wF (ds.getD 1 default) 1) % FP)], true, [139, 139]⟩
noncomputable def sp104 : Go.Vg.Spec := ⟨fun ds => ∃ a b c d, ds = [quD a b c d] ∧ isN a ∧ isN b ∧ isN c ∧ isN d, fun ds => .st [n4 (aff (wF (ds.headD default) 0) (wF (ds.headD default) 2)), n4 (aff (wF (ds.headD default) 1) (wF (ds.headD default) 2))], true, [139]⟩
noncomputable def sp44 : Go.Vg.Spec := ⟨fun ds => ∃ a b c, ds = [pjD a b c] ∧ isF a ∧ isF b ∧ isF c, fun ds => .st [n4 (aff (fF (ds.headD default) 0) (fF (ds.headD default) 2)), n4 (aff (fF (ds.headD default) 1) (fF (ds.headD default) 2))], true, [76]⟩
def sp48 : Go.Vg.Spec := ⟨fun ds => ∃ l m, ds = [ptD l m] ∧ isN l ∧ isN m, fun ds => pjD (nB 65536 16 (wF (ds.headD default) 0 % FP)) (nB 65536 16 (wF (ds.headD default) 1 % FP)) oneF, true, [67]⟩
def sp49 : Go.Vg.Spec := ⟨fun ds => ∃ a b c a' b' c', ds = [pjD a b c, pjD a' b' c'] ∧ (isF a ∧ isF b ∧ isF c) ∧ isF a' ∧ isF b' ∧ isF c',
  fun ds => .st [fe (rX (fF (ds.headD default) 0) (fF (ds.headD default) 1) (fF (ds.headD default) 2) (fF (ds.getD 1 default) 0) (fF (ds.getD 1 default) 1) (fF (ds.getD 1 default) 2)),
    fe (rY (fF (ds.headD default) 0) (fF (ds.headD default) 1) (fF (ds.headD default) 2) (fF (ds.getD 1 default) 0) (fF (ds.getD 1 default) 1) (fF (ds.getD 1 default) 2)),
    fe (rZ (fF (ds.headD default) 0) (fF (ds.headD default) 1) (fF (ds.headD default) 2) (fF (ds.getD 1 default) 0) (fF (ds.getD 1 default) 1) (fF (ds.getD 1 default) 2))], true, [76, 76]⟩
noncomputable def sp38 : Go.Vg.Spec := ⟨fun ds => ∃ l m l' m', ds = [ptD l m, ptD l' m'] ∧ (isN l ∧ isN m) ∧ isN l' ∧ isN m',
  fun ds => .tup [.st [n4 (adX (wF (ds.headD default) 0) (wF (ds.headD default) 1) (wF (ds.getD 1 default) 0) (wF (ds.getD 1 default) 1)), n4 (adY (wF (ds.headD default) 0) (wF (ds.headD default) 1) (wF (ds.getD 1 default) 0) (wF (ds.getD 1 default) 1))],
    i64 (adO (wF (ds.headD default) 0) (wF (ds.headD default) 1) (wF (ds.getD 1 default) 0) (wF (ds.getD 1 default) 1))], true, [67, 67]⟩
noncomputable def sp39 : Go.Vg.Spec := ⟨fun ds => ∃ l m, ds = [ptD l m] ∧ isN l ∧ isN m,
  fun ds => .tup [.st [n4 (ngX (wF (ds.headD default) 0) (wF (ds.headD default) 1)), n4 (ngY (wF (ds.headD default) 0) (wF (ds.headD default) 1))], i64 (ngO (wF (ds.headD default) 0) (wF (ds.headD default) 1))], true, [67]⟩
def c40 : Ctx := ⟨tab, lkS [(106, sp106), (107, sp107), (105, sp105), (108, sp108), (109, sp109)], [], []⟩
def c37 : Ctx := ⟨tab, lkS [(46, sp46), (47, sp47), (54, sp54), (53, sp53), (100, sp100), (101, sp101)], [], []⟩
noncomputable def c104 : Ctx := ⟨tab, lkS [(113, sp113), (107, sp107)], [], []⟩
noncomputable def c44 : Ctx := ⟨tab, lkS [(55, sp55), (54, sp54), (47, sp47)], [], []⟩
def c48 : Ctx := ⟨tab, lkS [(46, sp46), (100, sp100)], [], []⟩
def c49 : Ctx := ⟨tab, lkS [(54, sp54), (53, sp53), (45, sp45), (101, sp101)], [], []⟩
noncomputable def c38 : Ctx := ⟨tab, lkS [(40, sp40), (102, sp102), (103, sp103), (104, sp104)], [], []⟩
noncomputable def c39 : Ctx := ⟨tab, lkS [(40, sp40), (105, sp105)], [], []⟩
--KEEP List.replicate Nat.gcd Go.Vg.eqB Go.Vg.vB Go.Vg.nB Go.Vg.okd Go.Vg.okw Go.Vg.dg Go.Vg.dig Go.Vg.trimL okb lenOk lenS len1 sbd sbb dif bor cmpN shf i64ok subL sbD adl adc mulL mulH stL stH smN smC addL addK isN bl2 bitN pkL pkI isBits FP fsb fpw dNum isF okL dgF dFe dgP onB dN bxL byL bxF byF oneF qA qB qC qZ qE qF qG qH rE rB rS rX rY rZ aff adX adY adO ngX ngY ngO
set_option maxRecDepth 100000 in
theorem vc40  (l m : List Int) (F : D)  :
    (owed c40 (fun _ => none) Try.f40 [ptD l m] F) = (
 (True ∧ false = false) ∧
 True ∧
 (Sk.st [Sk.arr (4 : Nat), Sk.arr (4 : Nat)] = Sk.st [Sk.arr (4 : Nat), Sk.arr (4 : Nat)] ∧ (0 : Nat) < (2 : Nat)) ∧
 ((4 : Nat) ≠ (0 : Nat) ∧ (4 : Nat) = (4 : Nat) ∧ true = true) ∧
 (Sk.st [Sk.arr (4 : Nat), Sk.arr (4 : Nat)] = Sk.st [Sk.arr (4 : Nat), Sk.arr (4 : Nat)] ∧ (0 : Nat) < (2 : Nat)) ∧
 ((4 : Nat) ≠ (0 : Nat) ∧ (4 : Nat) = (4 : Nat) ∧ true = true) ∧
 (∃ (l_1 : List Int), [D.arr IntKind.u64 (4 : Nat) l] = [D.arr IntKind.u64 (4 : Nat) l_1] ∧ isN l_1) ∧
 (IntKind.u64 = IntKind.u64 ∧ IntKind.u64 = IntKind.u64 ∧ (4 : Nat) = (4 : Nat) ∧ (4 : Nat) = (4 : Nat) ∧ (1 : Nat) = (1 : Nat)) ∧
 True ∧
 match !eqB l (nB (18446744073709551616 : Nat) (4 : Nat) (vB (18446744073709551616 : Nat) l % FP)) with
 | true => True ∧ True ∧ (false = false ∧ True) ∧ D.val (Value.bool false) = F
 | false =>
  (Sk.st [Sk.arr (4 : Nat), Sk.arr (4 : Nat)] = Sk.st [Sk.arr (4 : Nat), Sk.arr (4 : Nat)] ∧ (1 : Nat) < (2 : Nat)) ∧
  ((4 : Nat) ≠ (0 : Nat) ∧ (4 : Nat) = (4 : Nat) ∧ true = true) ∧
  (Sk.st [Sk.arr (4 : Nat), Sk.arr (4 : Nat)] = Sk.st [Sk.arr (4 : Nat), Sk.arr (4 : Nat)] ∧ (1 : Nat) < (2 : Nat)) ∧
  ((4 : Nat) ≠ (0 : Nat) ∧ (4 : Nat) = (4 : Nat) ∧ true = true) ∧
  (∃ (l : List Int), [D.arr IntKind.u64 (4 : Nat) m] = [D.arr IntKind.u64 (4 : Nat) l] ∧ isN l) ∧
  (IntKind.u64 = IntKind.u64 ∧ IntKind.u64 = IntKind.u64 ∧ (4 : Nat) = (4 : Nat) ∧ (4 : Nat) = (4 : Nat) ∧ (1 : Nat) = (1 : Nat)) ∧
  True ∧
  match !eqB m (nB (18446744073709551616 : Nat) (4 : Nat) (vB (18446744073709551616 : Nat) m % FP)) with
  | true => True ∧ (false = false ∧ True) ∧ D.val (Value.bool false) = F
  | false =>
   (Sk.st [Sk.arr (4 : Nat), Sk.arr (4 : Nat)] = Sk.st [Sk.arr (4 : Nat), Sk.arr (4 : Nat)] ∧ (0 : Nat) < (2 : Nat)) ∧
   ((4 : Nat) ≠ (0 : Nat) ∧ (4 : Nat) = (4 : Nat) ∧ true = true) ∧
   (Sk.st [Sk.arr (4 : Nat), Sk.arr (4 : Nat)] = Sk.st [Sk.arr (4 : Nat), Sk.arr (4 : Nat)] ∧ (0 : Nat) < (2 : Nat)) ∧
   ((4 : Nat) ≠ (0 : Nat) ∧ (4 : Nat) = (4 : Nat) ∧ true = true) ∧
   (∃ (l_1 : List Int), ∃ (m : List Int), [D.arr IntKind.u64 (4 : Nat) l, D.arr IntKind.u64 (4 : Nat) l] = [D.arr IntKind.u64 (4 : Nat) l_1, D.arr IntKind.u64 (4 : Nat) m] ∧ isN l_1 ∧ isN m) ∧
   (Sk.st [Sk.arr (4 : Nat), Sk.arr (4 : Nat)] = Sk.st [Sk.arr (4 : Nat), Sk.arr (4 : Nat)] ∧ (1 : Nat) < (2 : Nat)) ∧
   ((4 : Nat) ≠ (0 : Nat) ∧ (4 : Nat) = (4 : Nat) ∧ true = true) ∧
   (Sk.st [Sk.arr (4 : Nat), Sk.arr (4 : Nat)] = Sk.st [Sk.arr (4 : Nat), Sk.arr (4 : Nat)] ∧ (1 : Nat) < (2 : Nat)) ∧
   ((4 : Nat) ≠ (0 : Nat) ∧ (4 : Nat) = (4 : Nat) ∧ true = true) ∧
   (∃ (l : List Int), ∃ (m_1 : List Int), [D.arr IntKind.u64 (4 : Nat) m, D.arr IntKind.u64 (4 : Nat) m] = [D.arr IntKind.u64 (4 : Nat) l, D.arr IntKind.u64 (4 : Nat) m_1] ∧ isN l ∧ isN m_1) ∧
   (True ∧ (4 : Nat) ≠ (0 : Nat)) ∧
   (True ∧ (4 : Nat) ≠ (0 : Nat)) ∧
   (Sk.arr (4 : Nat) = Sk.arr (4 : Nat) ∧ (4 : Nat) ≠ (0 : Nat) ∧ (4 : Nat) = (4 : Nat) ∧ false = false) ∧
   (Sk.arr (4 : Nat) = Sk.arr (4 : Nat) ∧ (4 : Nat) ≠ (0 : Nat) ∧ (4 : Nat) = (4 : Nat) ∧ false = false) ∧
   ((4 : Nat) ≠ (0 : Nat) ∧ (4 : Nat) = (4 : Nat) ∧ true = true) ∧
   ((4 : Nat) ≠ (0 : Nat) ∧ (4 : Nat) = (4 : Nat) ∧ true = true) ∧
   (∃ (l_1 : List Int),
   ∃ (m_1 : List Int),
   [D.arr IntKind.u64 (4 : Nat) (nB (18446744073709551616 : Nat) (4 : Nat) (vB (18446744073709551616 : Nat) m * vB (18446744073709551616 : Nat) m % FP)), D.arr IntKind.u64 (4 : Nat) (nB (18446744073709551616 : Nat) (4 : Nat) (vB (18446744073709551616 : Nat) l * vB (18446744073709551616 : Nat) l % FP))] =
   [D.arr IntKind.u64 (4 : Nat) l_1, D.arr IntKind.u64 (4 : Nat) m_1] ∧
   isN l_1 ∧ isN m_1) ∧
   ((1 : Nat) = (1 : Nat) ∧ false = false ∧ ((0 : Nat) < (4 : Nat) ∧ ([] : List Nat) = [] ∧ true = true) ∧ True) ∧
   (0 : Nat) = (0 : Nat) ∧
   ((4 : Nat) ≠ (0 : Nat) ∧ (4 : Nat) = (4 : Nat) ∧ true = true) ∧
   ((4 : Nat) ≠ (0 : Nat) ∧ (4 : Nat) = (4 : Nat) ∧ true = true) ∧
   (∃ (l_1 : List Int),
   ∃ (m_1 : List Int),
   [D.arr IntKind.u64 (4 : Nat) (nB (18446744073709551616 : Nat) (4 : Nat) (vB (18446744073709551616 : Nat) l * vB (18446744073709551616 : Nat) l % FP)), D.arr IntKind.u64 (4 : Nat) (nB (18446744073709551616 : Nat) (4 : Nat) (vB (18446744073709551616 : Nat) m * vB (18446744073709551616 : Nat) m % FP))] =
   [D.arr IntKind.u64 (4 : Nat) l_1, D.arr IntKind.u64 (4 : Nat) m_1] ∧
   isN l_1 ∧ isN m_1) ∧
   (∃ (l_1 : List Int),
   ∃ (m_1 : List Int),
   [D.arr IntKind.u64 (4 : Nat) dNum,
   D.arr IntKind.u64 (4 : Nat)
   (nB (18446744073709551616 : Nat) (4 : Nat)
   (vB (18446744073709551616 : Nat) (nB (18446744073709551616 : Nat) (4 : Nat) (vB (18446744073709551616 : Nat) l * vB (18446744073709551616 : Nat) l % FP)) *
   vB (18446744073709551616 : Nat) (nB (18446744073709551616 : Nat) (4 : Nat) (vB (18446744073709551616 : Nat) m * vB (18446744073709551616 : Nat) m % FP)) %
   FP))] =
   [D.arr IntKind.u64 (4 : Nat) l_1, D.arr IntKind.u64 (4 : Nat) m_1] ∧
   isN l_1 ∧ isN m_1) ∧
   (∃ (l_1 : List Int),
   ∃ (m_1 : List Int),
   [D.arr IntKind.u64 (4 : Nat) [(1 : Int), (0 : Int), (0 : Int), (0 : Int)],
   D.arr IntKind.u64 (4 : Nat)
   (nB (18446744073709551616 : Nat) (4 : Nat)
   (vB (18446744073709551616 : Nat) dNum *
   vB (18446744073709551616 : Nat)
   (nB (18446744073709551616 : Nat) (4 : Nat)
   (vB (18446744073709551616 : Nat) (nB (18446744073709551616 : Nat) (4 : Nat) (vB (18446744073709551616 : Nat) l * vB (18446744073709551616 : Nat) l % FP)) *
   vB (18446744073709551616 : Nat) (nB (18446744073709551616 : Nat) (4 : Nat) (vB (18446744073709551616 : Nat) m * vB (18446744073709551616 : Nat) m % FP)) %
   FP)) %
   FP))] =
   [D.arr IntKind.u64 (4 : Nat) l_1, D.arr IntKind.u64 (4 : Nat) m_1] ∧
   isN l_1 ∧ isN m_1) ∧
   (IntKind.u64 = IntKind.u64 ∧ IntKind.u64 = IntKind.u64 ∧ (4 : Nat) = (4 : Nat) ∧ (4 : Nat) = (4 : Nat) ∧ (1 : Nat) = (1 : Nat)) ∧
   True ∧
   (false = false ∧ True) ∧
   D.val
   (Value.bool
   (eqB
   (nB (18446744073709551616 : Nat) (4 : Nat)
   (fsb (vB (18446744073709551616 : Nat) (nB (18446744073709551616 : Nat) (4 : Nat) (vB (18446744073709551616 : Nat) m * vB (18446744073709551616 : Nat) m % FP)))
   (vB (18446744073709551616 : Nat) (nB (18446744073709551616 : Nat) (4 : Nat) (vB (18446744073709551616 : Nat) l * vB (18446744073709551616 : Nat) l % FP)))))
   (nB (18446744073709551616 : Nat) (4 : Nat)
   ((vB (18446744073709551616 : Nat) [(1 : Int), (0 : Int), (0 : Int), (0 : Int)] +
   vB (18446744073709551616 : Nat)
   (nB (18446744073709551616 : Nat) (4 : Nat)
   (vB (18446744073709551616 : Nat) dNum *
   vB (18446744073709551616 : Nat)
   (nB (18446744073709551616 : Nat) (4 : Nat)
   (vB (18446744073709551616 : Nat) (nB (18446744073709551616 : Nat) (4 : Nat) (vB (18446744073709551616 : Nat) l * vB (18446744073709551616 : Nat) l % FP)) *
   vB (18446744073709551616 : Nat) (nB (18446744073709551616 : Nat) (4 : Nat) (vB (18446744073709551616 : Nat) m * vB (18446744073709551616 : Nat) m % FP)) %
   FP)) %
   FP))) %
   FP)))) =
   F) := by kernel_rfl
set_option maxRecDepth 100000 in
theorem vc37  (l m : List Int) (F : D)  :
    (owed c37 (fun _ => none) Try.f37 [ptD l m] F) = (
 (True ∧ false = false) ∧
 True ∧
 (Sk.st [Sk.arr (4 : Nat), Sk.arr (4 : Nat)] = Sk.st [Sk.arr (4 : Nat), Sk.arr (4 : Nat)] ∧ (0 : Nat) < (2 : Nat)) ∧
 ((4 : Nat) ≠ (0 : Nat) ∧ (4 : Nat) = (4 : Nat) ∧ true = true) ∧
 (∃ (l_1 : List Int), [D.arr IntKind.u64 (4 : Nat) l] = [D.arr IntKind.u64 (4 : Nat) l_1] ∧ isN l_1) ∧
 (Sk.st [Sk.arr (4 : Nat), Sk.arr (4 : Nat)] = Sk.st [Sk.arr (4 : Nat), Sk.arr (4 : Nat)] ∧ (1 : Nat) < (2 : Nat)) ∧
 ((4 : Nat) ≠ (0 : Nat) ∧ (4 : Nat) = (4 : Nat) ∧ true = true) ∧
 (∃ (l : List Int), [D.arr IntKind.u64 (4 : Nat) m] = [D.arr IntKind.u64 (4 : Nat) l] ∧ isN l) ∧
 (True ∧ (16 : Nat) ≠ (0 : Nat)) ∧
 (True ∧ (16 : Nat) ≠ (0 : Nat)) ∧
 (Sk.arr (16 : Nat) = Sk.arr (16 : Nat) ∧ (16 : Nat) ≠ (0 : Nat) ∧ (16 : Nat) = (16 : Nat) ∧ false = false) ∧
 (Sk.arr (16 : Nat) = Sk.arr (16 : Nat) ∧ (16 : Nat) ≠ (0 : Nat) ∧ (16 : Nat) = (16 : Nat) ∧ false = false) ∧
 ((16 : Nat) ≠ (0 : Nat) ∧ (16 : Nat) = (16 : Nat) ∧ true = true) ∧
 (∃ (l_1 : List Int), [D.arr IntKind.i64 (16 : Nat) (nB (65536 : Nat) (16 : Nat) (vB (18446744073709551616 : Nat) l % FP))] = [D.arr IntKind.i64 (16 : Nat) l_1] ∧ isF l_1) ∧
 (Sk.st [Sk.arr (4 : Nat), Sk.arr (4 : Nat)] = Sk.st [Sk.arr (4 : Nat), Sk.arr (4 : Nat)] ∧ (0 : Nat) < (2 : Nat)) ∧
 ((4 : Nat) ≠ (0 : Nat) ∧ (4 : Nat) = (4 : Nat) ∧ true = true) ∧
 (IntKind.u64 = IntKind.u64 ∧ IntKind.u64 = IntKind.u64 ∧ (4 : Nat) = (4 : Nat) ∧ (4 : Nat) = (4 : Nat) ∧ (1 : Nat) = (1 : Nat)) ∧
 True ∧
 match !eqB (nB (18446744073709551616 : Nat) (4 : Nat) (vB (65536 : Nat) (nB (65536 : Nat) (16 : Nat) (vB (18446744073709551616 : Nat) l % FP)))) l with
 | true => True ∧ True ∧ (false = false ∧ True) ∧ D.val (Value.bool false) = F
 | false =>
  ((16 : Nat) ≠ (0 : Nat) ∧ (16 : Nat) = (16 : Nat) ∧ true = true) ∧
  (∃ (l : List Int), [D.arr IntKind.i64 (16 : Nat) (nB (65536 : Nat) (16 : Nat) (vB (18446744073709551616 : Nat) m % FP))] = [D.arr IntKind.i64 (16 : Nat) l] ∧ isF l) ∧
  (Sk.st [Sk.arr (4 : Nat), Sk.arr (4 : Nat)] = Sk.st [Sk.arr (4 : Nat), Sk.arr (4 : Nat)] ∧ (1 : Nat) < (2 : Nat)) ∧
  ((4 : Nat) ≠ (0 : Nat) ∧ (4 : Nat) = (4 : Nat) ∧ true = true) ∧
  (IntKind.u64 = IntKind.u64 ∧ IntKind.u64 = IntKind.u64 ∧ (4 : Nat) = (4 : Nat) ∧ (4 : Nat) = (4 : Nat) ∧ (1 : Nat) = (1 : Nat)) ∧
  True ∧
  match !eqB (nB (18446744073709551616 : Nat) (4 : Nat) (vB (65536 : Nat) (nB (65536 : Nat) (16 : Nat) (vB (18446744073709551616 : Nat) m % FP)))) m with
  | true => True ∧ (false = false ∧ True) ∧ D.val (Value.bool false) = F
  | false =>
   ((16 : Nat) ≠ (0 : Nat) ∧ (16 : Nat) = (16 : Nat) ∧ true = true) ∧
   ((16 : Nat) ≠ (0 : Nat) ∧ (16 : Nat) = (16 : Nat) ∧ true = true) ∧
   (∃ (l_1 : List Int), ∃ (m : List Int), [D.arr IntKind.i64 (16 : Nat) (nB (65536 : Nat) (16 : Nat) (vB (18446744073709551616 : Nat) l % FP)), D.arr IntKind.i64 (16 : Nat) (nB (65536 : Nat) (16 : Nat) (vB (18446744073709551616 : Nat) l % FP))] = [D.arr IntKind.i64 (16 : Nat) l_1, D.arr IntKind.i64 (16 : Nat) m] ∧ isF l_1 ∧ isF m) ∧
   ((16 : Nat) ≠ (0 : Nat) ∧ (16 : Nat) = (16 : Nat) ∧ true = true) ∧
   ((16 : Nat) ≠ (0 : Nat) ∧ (16 : Nat) = (16 : Nat) ∧ true = true) ∧
   (∃ (l : List Int), ∃ (m_1 : List Int), [D.arr IntKind.i64 (16 : Nat) (nB (65536 : Nat) (16 : Nat) (vB (18446744073709551616 : Nat) m % FP)), D.arr IntKind.i64 (16 : Nat) (nB (65536 : Nat) (16 : Nat) (vB (18446744073709551616 : Nat) m % FP))] = [D.arr IntKind.i64 (16 : Nat) l, D.arr IntKind.i64 (16 : Nat) m_1] ∧ isF l ∧ isF m_1) ∧
   (True ∧ (16 : Nat) ≠ (0 : Nat)) ∧
   (True ∧ (16 : Nat) ≠ (0 : Nat)) ∧
   (Sk.arr (16 : Nat) = Sk.arr (16 : Nat) ∧ (16 : Nat) ≠ (0 : Nat) ∧ (16 : Nat) = (16 : Nat) ∧ false = false) ∧
   (Sk.arr (16 : Nat) = Sk.arr (16 : Nat) ∧ (16 : Nat) ≠ (0 : Nat) ∧ (16 : Nat) = (16 : Nat) ∧ false = false) ∧
   ((16 : Nat) ≠ (0 : Nat) ∧ (16 : Nat) = (16 : Nat) ∧ true = true) ∧
   (∃ (n : Nat), [D.val (Value.int IntKind.i64 (1 : Int))] = [D.val (Value.int IntKind.i64 (↑n : Int))] ∧ n < (65536 : Nat)) ∧
   ((16 : Nat) ≠ (0 : Nat) ∧ (16 : Nat) = (16 : Nat) ∧ true = true) ∧
   (∃ (l_1 : List Int),
   ∃ (m : List Int),
   [D.arr IntKind.i64 (16 : Nat) [(1 : Int), (0 : Int), (0 : Int), (0 : Int), (0 : Int), (0 : Int), (0 : Int), (0 : Int), (0 : Int), (0 : Int), (0 : Int), (0 : Int), (0 : Int), (0 : Int), (0 : Int), (0 : Int)],
   D.arr IntKind.i64 (16 : Nat) (nB (65536 : Nat) (16 : Nat) (vB (65536 : Nat) (nB (65536 : Nat) (16 : Nat) (vB (18446744073709551616 : Nat) l % FP)) * vB (65536 : Nat) (nB (65536 : Nat) (16 : Nat) (vB (18446744073709551616 : Nat) l % FP)) % FP))] =
   [D.arr IntKind.i64 (16 : Nat) l_1, D.arr IntKind.i64 (16 : Nat) m] ∧
   isF l_1 ∧ isF m) ∧
   (0 : Nat) = (0 : Nat) ∧
   ((16 : Nat) ≠ (0 : Nat) ∧ (16 : Nat) = (16 : Nat) ∧ true = true) ∧
   (∃ (l_1 : List Int),
   ∃ (m : List Int),
   [D.arr IntKind.i64 (16 : Nat) dFe, D.arr IntKind.i64 (16 : Nat) (nB (65536 : Nat) (16 : Nat) (vB (65536 : Nat) (nB (65536 : Nat) (16 : Nat) (vB (18446744073709551616 : Nat) l % FP)) * vB (65536 : Nat) (nB (65536 : Nat) (16 : Nat) (vB (18446744073709551616 : Nat) l % FP)) % FP))] =
   [D.arr IntKind.i64 (16 : Nat) l_1, D.arr IntKind.i64 (16 : Nat) m] ∧
   isF l_1 ∧ isF m) ∧
   ((16 : Nat) ≠ (0 : Nat) ∧ (16 : Nat) = (16 : Nat) ∧ true = true) ∧
   (∃ (l_1 : List Int),
   ∃ (m_1 : List Int),
   [D.arr IntKind.i64 (16 : Nat)
   (nB (65536 : Nat) (16 : Nat) (vB (65536 : Nat) dFe * vB (65536 : Nat) (nB (65536 : Nat) (16 : Nat) (vB (65536 : Nat) (nB (65536 : Nat) (16 : Nat) (vB (18446744073709551616 : Nat) l % FP)) * vB (65536 : Nat) (nB (65536 : Nat) (16 : Nat) (vB (18446744073709551616 : Nat) l % FP)) % FP)) % FP)),
   D.arr IntKind.i64 (16 : Nat) (nB (65536 : Nat) (16 : Nat) (vB (65536 : Nat) (nB (65536 : Nat) (16 : Nat) (vB (18446744073709551616 : Nat) m % FP)) * vB (65536 : Nat) (nB (65536 : Nat) (16 : Nat) (vB (18446744073709551616 : Nat) m % FP)) % FP))] =
   [D.arr IntKind.i64 (16 : Nat) l_1, D.arr IntKind.i64 (16 : Nat) m_1] ∧
   isF l_1 ∧ isF m_1) ∧
   (∃ (l_1 : List Int),
   ∃ (m_1 : List Int),
   [D.arr IntKind.i64 (16 : Nat)
   (nB (65536 : Nat) (16 : Nat)
   ((vB (65536 : Nat) [(1 : Int), (0 : Int), (0 : Int), (0 : Int), (0 : Int), (0 : Int), (0 : Int), (0 : Int), (0 : Int), (0 : Int), (0 : Int), (0 : Int), (0 : Int), (0 : Int), (0 : Int), (0 : Int)] +
   vB (65536 : Nat) (nB (65536 : Nat) (16 : Nat) (vB (65536 : Nat) (nB (65536 : Nat) (16 : Nat) (vB (18446744073709551616 : Nat) l % FP)) * vB (65536 : Nat) (nB (65536 : Nat) (16 : Nat) (vB (18446744073709551616 : Nat) l % FP)) % FP))) %
   FP)),
   D.arr IntKind.i64 (16 : Nat)
   (nB (65536 : Nat) (16 : Nat)
   (vB (65536 : Nat)
   (nB (65536 : Nat) (16 : Nat)
   (vB (65536 : Nat) dFe * vB (65536 : Nat) (nB (65536 : Nat) (16 : Nat) (vB (65536 : Nat) (nB (65536 : Nat) (16 : Nat) (vB (18446744073709551616 : Nat) l % FP)) * vB (65536 : Nat) (nB (65536 : Nat) (16 : Nat) (vB (18446744073709551616 : Nat) l % FP)) % FP)) % FP)) *
   vB (65536 : Nat) (nB (65536 : Nat) (16 : Nat) (vB (65536 : Nat) (nB (65536 : Nat) (16 : Nat) (vB (18446744073709551616 : Nat) m % FP)) * vB (65536 : Nat) (nB (65536 : Nat) (16 : Nat) (vB (18446744073709551616 : Nat) m % FP)) % FP)) %
   FP))] =
   [D.arr IntKind.i64 (16 : Nat) l_1, D.arr IntKind.i64 (16 : Nat) m_1] ∧
   isF l_1 ∧ isF m_1) ∧
   (IntKind.i64 = IntKind.i64 ∧ IntKind.i64 = IntKind.i64 ∧ (16 : Nat) = (16 : Nat) ∧ (16 : Nat) = (16 : Nat) ∧ (1 : Nat) = (1 : Nat)) ∧
   True ∧
   (false = false ∧ True) ∧
   D.val
   (Value.bool
   (eqB (nB (65536 : Nat) (16 : Nat) (vB (65536 : Nat) (nB (65536 : Nat) (16 : Nat) (vB (18446744073709551616 : Nat) m % FP)) * vB (65536 : Nat) (nB (65536 : Nat) (16 : Nat) (vB (18446744073709551616 : Nat) m % FP)) % FP))
   (nB (65536 : Nat) (16 : Nat)
   ((vB (65536 : Nat)
   (nB (65536 : Nat) (16 : Nat)
   ((vB (65536 : Nat) [(1 : Int), (0 : Int), (0 : Int), (0 : Int), (0 : Int), (0 : Int), (0 : Int), (0 : Int), (0 : Int), (0 : Int), (0 : Int), (0 : Int), (0 : Int), (0 : Int), (0 : Int), (0 : Int)] +
   vB (65536 : Nat) (nB (65536 : Nat) (16 : Nat) (vB (65536 : Nat) (nB (65536 : Nat) (16 : Nat) (vB (18446744073709551616 : Nat) l % FP)) * vB (65536 : Nat) (nB (65536 : Nat) (16 : Nat) (vB (18446744073709551616 : Nat) l % FP)) % FP))) %
   FP)) +
   vB (65536 : Nat)
   (nB (65536 : Nat) (16 : Nat)
   (vB (65536 : Nat)
   (nB (65536 : Nat) (16 : Nat)
   (vB (65536 : Nat) dFe * vB (65536 : Nat) (nB (65536 : Nat) (16 : Nat) (vB (65536 : Nat) (nB (65536 : Nat) (16 : Nat) (vB (18446744073709551616 : Nat) l % FP)) * vB (65536 : Nat) (nB (65536 : Nat) (16 : Nat) (vB (18446744073709551616 : Nat) l % FP)) % FP)) % FP)) *
   vB (65536 : Nat) (nB (65536 : Nat) (16 : Nat) (vB (65536 : Nat) (nB (65536 : Nat) (16 : Nat) (vB (18446744073709551616 : Nat) m % FP)) * vB (65536 : Nat) (nB (65536 : Nat) (16 : Nat) (vB (18446744073709551616 : Nat) m % FP)) % FP)) %
   FP))) %
   FP)))) =
   F) := by kernel_rfl
set_option maxRecDepth 100000 in
theorem vc41  (F : D)  :
    (owed c74 (fun _ => none) Try.f41 [] F) = (
 (True ∧ (8 : Nat) ≠ (0 : Nat)) ∧
 ((1 : Nat) = (1 : Nat) ∧ false = false ∧ ((0 : Nat) < (4 : Nat) ∧ ([] : List Nat) = [] ∧ true = true) ∧ True) ∧
 (false = false ∧ ((1 : Nat) < (2 : Nat) ∧ Sk.arr (4 : Nat) = Sk.arr (4 : Nat)) ∧ True) ∧
 (Sk.st [Sk.arr (4 : Nat), Sk.arr (4 : Nat)] = Sk.st [Sk.arr (4 : Nat), Sk.arr (4 : Nat)] ∧ (8 : Nat) ≠ (0 : Nat) ∧ (8 : Nat) = (8 : Nat) ∧ false = false) ∧ (((8 : Nat) ≠ (0 : Nat) ∧ (8 : Nat) = (8 : Nat) ∧ true = true) ∧ True) ∧ D.st [D.arr IntKind.u64 (4 : Nat) [(0 : Int), (0 : Int), (0 : Int), (0 : Int)], D.arr IntKind.u64 (4 : Nat) [(1 : Int), (0 : Int), (0 : Int), (0 : Int)]] = F) := by kernel_rfl
set_option maxRecDepth 100000 in
theorem vc42  (F : D)  :
    (owed c74 (fun _ => none) Try.f42 [] F) = (
 (True ∧ (8 : Nat) ≠ (0 : Nat)) ∧
 ((1 : Nat) = (1 : Nat) ∧ false = false ∧ ((0 : Nat) < (4 : Nat) ∧ ([] : List Nat) = [] ∧ true = true) ∧ false = false ∧ ((1 : Nat) < (4 : Nat) ∧ ([] : List Nat) = [] ∧ true = true) ∧ false = false ∧ ((2 : Nat) < (4 : Nat) ∧ ([] : List Nat) = [] ∧ true = true) ∧ false = false ∧ ((3 : Nat) < (4 : Nat) ∧ ([] : List Nat) = [] ∧ true = true) ∧ True) ∧
 ((1 : Nat) = (1 : Nat) ∧ false = false ∧ ((0 : Nat) < (4 : Nat) ∧ ([] : List Nat) = [] ∧ true = true) ∧ false = false ∧ ((1 : Nat) < (4 : Nat) ∧ ([] : List Nat) = [] ∧ true = true) ∧ false = false ∧ ((2 : Nat) < (4 : Nat) ∧ ([] : List Nat) = [] ∧ true = true) ∧ false = false ∧ ((3 : Nat) < (4 : Nat) ∧ ([] : List Nat) = [] ∧ true = true) ∧ True) ∧
 (false = false ∧ ((0 : Nat) < (2 : Nat) ∧ Sk.arr (4 : Nat) = Sk.arr (4 : Nat)) ∧ false = false ∧ ((1 : Nat) < (2 : Nat) ∧ Sk.arr (4 : Nat) = Sk.arr (4 : Nat)) ∧ True) ∧
 (Sk.st [Sk.arr (4 : Nat), Sk.arr (4 : Nat)] = Sk.st [Sk.arr (4 : Nat), Sk.arr (4 : Nat)] ∧ (8 : Nat) ≠ (0 : Nat) ∧ (8 : Nat) = (8 : Nat) ∧ false = false) ∧
 (((8 : Nat) ≠ (0 : Nat) ∧ (8 : Nat) = (8 : Nat) ∧ true = true) ∧ True) ∧ D.st [D.arr IntKind.u64 (4 : Nat) [(14507833142362363162 : Int), (7578651490590762930 : Int), (13881468655802702940 : Int), (2407515759118799870 : Int)], D.arr IntKind.u64 (4 : Nat) [(7378697629483820632 : Int), (7378697629483820646 : Int), (7378697629483820646 : Int), (7378697629483820646 : Int)]] = F) := by kernel_rfl
set_option maxRecDepth 100000 in
theorem vc43  (F : D)  :
    (owed c48 (fun _ => none) Try.f43 [] F) = (
 (True ∧ (48 : Nat) ≠ (0 : Nat)) ∧
 ((1 : Nat) = (1 : Nat) ∧
 false = false ∧
 ((0 : Nat) < (16 : Nat) ∧ ([] : List Nat) = [] ∧ true = true) ∧
 false = false ∧
 ((1 : Nat) < (16 : Nat) ∧ ([] : List Nat) = [] ∧ true = true) ∧
 false = false ∧
 ((2 : Nat) < (16 : Nat) ∧ ([] : List Nat) = [] ∧ true = true) ∧
 false = false ∧
 ((3 : Nat) < (16 : Nat) ∧ ([] : List Nat) = [] ∧ true = true) ∧
 false = false ∧
 ((4 : Nat) < (16 : Nat) ∧ ([] : List Nat) = [] ∧ true = true) ∧
 false = false ∧
 ((5 : Nat) < (16 : Nat) ∧ ([] : List Nat) = [] ∧ true = true) ∧
 false = false ∧
 ((6 : Nat) < (16 : Nat) ∧ ([] : List Nat) = [] ∧ true = true) ∧
 false = false ∧
 ((7 : Nat) < (16 : Nat) ∧ ([] : List Nat) = [] ∧ true = true) ∧
 false = false ∧
 ((8 : Nat) < (16 : Nat) ∧ ([] : List Nat) = [] ∧ true = true) ∧
 false = false ∧
 ((9 : Nat) < (16 : Nat) ∧ ([] : List Nat) = [] ∧ true = true) ∧
 false = false ∧
 ((10 : Nat) < (16 : Nat) ∧ ([] : List Nat) = [] ∧ true = true) ∧
 false = false ∧ ((11 : Nat) < (16 : Nat) ∧ ([] : List Nat) = [] ∧ true = true) ∧ false = false ∧ ((12 : Nat) < (16 : Nat) ∧ ([] : List Nat) = [] ∧ true = true) ∧ false = false ∧ ((13 : Nat) < (16 : Nat) ∧ ([] : List Nat) = [] ∧ true = true) ∧ false = false ∧ ((14 : Nat) < (16 : Nat) ∧ ([] : List Nat) = [] ∧ true = true) ∧ false = false ∧ ((15 : Nat) < (16 : Nat) ∧ ([] : List Nat) = [] ∧ true = true) ∧ True) ∧
 ((1 : Nat) = (1 : Nat) ∧
 false = false ∧
 ((0 : Nat) < (16 : Nat) ∧ ([] : List Nat) = [] ∧ true = true) ∧
 false = false ∧
 ((1 : Nat) < (16 : Nat) ∧ ([] : List Nat) = [] ∧ true = true) ∧
 false = false ∧
 ((2 : Nat) < (16 : Nat) ∧ ([] : List Nat) = [] ∧ true = true) ∧
 false = false ∧
 ((3 : Nat) < (16 : Nat) ∧ ([] : List Nat) = [] ∧ true = true) ∧
 false = false ∧
 ((4 : Nat) < (16 : Nat) ∧ ([] : List Nat) = [] ∧ true = true) ∧
 false = false ∧
 ((5 : Nat) < (16 : Nat) ∧ ([] : List Nat) = [] ∧ true = true) ∧
 false = false ∧
 ((6 : Nat) < (16 : Nat) ∧ ([] : List Nat) = [] ∧ true = true) ∧
 false = false ∧
 ((7 : Nat) < (16 : Nat) ∧ ([] : List Nat) = [] ∧ true = true) ∧
 false = false ∧
 ((8 : Nat) < (16 : Nat) ∧ ([] : List Nat) = [] ∧ true = true) ∧
 false = false ∧
 ((9 : Nat) < (16 : Nat) ∧ ([] : List Nat) = [] ∧ true = true) ∧
 false = false ∧
 ((10 : Nat) < (16 : Nat) ∧ ([] : List Nat) = [] ∧ true = true) ∧
 false = false ∧
 ((11 : Nat) < (16 : Nat) ∧ ([] : List Nat) = [] ∧ true = true) ∧ false = false ∧ ((12 : Nat) < (16 : Nat) ∧ ([] : List Nat) = [] ∧ true = true) ∧ false = false ∧ ((13 : Nat) < (16 : Nat) ∧ ([] : List Nat) = [] ∧ true = true) ∧ false = false ∧ ((14 : Nat) < (16 : Nat) ∧ ([] : List Nat) = [] ∧ true = true) ∧ false = false ∧ ((15 : Nat) < (16 : Nat) ∧ ([] : List Nat) = [] ∧ true = true) ∧ True) ∧
 (∃ (n : Nat), [D.val (Value.int IntKind.i64 (1 : Int))] = [D.val (Value.int IntKind.i64 (↑n : Int))] ∧ n < (65536 : Nat)) ∧
 (false = false ∧ ((0 : Nat) < (3 : Nat) ∧ Sk.arr (16 : Nat) = Sk.arr (16 : Nat)) ∧ false = false ∧ ((1 : Nat) < (3 : Nat) ∧ Sk.arr (16 : Nat) = Sk.arr (16 : Nat)) ∧ false = false ∧ ((2 : Nat) < (3 : Nat) ∧ Sk.arr (16 : Nat) = Sk.arr (16 : Nat)) ∧ True) ∧
 (Sk.st [Sk.arr (16 : Nat), Sk.arr (16 : Nat), Sk.arr (16 : Nat)] = Sk.st [Sk.arr (16 : Nat), Sk.arr (16 : Nat), Sk.arr (16 : Nat)] ∧ (48 : Nat) ≠ (0 : Nat) ∧ (48 : Nat) = (48 : Nat) ∧ false = false) ∧
 (((48 : Nat) ≠ (0 : Nat) ∧ (48 : Nat) = (48 : Nat) ∧ true = true) ∧ True) ∧
 D.st
 [D.arr IntKind.i64 (16 : Nat) [(54554 : Int), (36645 : Int), (11616 : Int), (51542 : Int), (42930 : Int), (38181 : Int), (51040 : Int), (26924 : Int), (56412 : Int), (64982 : Int), (57905 : Int), (49316 : Int), (21502 : Int), (52590 : Int), (14035 : Int), (8553 : Int)],
 D.arr IntKind.i64 (16 : Nat) [(26200 : Int), (26214 : Int), (26214 : Int), (26214 : Int), (26214 : Int), (26214 : Int), (26214 : Int), (26214 : Int), (26214 : Int), (26214 : Int), (26214 : Int), (26214 : Int), (26214 : Int), (26214 : Int), (26214 : Int), (26214 : Int)],
 D.arr IntKind.i64 (16 : Nat) [(1 : Int), (0 : Int), (0 : Int), (0 : Int), (0 : Int), (0 : Int), (0 : Int), (0 : Int), (0 : Int), (0 : Int), (0 : Int), (0 : Int), (0 : Int), (0 : Int), (0 : Int), (0 : Int)]] =
 F) := by kernel_rfl
set_option maxRecDepth 100000 in
theorem vc102  (l m : List Int) (F : D)  :
    (owed c40 (fun _ => none) Try.f102 [ptD l m] F) = (
 (True ∧ false = false) ∧
 (True ∧ (16 : Nat) ≠ (0 : Nat)) ∧
 (Sk.st [Sk.arr (4 : Nat), Sk.arr (4 : Nat)] = Sk.st [Sk.arr (4 : Nat), Sk.arr (4 : Nat)] ∧ (0 : Nat) < (2 : Nat)) ∧
 ((4 : Nat) ≠ (0 : Nat) ∧ (4 : Nat) = (4 : Nat) ∧ true = true) ∧
 (Sk.st [Sk.arr (4 : Nat), Sk.arr (4 : Nat)] = Sk.st [Sk.arr (4 : Nat), Sk.arr (4 : Nat)] ∧ (1 : Nat) < (2 : Nat)) ∧
 ((4 : Nat) ≠ (0 : Nat) ∧ (4 : Nat) = (4 : Nat) ∧ true = true) ∧
 ((1 : Nat) = (1 : Nat) ∧ false = false ∧ ((0 : Nat) < (4 : Nat) ∧ ([] : List Nat) = [] ∧ true = true) ∧ True) ∧
 (Sk.st [Sk.arr (4 : Nat), Sk.arr (4 : Nat)] = Sk.st [Sk.arr (4 : Nat), Sk.arr (4 : Nat)] ∧ (0 : Nat) < (2 : Nat)) ∧
 ((4 : Nat) ≠ (0 : Nat) ∧ (4 : Nat) = (4 : Nat) ∧ true = true) ∧
 (Sk.st [Sk.arr (4 : Nat), Sk.arr (4 : Nat)] = Sk.st [Sk.arr (4 : Nat), Sk.arr (4 : Nat)] ∧ (1 : Nat) < (2 : Nat)) ∧
 ((4 : Nat) ≠ (0 : Nat) ∧ (4 : Nat) = (4 : Nat) ∧ true = true) ∧
 (∃ (l_1 : List Int), ∃ (m_1 : List Int), [D.arr IntKind.u64 (4 : Nat) l, D.arr IntKind.u64 (4 : Nat) m] = [D.arr IntKind.u64 (4 : Nat) l_1, D.arr IntKind.u64 (4 : Nat) m_1] ∧ isN l_1 ∧ isN m_1) ∧
 (false = false ∧ ((0 : Nat) < (4 : Nat) ∧ Sk.arr (4 : Nat) = Sk.arr (4 : Nat)) ∧ false = false ∧ ((1 : Nat) < (4 : Nat) ∧ Sk.arr (4 : Nat) = Sk.arr (4 : Nat)) ∧ false = false ∧ ((2 : Nat) < (4 : Nat) ∧ Sk.arr (4 : Nat) = Sk.arr (4 : Nat)) ∧ false = false ∧ ((3 : Nat) < (4 : Nat) ∧ Sk.arr (4 : Nat) = Sk.arr (4 : Nat)) ∧ True) ∧
 (Sk.st [Sk.arr (4 : Nat), Sk.arr (4 : Nat), Sk.arr (4 : Nat), Sk.arr (4 : Nat)] = Sk.st [Sk.arr (4 : Nat), Sk.arr (4 : Nat), Sk.arr (4 : Nat), Sk.arr (4 : Nat)] ∧ (16 : Nat) ≠ (0 : Nat) ∧ (16 : Nat) = (16 : Nat) ∧ false = false) ∧
 (((16 : Nat) ≠ (0 : Nat) ∧ (16 : Nat) = (16 : Nat) ∧ true = true) ∧ True) ∧
 D.st [D.arr IntKind.u64 (4 : Nat) l, D.arr IntKind.u64 (4 : Nat) m, D.arr IntKind.u64 (4 : Nat) [(1 : Int), (0 : Int), (0 : Int), (0 : Int)], D.arr IntKind.u64 (4 : Nat) (nB (18446744073709551616 : Nat) (4 : Nat) (vB (18446744073709551616 : Nat) l * vB (18446744073709551616 : Nat) m % FP))] = F) := by kernel_rfl
set_option maxRecDepth 100000 in
theorem vc103  (a b c d a' b' c' d' : List Int) (F : D)  :
    (owed c40 (fun _ => none) Try.f103 [quD a b c d, quD a' b' c' d'] F) = (
 (True ∧ false = false) ∧
 (True ∧ false = false) ∧
 (True ∧ (16 : Nat) ≠ (0 : Nat)) ∧
 (Sk.st [Sk.arr (4 : Nat), Sk.arr (4 : Nat), Sk.arr (4 : Nat), Sk.arr (4 : Nat)] = Sk.st [Sk.arr (4 : Nat), Sk.arr (4 : Nat), Sk.arr (4 : Nat), Sk.arr (4 : Nat)] ∧ (1 : Nat) < (4 : Nat)) ∧
 ((4 : Nat) ≠ (0 : Nat) ∧ (4 : Nat) = (4 : Nat) ∧ true = true) ∧
 (Sk.st [Sk.arr (4 : Nat), Sk.arr (4 : Nat), Sk.arr (4 : Nat), Sk.arr (4 : Nat)] = Sk.st [Sk.arr (4 : Nat), Sk.arr (4 : Nat), Sk.arr (4 : Nat), Sk.arr (4 : Nat)] ∧ (0 : Nat) < (4 : Nat)) ∧
 ((4 : Nat) ≠ (0 : Nat) ∧ (4 : Nat) = (4 : Nat) ∧ true = true) ∧
 (∃ (l : List Int), ∃ (m : List Int), [D.arr IntKind.u64 (4 : Nat) b, D.arr IntKind.u64 (4 : Nat) a] = [D.arr IntKind.u64 (4 : Nat) l, D.arr IntKind.u64 (4 : Nat) m] ∧ isN l ∧ isN m) ∧
 (Sk.st [Sk.arr (4 : Nat), Sk.arr (4 : Nat), Sk.arr (4 : Nat), Sk.arr (4 : Nat)] = Sk.st [Sk.arr (4 : Nat), Sk.arr (4 : Nat), Sk.arr (4 : Nat), Sk.arr (4 : Nat)] ∧ (1 : Nat) < (4 : Nat)) ∧
 ((4 : Nat) ≠ (0 : Nat) ∧ (4 : Nat) = (4 : Nat) ∧ true = true) ∧
 (Sk.st [Sk.arr (4 : Nat), Sk.arr (4 : Nat), Sk.arr (4 : Nat), Sk.arr (4 : Nat)] = Sk.st [Sk.arr (4 : Nat), Sk.arr (4 : Nat), Sk.arr (4 : Nat), Sk.arr (4 : Nat)] ∧ (0 : Nat) < (4 : Nat)) ∧
 ((4 : Nat) ≠ (0 : Nat) ∧ (4 : Nat) = (4 : Nat) ∧ true = true) ∧
 (∃ (l : List Int), ∃ (m : List Int), [D.arr IntKind.u64 (4 : Nat) b', D.arr IntKind.u64 (4 : Nat) a'] = [D.arr IntKind.u64 (4 : Nat) l, D.arr IntKind.u64 (4 : Nat) m] ∧ isN l ∧ isN m) ∧
 (∃ (l : List Int),
 ∃ (m : List Int),
 [D.arr IntKind.u64 (4 : Nat) (nB (18446744073709551616 : Nat) (4 : Nat) (fsb (vB (18446744073709551616 : Nat) b) (vB (18446744073709551616 : Nat) a))), D.arr IntKind.u64 (4 : Nat) (nB (18446744073709551616 : Nat) (4 : Nat) (fsb (vB (18446744073709551616 : Nat) b') (vB (18446744073709551616 : Nat) a')))] =
 [D.arr IntKind.u64 (4 : Nat) l, D.arr IntKind.u64 (4 : Nat) m] ∧
 isN l ∧ isN m) ∧
 (True ∧ (4 : Nat) ≠ (0 : Nat)) ∧
 (Sk.arr (4 : Nat) = Sk.arr (4 : Nat) ∧ (4 : Nat) ≠ (0 : Nat) ∧ (4 : Nat) = (4 : Nat) ∧ false = false) ∧
 (Sk.st [Sk.arr (4 : Nat), Sk.arr (4 : Nat), Sk.arr (4 : Nat), Sk.arr (4 : Nat)] = Sk.st [Sk.arr (4 : Nat), Sk.arr (4 : Nat), Sk.arr (4 : Nat), Sk.arr (4 : Nat)] ∧ (1 : Nat) < (4 : Nat)) ∧
 ((4 : Nat) ≠ (0 : Nat) ∧ (4 : Nat) = (4 : Nat) ∧ true = true) ∧
 (Sk.st [Sk.arr (4 : Nat), Sk.arr (4 : Nat), Sk.arr (4 : Nat), Sk.arr (4 : Nat)] = Sk.st [Sk.arr (4 : Nat), Sk.arr (4 : Nat), Sk.arr (4 : Nat), Sk.arr (4 : Nat)] ∧ (0 : Nat) < (4 : Nat)) ∧
 ((4 : Nat) ≠ (0 : Nat) ∧ (4 : Nat) = (4 : Nat) ∧ true = true) ∧
 (∃ (l : List Int), ∃ (m : List Int), [D.arr IntKind.u64 (4 : Nat) b, D.arr IntKind.u64 (4 : Nat) a] = [D.arr IntKind.u64 (4 : Nat) l, D.arr IntKind.u64 (4 : Nat) m] ∧ isN l ∧ isN m) ∧
 (Sk.st [Sk.arr (4 : Nat), Sk.arr (4 : Nat), Sk.arr (4 : Nat), Sk.arr (4 : Nat)] = Sk.st [Sk.arr (4 : Nat), Sk.arr (4 : Nat), Sk.arr (4 : Nat), Sk.arr (4 : Nat)] ∧ (1 : Nat) < (4 : Nat)) ∧
 ((4 : Nat) ≠ (0 : Nat) ∧ (4 : Nat) = (4 : Nat) ∧ true = true) ∧
 (Sk.st [Sk.arr (4 : Nat), Sk.arr (4 : Nat), Sk.arr (4 : Nat), Sk.arr (4 : Nat)] = Sk.st [Sk.arr (4 : Nat), Sk.arr (4 : Nat), Sk.arr (4 : Nat), Sk.arr (4 : Nat)] ∧ (0 : Nat) < (4 : Nat)) ∧
 ((4 : Nat) ≠ (0 : Nat) ∧ (4 : Nat) = (4 : Nat) ∧ true = true) ∧
 (∃ (l : List Int), ∃ (m : List Int), [D.arr IntKind.u64 (4 : Nat) b', D.arr IntKind.u64 (4 : Nat) a'] = [D.arr IntKind.u64 (4 : Nat) l, D.arr IntKind.u64 (4 : Nat) m] ∧ isN l ∧ isN m) ∧
 (∃ (l : List Int),
 ∃ (m : List Int),
 [D.arr IntKind.u64 (4 : Nat) (nB (18446744073709551616 : Nat) (4 : Nat) ((vB (18446744073709551616 : Nat) b + vB (18446744073709551616 : Nat) a) % FP)), D.arr IntKind.u64 (4 : Nat) (nB (18446744073709551616 : Nat) (4 : Nat) ((vB (18446744073709551616 : Nat) b' + vB (18446744073709551616 : Nat) a') % FP))] =
 [D.arr IntKind.u64 (4 : Nat) l, D.arr IntKind.u64 (4 : Nat) m] ∧
 isN l ∧ isN m) ∧
 (True ∧ (4 : Nat) ≠ (0 : Nat)) ∧
 (Sk.arr (4 : Nat) = Sk.arr (4 : Nat) ∧ (4 : Nat) ≠ (0 : Nat) ∧ (4 : Nat) = (4 : Nat) ∧ false = false) ∧
 (Sk.st [Sk.arr (4 : Nat), Sk.arr (4 : Nat), Sk.arr (4 : Nat), Sk.arr (4 : Nat)] = Sk.st [Sk.arr (4 : Nat), Sk.arr (4 : Nat), Sk.arr (4 : Nat), Sk.arr (4 : Nat)] ∧ (3 : Nat) < (4 : Nat)) ∧
 ((4 : Nat) ≠ (0 : Nat) ∧ (4 : Nat) = (4 : Nat) ∧ true = true) ∧
 (Sk.st [Sk.arr (4 : Nat), Sk.arr (4 : Nat), Sk.arr (4 : Nat), Sk.arr (4 : Nat)] = Sk.st [Sk.arr (4 : Nat), Sk.arr (4 : Nat), Sk.arr (4 : Nat), Sk.arr (4 : Nat)] ∧ (3 : Nat) < (4 : Nat)) ∧
 ((4 : Nat) ≠ (0 : Nat) ∧ (4 : Nat) = (4 : Nat) ∧ true = true) ∧
 (∃ (l : List Int), ∃ (m : List Int), [D.arr IntKind.u64 (4 : Nat) d, D.arr IntKind.u64 (4 : Nat) d'] = [D.arr IntKind.u64 (4 : Nat) l, D.arr IntKind.u64 (4 : Nat) m] ∧ isN l ∧ isN m) ∧
 (0 : Nat) = (0 : Nat) ∧
 (∃ (l : List Int), ∃ (m : List Int), [D.arr IntKind.u64 (4 : Nat) (nB (18446744073709551616 : Nat) (4 : Nat) (vB (18446744073709551616 : Nat) d * vB (18446744073709551616 : Nat) d' % FP)), D.arr IntKind.u64 (4 : Nat) dNum] = [D.arr IntKind.u64 (4 : Nat) l, D.arr IntKind.u64 (4 : Nat) m] ∧ isN l ∧ isN m) ∧
 (True ∧ (4 : Nat) ≠ (0 : Nat)) ∧
 (Sk.arr (4 : Nat) = Sk.arr (4 : Nat) ∧ (4 : Nat) ≠ (0 : Nat) ∧ (4 : Nat) = (4 : Nat) ∧ false = false) ∧
 ((4 : Nat) ≠ (0 : Nat) ∧ (4 : Nat) = (4 : Nat) ∧ true = true) ∧
 ((4 : Nat) ≠ (0 : Nat) ∧ (4 : Nat) = (4 : Nat) ∧ true = true) ∧
 (∃ (l : List Int),
 ∃ (m : List Int),
 [D.arr IntKind.u64 (4 : Nat) (nB (18446744073709551616 : Nat) (4 : Nat) (vB (18446744073709551616 : Nat) (nB (18446744073709551616 : Nat) (4 : Nat) (vB (18446744073709551616 : Nat) d * vB (18446744073709551616 : Nat) d' % FP)) * vB (18446744073709551616 : Nat) dNum % FP)),
 D.arr IntKind.u64 (4 : Nat) (nB (18446744073709551616 : Nat) (4 : Nat) (vB (18446744073709551616 : Nat) (nB (18446744073709551616 : Nat) (4 : Nat) (vB (18446744073709551616 : Nat) d * vB (18446744073709551616 : Nat) d' % FP)) * vB (18446744073709551616 : Nat) dNum % FP))] =
 [D.arr IntKind.u64 (4 : Nat) l, D.arr IntKind.u64 (4 : Nat) m] ∧
 isN l ∧ isN m) ∧
 (Sk.arr (4 : Nat) = Sk.arr (4 : Nat) ∧ (4 : Nat) ≠ (0 : Nat) ∧ (4 : Nat) = (4 : Nat) ∧ false = false) ∧
 (Sk.st [Sk.arr (4 : Nat), Sk.arr (4 : Nat), Sk.arr (4 : Nat), Sk.arr (4 : Nat)] = Sk.st [Sk.arr (4 : Nat), Sk.arr (4 : Nat), Sk.arr (4 : Nat), Sk.arr (4 : Nat)] ∧ (2 : Nat) < (4 : Nat)) ∧
 ((4 : Nat) ≠ (0 : Nat) ∧ (4 : Nat) = (4 : Nat) ∧ true = true) ∧
 (Sk.st [Sk.arr (4 : Nat), Sk.arr (4 : Nat), Sk.arr (4 : Nat), Sk.arr (4 : Nat)] = Sk.st [Sk.arr (4 : Nat), Sk.arr (4 : Nat), Sk.arr (4 : Nat), Sk.arr (4 : Nat)] ∧ (2 : Nat) < (4 : Nat)) ∧
 ((4 : Nat) ≠ (0 : Nat) ∧ (4 : Nat) = (4 : Nat) ∧ true = true) ∧
 (∃ (l : List Int), ∃ (m : List Int), [D.arr IntKind.u64 (4 : Nat) c, D.arr IntKind.u64 (4 : Nat) c'] = [D.arr IntKind.u64 (4 : Nat) l, D.arr IntKind.u64 (4 : Nat) m] ∧ isN l ∧ isN m) ∧
 (True ∧ (4 : Nat) ≠ (0 : Nat)) ∧
 (Sk.arr (4 : Nat) = Sk.arr (4 : Nat) ∧ (4 : Nat) ≠ (0 : Nat) ∧ (4 : Nat) = (4 : Nat) ∧ false = false) ∧
 ((4 : Nat) ≠ (0 : Nat) ∧ (4 : Nat) = (4 : Nat) ∧ true = true) ∧
 ((4 : Nat) ≠ (0 : Nat) ∧ (4 : Nat) = (4 : Nat) ∧ true = true) ∧
 (∃ (l : List Int),
 ∃ (m : List Int),
 [D.arr IntKind.u64 (4 : Nat) (nB (18446744073709551616 : Nat) (4 : Nat) (vB (18446744073709551616 : Nat) c * vB (18446744073709551616 : Nat) c' % FP)),
 D.arr IntKind.u64 (4 : Nat) (nB (18446744073709551616 : Nat) (4 : Nat) (vB (18446744073709551616 : Nat) c * vB (18446744073709551616 : Nat) c' % FP))] =
 [D.arr IntKind.u64 (4 : Nat) l, D.arr IntKind.u64 (4 : Nat) m] ∧
 isN l ∧ isN m) ∧
 (Sk.arr (4 : Nat) = Sk.arr (4 : Nat) ∧ (4 : Nat) ≠ (0 : Nat) ∧ (4 : Nat) = (4 : Nat) ∧ false = false) ∧
 ((4 : Nat) ≠ (0 : Nat) ∧ (4 : Nat) = (4 : Nat) ∧ true = true) ∧
 ((4 : Nat) ≠ (0 : Nat) ∧ (4 : Nat) = (4 : Nat) ∧ true = true) ∧
 (∃ (l : List Int),
 ∃ (m : List Int),
 [D.arr IntKind.u64 (4 : Nat)
 (nB (18446744073709551616 : Nat) (4 : Nat)
 (vB (18446744073709551616 : Nat) (nB (18446744073709551616 : Nat) (4 : Nat) ((vB (18446744073709551616 : Nat) b + vB (18446744073709551616 : Nat) a) % FP)) *
 vB (18446744073709551616 : Nat) (nB (18446744073709551616 : Nat) (4 : Nat) ((vB (18446744073709551616 : Nat) b' + vB (18446744073709551616 : Nat) a') % FP)) %
 FP)),
 D.arr IntKind.u64 (4 : Nat)
 (nB (18446744073709551616 : Nat) (4 : Nat)
 (vB (18446744073709551616 : Nat) (nB (18446744073709551616 : Nat) (4 : Nat) (fsb (vB (18446744073709551616 : Nat) b) (vB (18446744073709551616 : Nat) a))) *
 vB (18446744073709551616 : Nat) (nB (18446744073709551616 : Nat) (4 : Nat) (fsb (vB (18446744073709551616 : Nat) b') (vB (18446744073709551616 : Nat) a'))) %
 FP))] =
 [D.arr IntKind.u64 (4 : Nat) l, D.arr IntKind.u64 (4 : Nat) m] ∧
 isN l ∧ isN m) ∧
 ((4 : Nat) ≠ (0 : Nat) ∧ (4 : Nat) = (4 : Nat) ∧ true = true) ∧
 ((4 : Nat) ≠ (0 : Nat) ∧ (4 : Nat) = (4 : Nat) ∧ true = true) ∧
 (∃ (l : List Int),
 ∃ (m : List Int),
 [D.arr IntKind.u64 (4 : Nat)
 (nB (18446744073709551616 : Nat) (4 : Nat)
 ((vB (18446744073709551616 : Nat) (nB (18446744073709551616 : Nat) (4 : Nat) (vB (18446744073709551616 : Nat) c * vB (18446744073709551616 : Nat) c' % FP)) +
 vB (18446744073709551616 : Nat) (nB (18446744073709551616 : Nat) (4 : Nat) (vB (18446744073709551616 : Nat) c * vB (18446744073709551616 : Nat) c' % FP))) %
 FP)),
 D.arr IntKind.u64 (4 : Nat)
 (nB (18446744073709551616 : Nat) (4 : Nat)
 ((vB (18446744073709551616 : Nat)
 (nB (18446744073709551616 : Nat) (4 : Nat) (vB (18446744073709551616 : Nat) (nB (18446744073709551616 : Nat) (4 : Nat) (vB (18446744073709551616 : Nat) d * vB (18446744073709551616 : Nat) d' % FP)) * vB (18446744073709551616 : Nat) dNum % FP)) +
 vB (18446744073709551616 : Nat)
 (nB (18446744073709551616 : Nat) (4 : Nat) (vB (18446744073709551616 : Nat) (nB (18446744073709551616 : Nat) (4 : Nat) (vB (18446744073709551616 : Nat) d * vB (18446744073709551616 : Nat) d' % FP)) * vB (18446744073709551616 : Nat) dNum % FP))) %
 FP))] =
 [D.arr IntKind.u64 (4 : Nat) l, D.arr IntKind.u64 (4 : Nat) m] ∧
 isN l ∧ isN m) ∧
 ((4 : Nat) ≠ (0 : Nat) ∧ (4 : Nat) = (4 : Nat) ∧ true = true) ∧
 ((4 : Nat) ≠ (0 : Nat) ∧ (4 : Nat) = (4 : Nat) ∧ true = true) ∧
 (∃ (l : List Int),
 ∃ (m : List Int),
 [D.arr IntKind.u64 (4 : Nat)
 (nB (18446744073709551616 : Nat) (4 : Nat)
 ((vB (18446744073709551616 : Nat) (nB (18446744073709551616 : Nat) (4 : Nat) (vB (18446744073709551616 : Nat) c * vB (18446744073709551616 : Nat) c' % FP)) +
 vB (18446744073709551616 : Nat) (nB (18446744073709551616 : Nat) (4 : Nat) (vB (18446744073709551616 : Nat) c * vB (18446744073709551616 : Nat) c' % FP))) %
 FP)),
 D.arr IntKind.u64 (4 : Nat)
 (nB (18446744073709551616 : Nat) (4 : Nat)
 ((vB (18446744073709551616 : Nat)
 (nB (18446744073709551616 : Nat) (4 : Nat) (vB (18446744073709551616 : Nat) (nB (18446744073709551616 : Nat) (4 : Nat) (vB (18446744073709551616 : Nat) d * vB (18446744073709551616 : Nat) d' % FP)) * vB (18446744073709551616 : Nat) dNum % FP)) +
 vB (18446744073709551616 : Nat)
 (nB (18446744073709551616 : Nat) (4 : Nat) (vB (18446744073709551616 : Nat) (nB (18446744073709551616 : Nat) (4 : Nat) (vB (18446744073709551616 : Nat) d * vB (18446744073709551616 : Nat) d' % FP)) * vB (18446744073709551616 : Nat) dNum % FP))) %
 FP))] =
 [D.arr IntKind.u64 (4 : Nat) l, D.arr IntKind.u64 (4 : Nat) m] ∧
 isN l ∧ isN m) ∧
 ((4 : Nat) ≠ (0 : Nat) ∧ (4 : Nat) = (4 : Nat) ∧ true = true) ∧
 ((4 : Nat) ≠ (0 : Nat) ∧ (4 : Nat) = (4 : Nat) ∧ true = true) ∧
 (∃ (l : List Int),
 ∃ (m : List Int),
 [D.arr IntKind.u64 (4 : Nat)
 (nB (18446744073709551616 : Nat) (4 : Nat)
 (vB (18446744073709551616 : Nat) (nB (18446744073709551616 : Nat) (4 : Nat) ((vB (18446744073709551616 : Nat) b + vB (18446744073709551616 : Nat) a) % FP)) *
 vB (18446744073709551616 : Nat) (nB (18446744073709551616 : Nat) (4 : Nat) ((vB (18446744073709551616 : Nat) b' + vB (18446744073709551616 : Nat) a') % FP)) %
 FP)),
 D.arr IntKind.u64 (4 : Nat)
 (nB (18446744073709551616 : Nat) (4 : Nat)
 (vB (18446744073709551616 : Nat) (nB (18446744073709551616 : Nat) (4 : Nat) (fsb (vB (18446744073709551616 : Nat) b) (vB (18446744073709551616 : Nat) a))) *
 vB (18446744073709551616 : Nat) (nB (18446744073709551616 : Nat) (4 : Nat) (fsb (vB (18446744073709551616 : Nat) b') (vB (18446744073709551616 : Nat) a'))) %
 FP))] =
 [D.arr IntKind.u64 (4 : Nat) l, D.arr IntKind.u64 (4 : Nat) m] ∧
 isN l ∧ isN m) ∧
 (True ∧ (4 : Nat) ≠ (0 : Nat)) ∧
 (True ∧ (4 : Nat) ≠ (0 : Nat)) ∧
 (True ∧ (4 : Nat) ≠ (0 : Nat)) ∧
 (True ∧ (4 : Nat) ≠ (0 : Nat)) ∧
 (Sk.arr (4 : Nat) = Sk.arr (4 : Nat) ∧ (4 : Nat) ≠ (0 : Nat) ∧ (4 : Nat) = (4 : Nat) ∧ false = false) ∧
 (Sk.arr (4 : Nat) = Sk.arr (4 : Nat) ∧ (4 : Nat) ≠ (0 : Nat) ∧ (4 : Nat) = (4 : Nat) ∧ false = false) ∧
 (Sk.arr (4 : Nat) = Sk.arr (4 : Nat) ∧ (4 : Nat) ≠ (0 : Nat) ∧ (4 : Nat) = (4 : Nat) ∧ false = false) ∧
 (Sk.arr (4 : Nat) = Sk.arr (4 : Nat) ∧ (4 : Nat) ≠ (0 : Nat) ∧ (4 : Nat) = (4 : Nat) ∧ false = false) ∧
 ((4 : Nat) ≠ (0 : Nat) ∧ (4 : Nat) = (4 : Nat) ∧ true = true) ∧
 ((4 : Nat) ≠ (0 : Nat) ∧ (4 : Nat) = (4 : Nat) ∧ true = true) ∧
 (∃ (l : List Int),
 ∃ (m : List Int),
 [D.arr IntKind.u64 (4 : Nat)
 (nB (18446744073709551616 : Nat) (4 : Nat)
 (fsb
 (vB (18446744073709551616 : Nat)
 (nB (18446744073709551616 : Nat) (4 : Nat)
 (vB (18446744073709551616 : Nat) (nB (18446744073709551616 : Nat) (4 : Nat) ((vB (18446744073709551616 : Nat) b + vB (18446744073709551616 : Nat) a) % FP)) *
 vB (18446744073709551616 : Nat) (nB (18446744073709551616 : Nat) (4 : Nat) ((vB (18446744073709551616 : Nat) b' + vB (18446744073709551616 : Nat) a') % FP)) %
 FP)))
 (vB (18446744073709551616 : Nat)
 (nB (18446744073709551616 : Nat) (4 : Nat)
 (vB (18446744073709551616 : Nat) (nB (18446744073709551616 : Nat) (4 : Nat) (fsb (vB (18446744073709551616 : Nat) b) (vB (18446744073709551616 : Nat) a))) *
 vB (18446744073709551616 : Nat) (nB (18446744073709551616 : Nat) (4 : Nat) (fsb (vB (18446744073709551616 : Nat) b') (vB (18446744073709551616 : Nat) a'))) %
 FP))))),
 D.arr IntKind.u64 (4 : Nat)
 (nB (18446744073709551616 : Nat) (4 : Nat)
 (fsb
 (vB (18446744073709551616 : Nat)
 (nB (18446744073709551616 : Nat) (4 : Nat)
 ((vB (18446744073709551616 : Nat) (nB (18446744073709551616 : Nat) (4 : Nat) (vB (18446744073709551616 : Nat) c * vB (18446744073709551616 : Nat) c' % FP)) +
 vB (18446744073709551616 : Nat) (nB (18446744073709551616 : Nat) (4 : Nat) (vB (18446744073709551616 : Nat) c * vB (18446744073709551616 : Nat) c' % FP))) %
 FP)))
 (vB (18446744073709551616 : Nat)
 (nB (18446744073709551616 : Nat) (4 : Nat)
 ((vB (18446744073709551616 : Nat)
 (nB (18446744073709551616 : Nat) (4 : Nat)
 (vB (18446744073709551616 : Nat) (nB (18446744073709551616 : Nat) (4 : Nat) (vB (18446744073709551616 : Nat) d * vB (18446744073709551616 : Nat) d' % FP)) * vB (18446744073709551616 : Nat) dNum % FP)) +
 vB (18446744073709551616 : Nat)
 (nB (18446744073709551616 : Nat) (4 : Nat)
 (vB (18446744073709551616 : Nat) (nB (18446744073709551616 : Nat) (4 : Nat) (vB (18446744073709551616 : Nat) d * vB (18446744073709551616 : Nat) d' % FP)) * vB (18446744073709551616 : Nat) dNum % FP))) %
 FP)))))] =
 [D.arr IntKind.u64 (4 : Nat) l, D.arr IntKind.u64 (4 : Nat) m] ∧
 isN l ∧ isN m) ∧
 ((4 : Nat) ≠ (0 : Nat) ∧ (4 : Nat) = (4 : Nat) ∧ true = true) ∧
 ((4 : Nat) ≠ (0 : Nat) ∧ (4 : Nat) = (4 : Nat) ∧ true = true) ∧
 (∃ (l : List Int),
 ∃ (m : List Int),
 [D.arr IntKind.u64 (4 : Nat)
 (nB (18446744073709551616 : Nat) (4 : Nat)
 ((vB (18446744073709551616 : Nat)
 (nB (18446744073709551616 : Nat) (4 : Nat)
 ((vB (18446744073709551616 : Nat) (nB (18446744073709551616 : Nat) (4 : Nat) (vB (18446744073709551616 : Nat) c * vB (18446744073709551616 : Nat) c' % FP)) +
 vB (18446744073709551616 : Nat) (nB (18446744073709551616 : Nat) (4 : Nat) (vB (18446744073709551616 : Nat) c * vB (18446744073709551616 : Nat) c' % FP))) %
 FP)) +
 vB (18446744073709551616 : Nat)
 (nB (18446744073709551616 : Nat) (4 : Nat)
 ((vB (18446744073709551616 : Nat)
 (nB (18446744073709551616 : Nat) (4 : Nat)
 (vB (18446744073709551616 : Nat) (nB (18446744073709551616 : Nat) (4 : Nat) (vB (18446744073709551616 : Nat) d * vB (18446744073709551616 : Nat) d' % FP)) * vB (18446744073709551616 : Nat) dNum % FP)) +
 vB (18446744073709551616 : Nat)
 (nB (18446744073709551616 : Nat) (4 : Nat)
 (vB (18446744073709551616 : Nat) (nB (18446744073709551616 : Nat) (4 : Nat) (vB (18446744073709551616 : Nat) d * vB (18446744073709551616 : Nat) d' % FP)) * vB (18446744073709551616 : Nat) dNum % FP))) %
 FP))) %
 FP)),
 D.arr IntKind.u64 (4 : Nat)
 (nB (18446744073709551616 : Nat) (4 : Nat)
 ((vB (18446744073709551616 : Nat)
 (nB (18446744073709551616 : Nat) (4 : Nat)
 (vB (18446744073709551616 : Nat) (nB (18446744073709551616 : Nat) (4 : Nat) ((vB (18446744073709551616 : Nat) b + vB (18446744073709551616 : Nat) a) % FP)) *
 vB (18446744073709551616 : Nat) (nB (18446744073709551616 : Nat) (4 : Nat) ((vB (18446744073709551616 : Nat) b' + vB (18446744073709551616 : Nat) a') % FP)) %
 FP)) +
 vB (18446744073709551616 : Nat)
 (nB (18446744073709551616 : Nat) (4 : Nat)
 (vB (18446744073709551616 : Nat) (nB (18446744073709551616 : Nat) (4 : Nat) (fsb (vB (18446744073709551616 : Nat) b) (vB (18446744073709551616 : Nat) a))) *
 vB (18446744073709551616 : Nat) (nB (18446744073709551616 : Nat) (4 : Nat) (fsb (vB (18446744073709551616 : Nat) b') (vB (18446744073709551616 : Nat) a'))) %
 FP))) %
 FP))] =
 [D.arr IntKind.u64 (4 : Nat) l, D.arr IntKind.u64 (4 : Nat) m] ∧
 isN l ∧ isN m) ∧
 ((4 : Nat) ≠ (0 : Nat) ∧ (4 : Nat) = (4 : Nat) ∧ true = true) ∧
 ((4 : Nat) ≠ (0 : Nat) ∧ (4 : Nat) = (4 : Nat) ∧ true = true) ∧
 (∃ (l : List Int),
 ∃ (m : List Int),
 [D.arr IntKind.u64 (4 : Nat)
 (nB (18446744073709551616 : Nat) (4 : Nat)
 (fsb
 (vB (18446744073709551616 : Nat)
 (nB (18446744073709551616 : Nat) (4 : Nat)
 ((vB (18446744073709551616 : Nat) (nB (18446744073709551616 : Nat) (4 : Nat) (vB (18446744073709551616 : Nat) c * vB (18446744073709551616 : Nat) c' % FP)) +
 vB (18446744073709551616 : Nat) (nB (18446744073709551616 : Nat) (4 : Nat) (vB (18446744073709551616 : Nat) c * vB (18446744073709551616 : Nat) c' % FP))) %
 FP)))
 (vB (18446744073709551616 : Nat)
 (nB (18446744073709551616 : Nat) (4 : Nat)
 ((vB (18446744073709551616 : Nat)
 (nB (18446744073709551616 : Nat) (4 : Nat)
 (vB (18446744073709551616 : Nat) (nB (18446744073709551616 : Nat) (4 : Nat) (vB (18446744073709551616 : Nat) d * vB (18446744073709551616 : Nat) d' % FP)) * vB (18446744073709551616 : Nat) dNum % FP)) +
 vB (18446744073709551616 : Nat)
 (nB (18446744073709551616 : Nat) (4 : Nat)
 (vB (18446744073709551616 : Nat) (nB (18446744073709551616 : Nat) (4 : Nat) (vB (18446744073709551616 : Nat) d * vB (18446744073709551616 : Nat) d' % FP)) * vB (18446744073709551616 : Nat) dNum % FP))) %
 FP))))),
 D.arr IntKind.u64 (4 : Nat)
 (nB (18446744073709551616 : Nat) (4 : Nat)
 ((vB (18446744073709551616 : Nat)
 (nB (18446744073709551616 : Nat) (4 : Nat)
 ((vB (18446744073709551616 : Nat) (nB (18446744073709551616 : Nat) (4 : Nat) (vB (18446744073709551616 : Nat) c * vB (18446744073709551616 : Nat) c' % FP)) +
 vB (18446744073709551616 : Nat) (nB (18446744073709551616 : Nat) (4 : Nat) (vB (18446744073709551616 : Nat) c * vB (18446744073709551616 : Nat) c' % FP))) %
 FP)) +
 vB (18446744073709551616 : Nat)
 (nB (18446744073709551616 : Nat) (4 : Nat)
 ((vB (18446744073709551616 : Nat)
 (nB (18446744073709551616 : Nat) (4 : Nat)
 (vB (18446744073709551616 : Nat) (nB (18446744073709551616 : Nat) (4 : Nat) (vB (18446744073709551616 : Nat) d * vB (18446744073709551616 : Nat) d' % FP)) * vB (18446744073709551616 : Nat) dNum % FP)) +
 vB (18446744073709551616 : Nat)
 (nB (18446744073709551616 : Nat) (4 : Nat)
 (vB (18446744073709551616 : Nat) (nB (18446744073709551616 : Nat) (4 : Nat) (vB (18446744073709551616 : Nat) d * vB (18446744073709551616 : Nat) d' % FP)) * vB (18446744073709551616 : Nat) dNum % FP))) %
 FP))) %
 FP))] =
 [D.arr IntKind.u64 (4 : Nat) l, D.arr IntKind.u64 (4 : Nat) m] ∧
 isN l ∧ isN m) ∧
 ((4 : Nat) ≠ (0 : Nat) ∧ (4 : Nat) = (4 : Nat) ∧ true = true) ∧
 ((4 : Nat) ≠ (0 : Nat) ∧ (4 : Nat) = (4 : Nat) ∧ true = true) ∧
 (∃ (l : List Int),
 ∃ (m : List Int),
 [D.arr IntKind.u64 (4 : Nat)
 (nB (18446744073709551616 : Nat) (4 : Nat)
 (fsb
 (vB (18446744073709551616 : Nat)
 (nB (18446744073709551616 : Nat) (4 : Nat)
 (vB (18446744073709551616 : Nat) (nB (18446744073709551616 : Nat) (4 : Nat) ((vB (18446744073709551616 : Nat) b + vB (18446744073709551616 : Nat) a) % FP)) *
 vB (18446744073709551616 : Nat) (nB (18446744073709551616 : Nat) (4 : Nat) ((vB (18446744073709551616 : Nat) b' + vB (18446744073709551616 : Nat) a') % FP)) %
 FP)))
 (vB (18446744073709551616 : Nat)
 (nB (18446744073709551616 : Nat) (4 : Nat)
 (vB (18446744073709551616 : Nat) (nB (18446744073709551616 : Nat) (4 : Nat) (fsb (vB (18446744073709551616 : Nat) b) (vB (18446744073709551616 : Nat) a))) *
 vB (18446744073709551616 : Nat) (nB (18446744073709551616 : Nat) (4 : Nat) (fsb (vB (18446744073709551616 : Nat) b') (vB (18446744073709551616 : Nat) a'))) %
 FP))))),
 D.arr IntKind.u64 (4 : Nat)
 (nB (18446744073709551616 : Nat) (4 : Nat)
 ((vB (18446744073709551616 : Nat)
 (nB (18446744073709551616 : Nat) (4 : Nat)
 (vB (18446744073709551616 : Nat) (nB (18446744073709551616 : Nat) (4 : Nat) ((vB (18446744073709551616 : Nat) b + vB (18446744073709551616 : Nat) a) % FP)) *
 vB (18446744073709551616 : Nat) (nB (18446744073709551616 : Nat) (4 : Nat) ((vB (18446744073709551616 : Nat) b' + vB (18446744073709551616 : Nat) a') % FP)) %
 FP)) +
 vB (18446744073709551616 : Nat)
 (nB (18446744073709551616 : Nat) (4 : Nat)
 (vB (18446744073709551616 : Nat) (nB (18446744073709551616 : Nat) (4 : Nat) (fsb (vB (18446744073709551616 : Nat) b) (vB (18446744073709551616 : Nat) a))) *
 vB (18446744073709551616 : Nat) (nB (18446744073709551616 : Nat) (4 : Nat) (fsb (vB (18446744073709551616 : Nat) b') (vB (18446744073709551616 : Nat) a'))) %
 FP))) %
 FP))] =
 [D.arr IntKind.u64 (4 : Nat) l, D.arr IntKind.u64 (4 : Nat) m] ∧
 isN l ∧ isN m) ∧
 (false = false ∧
 ((0 : Nat) < (4 : Nat) ∧ Sk.arr (4 : Nat) = Sk.arr (4 : Nat)) ∧
 false = false ∧
 ((1 : Nat) < (4 : Nat) ∧ Sk.arr (4 : Nat) = Sk.arr (4 : Nat)) ∧
 false = false ∧ ((2 : Nat) < (4 : Nat) ∧ Sk.arr (4 : Nat) = Sk.arr (4 : Nat)) ∧ false = false ∧ ((3 : Nat) < (4 : Nat) ∧ Sk.arr (4 : Nat) = Sk.arr (4 : Nat)) ∧ True) ∧
 (Sk.st [Sk.arr (4 : Nat), Sk.arr (4 : Nat), Sk.arr (4 : Nat), Sk.arr (4 : Nat)] = Sk.st [Sk.arr (4 : Nat), Sk.arr (4 : Nat), Sk.arr (4 : Nat), Sk.arr (4 : Nat)] ∧
 (16 : Nat) ≠ (0 : Nat) ∧ (16 : Nat) = (16 : Nat) ∧ false = false) ∧
 (((16 : Nat) ≠ (0 : Nat) ∧ (16 : Nat) = (16 : Nat) ∧ true = true) ∧ True) ∧
 D.st
 [D.arr IntKind.u64 (4 : Nat)
 (nB (18446744073709551616 : Nat) (4 : Nat)
 (vB (18446744073709551616 : Nat)
 (nB (18446744073709551616 : Nat) (4 : Nat)
 (fsb
 (vB (18446744073709551616 : Nat)
 (nB (18446744073709551616 : Nat) (4 : Nat)
 (vB (18446744073709551616 : Nat) (nB (18446744073709551616 : Nat) (4 : Nat) ((vB (18446744073709551616 : Nat) b + vB (18446744073709551616 : Nat) a) % FP)) *
 vB (18446744073709551616 : Nat) (nB (18446744073709551616 : Nat) (4 : Nat) ((vB (18446744073709551616 : Nat) b' + vB (18446744073709551616 : Nat) a') % FP)) %
 FP)))
 (vB (18446744073709551616 : Nat)
 (nB (18446744073709551616 : Nat) (4 : Nat)
 (vB (18446744073709551616 : Nat) (nB (18446744073709551616 : Nat) (4 : Nat) (fsb (vB (18446744073709551616 : Nat) b) (vB (18446744073709551616 : Nat) a))) *
 vB (18446744073709551616 : Nat) (nB (18446744073709551616 : Nat) (4 : Nat) (fsb (vB (18446744073709551616 : Nat) b') (vB (18446744073709551616 : Nat) a'))) %
 FP))))) *
 vB (18446744073709551616 : Nat)
 (nB (18446744073709551616 : Nat) (4 : Nat)
 (fsb
 (vB (18446744073709551616 : Nat)
 (nB (18446744073709551616 : Nat) (4 : Nat)
 ((vB (18446744073709551616 : Nat) (nB (18446744073709551616 : Nat) (4 : Nat) (vB (18446744073709551616 : Nat) c * vB (18446744073709551616 : Nat) c' % FP)) +
 vB (18446744073709551616 : Nat) (nB (18446744073709551616 : Nat) (4 : Nat) (vB (18446744073709551616 : Nat) c * vB (18446744073709551616 : Nat) c' % FP))) %
 FP)))
 (vB (18446744073709551616 : Nat)
 (nB (18446744073709551616 : Nat) (4 : Nat)
 ((vB (18446744073709551616 : Nat)
 (nB (18446744073709551616 : Nat) (4 : Nat)
 (vB (18446744073709551616 : Nat) (nB (18446744073709551616 : Nat) (4 : Nat) (vB (18446744073709551616 : Nat) d * vB (18446744073709551616 : Nat) d' % FP)) *
 vB (18446744073709551616 : Nat) dNum %
 FP)) +
 vB (18446744073709551616 : Nat)
 (nB (18446744073709551616 : Nat) (4 : Nat)
 (vB (18446744073709551616 : Nat) (nB (18446744073709551616 : Nat) (4 : Nat) (vB (18446744073709551616 : Nat) d * vB (18446744073709551616 : Nat) d' % FP)) *
 vB (18446744073709551616 : Nat) dNum %
 FP))) %
 FP))))) %
 FP)),
 D.arr IntKind.u64 (4 : Nat)
 (nB (18446744073709551616 : Nat) (4 : Nat)
 (vB (18446744073709551616 : Nat)
 (nB (18446744073709551616 : Nat) (4 : Nat)
 ((vB (18446744073709551616 : Nat)
 (nB (18446744073709551616 : Nat) (4 : Nat)
 ((vB (18446744073709551616 : Nat) (nB (18446744073709551616 : Nat) (4 : Nat) (vB (18446744073709551616 : Nat) c * vB (18446744073709551616 : Nat) c' % FP)) +
 vB (18446744073709551616 : Nat) (nB (18446744073709551616 : Nat) (4 : Nat) (vB (18446744073709551616 : Nat) c * vB (18446744073709551616 : Nat) c' % FP))) %
 FP)) +
 vB (18446744073709551616 : Nat)
 (nB (18446744073709551616 : Nat) (4 : Nat)
 ((vB (18446744073709551616 : Nat)
 (nB (18446744073709551616 : Nat) (4 : Nat)
 (vB (18446744073709551616 : Nat) (nB (18446744073709551616 : Nat) (4 : Nat) (vB (18446744073709551616 : Nat) d * vB (18446744073709551616 : Nat) d' % FP)) *
 vB (18446744073709551616 : Nat) dNum %
 FP)) +
 vB (18446744073709551616 : Nat)
 (nB (18446744073709551616 : Nat) (4 : Nat)
 (vB (18446744073709551616 : Nat) (nB (18446744073709551616 : Nat) (4 : Nat) (vB (18446744073709551616 : Nat) d * vB (18446744073709551616 : Nat) d' % FP)) *
 vB (18446744073709551616 : Nat) dNum %
 FP))) %
 FP))) %
 FP)) *
 vB (18446744073709551616 : Nat)
 (nB (18446744073709551616 : Nat) (4 : Nat)
 ((vB (18446744073709551616 : Nat)
 (nB (18446744073709551616 : Nat) (4 : Nat)
 (vB (18446744073709551616 : Nat) (nB (18446744073709551616 : Nat) (4 : Nat) ((vB (18446744073709551616 : Nat) b + vB (18446744073709551616 : Nat) a) % FP)) *
 vB (18446744073709551616 : Nat) (nB (18446744073709551616 : Nat) (4 : Nat) ((vB (18446744073709551616 : Nat) b' + vB (18446744073709551616 : Nat) a') % FP)) %
 FP)) +
 vB (18446744073709551616 : Nat)
 (nB (18446744073709551616 : Nat) (4 : Nat)
 (vB (18446744073709551616 : Nat) (nB (18446744073709551616 : Nat) (4 : Nat) (fsb (vB (18446744073709551616 : Nat) b) (vB (18446744073709551616 : Nat) a))) *
 vB (18446744073709551616 : Nat) (nB (18446744073709551616 : Nat) (4 : Nat) (fsb (vB (18446744073709551616 : Nat) b') (vB (18446744073709551616 : Nat) a'))) %
 FP))) %
 FP)) %
 FP)),
 D.arr IntKind.u64 (4 : Nat)
 (nB (18446744073709551616 : Nat) (4 : Nat)
 (vB (18446744073709551616 : Nat)
 (nB (18446744073709551616 : Nat) (4 : Nat)
 (fsb
 (vB (18446744073709551616 : Nat)
 (nB (18446744073709551616 : Nat) (4 : Nat)
 ((vB (18446744073709551616 : Nat) (nB (18446744073709551616 : Nat) (4 : Nat) (vB (18446744073709551616 : Nat) c * vB (18446744073709551616 : Nat) c' % FP)) +
 vB (18446744073709551616 : Nat) (nB (18446744073709551616 : Nat) (4 : Nat) (vB (18446744073709551616 : Nat) c * vB (18446744073709551616 : Nat) c' % FP))) %
 FP)))
 (vB (18446744073709551616 : Nat)
 (nB (18446744073709551616 : Nat) (4 : Nat)
 ((vB (18446744073709551616 : Nat)
 (nB (18446744073709551616 : Nat) (4 : Nat)
 (vB (18446744073709551616 : Nat) (nB (18446744073709551616 : Nat) (4 : Nat) (vB (18446744073709551616 : Nat) d * vB (18446744073709551616 : Nat) d' % FP)) *
 vB (18446744073709551616 : Nat) dNum %
 FP)) +
 vB (18446744073709551616 : Nat)
 (nB (18446744073709551616 : Nat) (4 : Nat)
 (vB (18446744073709551616 : Nat) (nB (18446744073709551616 : Nat) (4 : Nat) (vB (18446744073709551616 : Nat) d * vB (18446744073709551616 : Nat) d' % FP)) *
 vB (18446744073709551616 : Nat) dNum %
 FP))) %
 FP))))) *
 vB (18446744073709551616 : Nat)
 (nB (18446744073709551616 : Nat) (4 : Nat)
 ((vB (18446744073709551616 : Nat)
 (nB (18446744073709551616 : Nat) (4 : Nat)
 ((vB (18446744073709551616 : Nat) (nB (18446744073709551616 : Nat) (4 : Nat) (vB (18446744073709551616 : Nat) c * vB (18446744073709551616 : Nat) c' % FP)) +
 vB (18446744073709551616 : Nat) (nB (18446744073709551616 : Nat) (4 : Nat) (vB (18446744073709551616 : Nat) c * vB (18446744073709551616 : Nat) c' % FP))) %
 FP)) +
 vB (18446744073709551616 : Nat)
 (nB (18446744073709551616 : Nat) (4 : Nat)
 ((vB (18446744073709551616 : Nat)
 (nB (18446744073709551616 : Nat) (4 : Nat)
 (vB (18446744073709551616 : Nat) (nB (18446744073709551616 : Nat) (4 : Nat) (vB (18446744073709551616 : Nat) d * vB (18446744073709551616 : Nat) d' % FP)) *
 vB (18446744073709551616 : Nat) dNum %
 FP)) +
 vB (18446744073709551616 : Nat)
 (nB (18446744073709551616 : Nat) (4 : Nat)
 (vB (18446744073709551616 : Nat) (nB (18446744073709551616 : Nat) (4 : Nat) (vB (18446744073709551616 : Nat) d * vB (18446744073709551616 : Nat) d' % FP)) *
 vB (18446744073709551616 : Nat) dNum %
 FP))) %
 FP))) %
 FP)) %
 FP)),
 D.arr IntKind.u64 (4 : Nat)
 (nB (18446744073709551616 : Nat) (4 : Nat)
 (vB (18446744073709551616 : Nat)
 (nB (18446744073709551616 : Nat) (4 : Nat)
 (fsb
 (vB (18446744073709551616 : Nat)
 (nB (18446744073709551616 : Nat) (4 : Nat)
 (vB (18446744073709551616 : Nat) (nB (18446744073709551616 : Nat) (4 : Nat) ((vB (18446744073709551616 : Nat) b + vB (18446744073709551616 : Nat) a) % FP)) *
 vB (18446744073709551616 : Nat) (nB (18446744073709551616 : Nat) (4 : Nat) ((vB (18446744073709551616 : Nat) b' + vB (18446744073709551616 : Nat) a') % FP)) %
 FP)))
 (vB (18446744073709551616 : Nat)
 (nB (18446744073709551616 : Nat) (4 : Nat)
 (vB (18446744073709551616 : Nat) (nB (18446744073709551616 : Nat) (4 : Nat) (fsb (vB (18446744073709551616 : Nat) b) (vB (18446744073709551616 : Nat) a))) *
 vB (18446744073709551616 : Nat) (nB (18446744073709551616 : Nat) (4 : Nat) (fsb (vB (18446744073709551616 : Nat) b') (vB (18446744073709551616 : Nat) a'))) %
 FP))))) *
 vB (18446744073709551616 : Nat)
 (nB (18446744073709551616 : Nat) (4 : Nat)
 ((vB (18446744073709551616 : Nat)
 (nB (18446744073709551616 : Nat) (4 : Nat)
 (vB (18446744073709551616 : Nat) (nB (18446744073709551616 : Nat) (4 : Nat) ((vB (18446744073709551616 : Nat) b + vB (18446744073709551616 : Nat) a) % FP)) *
 vB (18446744073709551616 : Nat) (nB (18446744073709551616 : Nat) (4 : Nat) ((vB (18446744073709551616 : Nat) b' + vB (18446744073709551616 : Nat) a') % FP)) %
 FP)) +
 vB (18446744073709551616 : Nat)
 (nB (18446744073709551616 : Nat) (4 : Nat)
 (vB (18446744073709551616 : Nat) (nB (18446744073709551616 : Nat) (4 : Nat) (fsb (vB (18446744073709551616 : Nat) b) (vB (18446744073709551616 : Nat) a))) *
 vB (18446744073709551616 : Nat) (nB (18446744073709551616 : Nat) (4 : Nat) (fsb (vB (18446744073709551616 : Nat) b') (vB (18446744073709551616 : Nat) a'))) %
 FP))) %
 FP)) %
 FP))] =
 F) := by kernel_rfl
set_option maxRecDepth 100000 in
theorem vc104  (a b c d : List Int) (F : D)  :
    (owed c104 (fun _ => none) Try.f104 [quD a b c d] F) = (
 (True ∧ false = false) ∧
 (True ∧ (8 : Nat) ≠ (0 : Nat)) ∧
 (Sk.st [Sk.arr (4 : Nat), Sk.arr (4 : Nat), Sk.arr (4 : Nat), Sk.arr (4 : Nat)] = Sk.st [Sk.arr (4 : Nat), Sk.arr (4 : Nat), Sk.arr (4 : Nat), Sk.arr (4 : Nat)] ∧ (2 : Nat) < (4 : Nat)) ∧
 ((4 : Nat) ≠ (0 : Nat) ∧ (4 : Nat) = (4 : Nat) ∧ true = true) ∧
 (∃ (l : List Int), [D.arr IntKind.u64 (4 : Nat) c] = [D.arr IntKind.u64 (4 : Nat) l] ∧ isN l) ∧
 (True ∧ (4 : Nat) ≠ (0 : Nat)) ∧
 (Sk.arr (4 : Nat) = Sk.arr (4 : Nat) ∧ (4 : Nat) ≠ (0 : Nat) ∧ (4 : Nat) = (4 : Nat) ∧ false = false) ∧
 (Sk.st [Sk.arr (4 : Nat), Sk.arr (4 : Nat), Sk.arr (4 : Nat), Sk.arr (4 : Nat)] = Sk.st [Sk.arr (4 : Nat), Sk.arr (4 : Nat), Sk.arr (4 : Nat), Sk.arr (4 : Nat)] ∧ (0 : Nat) < (4 : Nat)) ∧
 ((4 : Nat) ≠ (0 : Nat) ∧ (4 : Nat) = (4 : Nat) ∧ true = true) ∧
 ((4 : Nat) ≠ (0 : Nat) ∧ (4 : Nat) = (4 : Nat) ∧ true = true) ∧
 (∃ (l : List Int), ∃ (m : List Int), [D.arr IntKind.u64 (4 : Nat) a, D.arr IntKind.u64 (4 : Nat) (nB (18446744073709551616 : Nat) (4 : Nat) (fpw (vB (18446744073709551616 : Nat) c) (FP - (2 : Nat))))] = [D.arr IntKind.u64 (4 : Nat) l, D.arr IntKind.u64 (4 : Nat) m] ∧ isN l ∧ isN m) ∧
 (Sk.st [Sk.arr (4 : Nat), Sk.arr (4 : Nat), Sk.arr (4 : Nat), Sk.arr (4 : Nat)] = Sk.st [Sk.arr (4 : Nat), Sk.arr (4 : Nat), Sk.arr (4 : Nat), Sk.arr (4 : Nat)] ∧ (1 : Nat) < (4 : Nat)) ∧
 ((4 : Nat) ≠ (0 : Nat) ∧ (4 : Nat) = (4 : Nat) ∧ true = true) ∧
 ((4 : Nat) ≠ (0 : Nat) ∧ (4 : Nat) = (4 : Nat) ∧ true = true) ∧
 (∃ (l : List Int), ∃ (m : List Int), [D.arr IntKind.u64 (4 : Nat) b, D.arr IntKind.u64 (4 : Nat) (nB (18446744073709551616 : Nat) (4 : Nat) (fpw (vB (18446744073709551616 : Nat) c) (FP - (2 : Nat))))] = [D.arr IntKind.u64 (4 : Nat) l, D.arr IntKind.u64 (4 : Nat) m] ∧ isN l ∧ isN m) ∧
 (false = false ∧ ((0 : Nat) < (2 : Nat) ∧ Sk.arr (4 : Nat) = Sk.arr (4 : Nat)) ∧ false = false ∧ ((1 : Nat) < (2 : Nat) ∧ Sk.arr (4 : Nat) = Sk.arr (4 : Nat)) ∧ True) ∧
 (Sk.st [Sk.arr (4 : Nat), Sk.arr (4 : Nat)] = Sk.st [Sk.arr (4 : Nat), Sk.arr (4 : Nat)] ∧ (8 : Nat) ≠ (0 : Nat) ∧ (8 : Nat) = (8 : Nat) ∧ false = false) ∧
 (((8 : Nat) ≠ (0 : Nat) ∧ (8 : Nat) = (8 : Nat) ∧ true = true) ∧ True) ∧
 D.st
 [D.arr IntKind.u64 (4 : Nat) (nB (18446744073709551616 : Nat) (4 : Nat) (vB (18446744073709551616 : Nat) a * vB (18446744073709551616 : Nat) (nB (18446744073709551616 : Nat) (4 : Nat) (fpw (vB (18446744073709551616 : Nat) c) (FP - (2 : Nat)))) % FP)),
 D.arr IntKind.u64 (4 : Nat) (nB (18446744073709551616 : Nat) (4 : Nat) (vB (18446744073709551616 : Nat) b * vB (18446744073709551616 : Nat) (nB (18446744073709551616 : Nat) (4 : Nat) (fpw (vB (18446744073709551616 : Nat) c) (FP - (2 : Nat)))) % FP))] =
 F) := by kernel_rfl
set_option maxRecDepth 100000 in
theorem vc44  (a b c : List Int) (F : D)  :
    (owed c44 (fun _ => none) Try.f44 [pjD a b c] F) = (
 (True ∧ false = false) ∧
 (True ∧ (8 : Nat) ≠ (0 : Nat)) ∧
 (Sk.st [Sk.arr (16 : Nat), Sk.arr (16 : Nat), Sk.arr (16 : Nat)] = Sk.st [Sk.arr (16 : Nat), Sk.arr (16 : Nat), Sk.arr (16 : Nat)] ∧ (2 : Nat) < (3 : Nat)) ∧
 ((16 : Nat) ≠ (0 : Nat) ∧ (16 : Nat) = (16 : Nat) ∧ true = true) ∧
 (∃ (l : List Int), [D.arr IntKind.i64 (16 : Nat) c] = [D.arr IntKind.i64 (16 : Nat) l] ∧ isF l) ∧
 (True ∧ (16 : Nat) ≠ (0 : Nat)) ∧
 (Sk.arr (16 : Nat) = Sk.arr (16 : Nat) ∧ (16 : Nat) ≠ (0 : Nat) ∧ (16 : Nat) = (16 : Nat) ∧ false = false) ∧
 (Sk.st [Sk.arr (16 : Nat), Sk.arr (16 : Nat), Sk.arr (16 : Nat)] = Sk.st [Sk.arr (16 : Nat), Sk.arr (16 : Nat), Sk.arr (16 : Nat)] ∧ (0 : Nat) < (3 : Nat)) ∧
 ((16 : Nat) ≠ (0 : Nat) ∧ (16 : Nat) = (16 : Nat) ∧ true = true) ∧
 ((16 : Nat) ≠ (0 : Nat) ∧ (16 : Nat) = (16 : Nat) ∧ true = true) ∧
 (∃ (l : List Int), ∃ (m : List Int), [D.arr IntKind.i64 (16 : Nat) a, D.arr IntKind.i64 (16 : Nat) (nB (65536 : Nat) (16 : Nat) (fpw (vB (65536 : Nat) c) (FP - (2 : Nat))))] = [D.arr IntKind.i64 (16 : Nat) l, D.arr IntKind.i64 (16 : Nat) m] ∧ isF l ∧ isF m) ∧
 (∃ (l : List Int), [D.arr IntKind.i64 (16 : Nat) (nB (65536 : Nat) (16 : Nat) (vB (65536 : Nat) a * vB (65536 : Nat) (nB (65536 : Nat) (16 : Nat) (fpw (vB (65536 : Nat) c) (FP - (2 : Nat)))) % FP))] = [D.arr IntKind.i64 (16 : Nat) l] ∧ isF l) ∧
 (Sk.st [Sk.arr (16 : Nat), Sk.arr (16 : Nat), Sk.arr (16 : Nat)] = Sk.st [Sk.arr (16 : Nat), Sk.arr (16 : Nat), Sk.arr (16 : Nat)] ∧ (1 : Nat) < (3 : Nat)) ∧
 ((16 : Nat) ≠ (0 : Nat) ∧ (16 : Nat) = (16 : Nat) ∧ true = true) ∧
 ((16 : Nat) ≠ (0 : Nat) ∧ (16 : Nat) = (16 : Nat) ∧ true = true) ∧
 (∃ (l : List Int), ∃ (m : List Int), [D.arr IntKind.i64 (16 : Nat) b, D.arr IntKind.i64 (16 : Nat) (nB (65536 : Nat) (16 : Nat) (fpw (vB (65536 : Nat) c) (FP - (2 : Nat))))] = [D.arr IntKind.i64 (16 : Nat) l, D.arr IntKind.i64 (16 : Nat) m] ∧ isF l ∧ isF m) ∧
 (∃ (l : List Int), [D.arr IntKind.i64 (16 : Nat) (nB (65536 : Nat) (16 : Nat) (vB (65536 : Nat) b * vB (65536 : Nat) (nB (65536 : Nat) (16 : Nat) (fpw (vB (65536 : Nat) c) (FP - (2 : Nat)))) % FP))] = [D.arr IntKind.i64 (16 : Nat) l] ∧ isF l) ∧
 (false = false ∧ ((0 : Nat) < (2 : Nat) ∧ Sk.arr (4 : Nat) = Sk.arr (4 : Nat)) ∧ false = false ∧ ((1 : Nat) < (2 : Nat) ∧ Sk.arr (4 : Nat) = Sk.arr (4 : Nat)) ∧ True) ∧
 (Sk.st [Sk.arr (4 : Nat), Sk.arr (4 : Nat)] = Sk.st [Sk.arr (4 : Nat), Sk.arr (4 : Nat)] ∧ (8 : Nat) ≠ (0 : Nat) ∧ (8 : Nat) = (8 : Nat) ∧ false = false) ∧
 (((8 : Nat) ≠ (0 : Nat) ∧ (8 : Nat) = (8 : Nat) ∧ true = true) ∧ True) ∧
 D.st
 [D.arr IntKind.u64 (4 : Nat) (nB (18446744073709551616 : Nat) (4 : Nat) (vB (65536 : Nat) (nB (65536 : Nat) (16 : Nat) (vB (65536 : Nat) a * vB (65536 : Nat) (nB (65536 : Nat) (16 : Nat) (fpw (vB (65536 : Nat) c) (FP - (2 : Nat)))) % FP)))),
 D.arr IntKind.u64 (4 : Nat) (nB (18446744073709551616 : Nat) (4 : Nat) (vB (65536 : Nat) (nB (65536 : Nat) (16 : Nat) (vB (65536 : Nat) b * vB (65536 : Nat) (nB (65536 : Nat) (16 : Nat) (fpw (vB (65536 : Nat) c) (FP - (2 : Nat)))) % FP))))] =
 F) := by kernel_rfl
set_option maxRecDepth 100000 in
theorem vc48  (l m : List Int) (F : D)  :
    (owed c48 (fun _ => none) Try.f48 [ptD l m] F) = (
 (True ∧ false = false) ∧
 (True ∧ (48 : Nat) ≠ (0 : Nat)) ∧
 (Sk.st [Sk.arr (4 : Nat), Sk.arr (4 : Nat)] = Sk.st [Sk.arr (4 : Nat), Sk.arr (4 : Nat)] ∧ (0 : Nat) < (2 : Nat)) ∧
 ((4 : Nat) ≠ (0 : Nat) ∧ (4 : Nat) = (4 : Nat) ∧ true = true) ∧
 (∃ (l_1 : List Int), [D.arr IntKind.u64 (4 : Nat) l] = [D.arr IntKind.u64 (4 : Nat) l_1] ∧ isN l_1) ∧
 (Sk.st [Sk.arr (4 : Nat), Sk.arr (4 : Nat)] = Sk.st [Sk.arr (4 : Nat), Sk.arr (4 : Nat)] ∧ (1 : Nat) < (2 : Nat)) ∧
 ((4 : Nat) ≠ (0 : Nat) ∧ (4 : Nat) = (4 : Nat) ∧ true = true) ∧
 (∃ (l : List Int), [D.arr IntKind.u64 (4 : Nat) m] = [D.arr IntKind.u64 (4 : Nat) l] ∧ isN l) ∧
 (∃ (n : Nat), [D.val (Value.int IntKind.i64 (1 : Int))] = [D.val (Value.int IntKind.i64 (↑n : Int))] ∧ n < (65536 : Nat)) ∧
 (false = false ∧ ((0 : Nat) < (3 : Nat) ∧ Sk.arr (16 : Nat) = Sk.arr (16 : Nat)) ∧ false = false ∧ ((1 : Nat) < (3 : Nat) ∧ Sk.arr (16 : Nat) = Sk.arr (16 : Nat)) ∧ false = false ∧ ((2 : Nat) < (3 : Nat) ∧ Sk.arr (16 : Nat) = Sk.arr (16 : Nat)) ∧ True) ∧
 (Sk.st [Sk.arr (16 : Nat), Sk.arr (16 : Nat), Sk.arr (16 : Nat)] = Sk.st [Sk.arr (16 : Nat), Sk.arr (16 : Nat), Sk.arr (16 : Nat)] ∧ (48 : Nat) ≠ (0 : Nat) ∧ (48 : Nat) = (48 : Nat) ∧ false = false) ∧
 (((48 : Nat) ≠ (0 : Nat) ∧ (48 : Nat) = (48 : Nat) ∧ true = true) ∧ True) ∧
 D.st
 [D.arr IntKind.i64 (16 : Nat) (nB (65536 : Nat) (16 : Nat) (vB (18446744073709551616 : Nat) l % FP)), D.arr IntKind.i64 (16 : Nat) (nB (65536 : Nat) (16 : Nat) (vB (18446744073709551616 : Nat) m % FP)),
 D.arr IntKind.i64 (16 : Nat) [(1 : Int), (0 : Int), (0 : Int), (0 : Int), (0 : Int), (0 : Int), (0 : Int), (0 : Int), (0 : Int), (0 : Int), (0 : Int), (0 : Int), (0 : Int), (0 : Int), (0 : Int), (0 : Int)]] =
 F) := by kernel_rfl
set_option maxRecDepth 100000 in
theorem vc49  (a b c a' b' c' : List Int) (F : D)  :
    (owed c49 (fun _ => none) Try.f49 [pjD a b c, pjD a' b' c'] F) = (
 (True ∧ false = false) ∧
 (True ∧ false = false) ∧
 (True ∧ (48 : Nat) ≠ (0 : Nat)) ∧
 (Sk.st [Sk.arr (16 : Nat), Sk.arr (16 : Nat), Sk.arr (16 : Nat)] = Sk.st [Sk.arr (16 : Nat), Sk.arr (16 : Nat), Sk.arr (16 : Nat)] ∧ (2 : Nat) < (3 : Nat)) ∧
 ((16 : Nat) ≠ (0 : Nat) ∧ (16 : Nat) = (16 : Nat) ∧ true = true) ∧
 (Sk.st [Sk.arr (16 : Nat), Sk.arr (16 : Nat), Sk.arr (16 : Nat)] = Sk.st [Sk.arr (16 : Nat), Sk.arr (16 : Nat), Sk.arr (16 : Nat)] ∧ (2 : Nat) < (3 : Nat)) ∧
 ((16 : Nat) ≠ (0 : Nat) ∧ (16 : Nat) = (16 : Nat) ∧ true = true) ∧
 (∃ (l : List Int), ∃ (m : List Int), [D.arr IntKind.i64 (16 : Nat) c, D.arr IntKind.i64 (16 : Nat) c'] = [D.arr IntKind.i64 (16 : Nat) l, D.arr IntKind.i64 (16 : Nat) m] ∧ isF l ∧ isF m) ∧
 (Sk.st [Sk.arr (16 : Nat), Sk.arr (16 : Nat), Sk.arr (16 : Nat)] = Sk.st [Sk.arr (16 : Nat), Sk.arr (16 : Nat), Sk.arr (16 : Nat)] ∧ (0 : Nat) < (3 : Nat)) ∧
 ((16 : Nat) ≠ (0 : Nat) ∧ (16 : Nat) = (16 : Nat) ∧ true = true) ∧
 (Sk.st [Sk.arr (16 : Nat), Sk.arr (16 : Nat), Sk.arr (16 : Nat)] = Sk.st [Sk.arr (16 : Nat), Sk.arr (16 : Nat), Sk.arr (16 : Nat)] ∧ (0 : Nat) < (3 : Nat)) ∧
 ((16 : Nat) ≠ (0 : Nat) ∧ (16 : Nat) = (16 : Nat) ∧ true = true) ∧
 (∃ (l : List Int), ∃ (m : List Int), [D.arr IntKind.i64 (16 : Nat) a, D.arr IntKind.i64 (16 : Nat) a'] = [D.arr IntKind.i64 (16 : Nat) l, D.arr IntKind.i64 (16 : Nat) m] ∧ isF l ∧ isF m) ∧
 (Sk.st [Sk.arr (16 : Nat), Sk.arr (16 : Nat), Sk.arr (16 : Nat)] = Sk.st [Sk.arr (16 : Nat), Sk.arr (16 : Nat), Sk.arr (16 : Nat)] ∧ (1 : Nat) < (3 : Nat)) ∧
 ((16 : Nat) ≠ (0 : Nat) ∧ (16 : Nat) = (16 : Nat) ∧ true = true) ∧
 (Sk.st [Sk.arr (16 : Nat), Sk.arr (16 : Nat), Sk.arr (16 : Nat)] = Sk.st [Sk.arr (16 : Nat), Sk.arr (16 : Nat), Sk.arr (16 : Nat)] ∧ (1 : Nat) < (3 : Nat)) ∧
 ((16 : Nat) ≠ (0 : Nat) ∧ (16 : Nat) = (16 : Nat) ∧ true = true) ∧
 (∃ (l : List Int), ∃ (m : List Int), [D.arr IntKind.i64 (16 : Nat) b, D.arr IntKind.i64 (16 : Nat) b'] = [D.arr IntKind.i64 (16 : Nat) l, D.arr IntKind.i64 (16 : Nat) m] ∧ isF l ∧ isF m) ∧
 (True ∧ (16 : Nat) ≠ (0 : Nat)) ∧
 (True ∧ (16 : Nat) ≠ (0 : Nat)) ∧
 (True ∧ (16 : Nat) ≠ (0 : Nat)) ∧
 (Sk.arr (16 : Nat) = Sk.arr (16 : Nat) ∧ (16 : Nat) ≠ (0 : Nat) ∧ (16 : Nat) = (16 : Nat) ∧ false = false) ∧
 (Sk.arr (16 : Nat) = Sk.arr (16 : Nat) ∧ (16 : Nat) ≠ (0 : Nat) ∧ (16 : Nat) = (16 : Nat) ∧ false = false) ∧
 (Sk.arr (16 : Nat) = Sk.arr (16 : Nat) ∧ (16 : Nat) ≠ (0 : Nat) ∧ (16 : Nat) = (16 : Nat) ∧ false = false) ∧
 ((16 : Nat) ≠ (0 : Nat) ∧ (16 : Nat) = (16 : Nat) ∧ true = true) ∧
 ((16 : Nat) ≠ (0 : Nat) ∧ (16 : Nat) = (16 : Nat) ∧ true = true) ∧
 (∃ (l : List Int), ∃ (m : List Int), [D.arr IntKind.i64 (16 : Nat) (nB (65536 : Nat) (16 : Nat) (vB (65536 : Nat) c * vB (65536 : Nat) c' % FP)), D.arr IntKind.i64 (16 : Nat) (nB (65536 : Nat) (16 : Nat) (vB (65536 : Nat) c * vB (65536 : Nat) c' % FP))] = [D.arr IntKind.i64 (16 : Nat) l, D.arr IntKind.i64 (16 : Nat) m] ∧ isF l ∧ isF m) ∧
 (0 : Nat) = (0 : Nat) ∧
 ((16 : Nat) ≠ (0 : Nat) ∧ (16 : Nat) = (16 : Nat) ∧ true = true) ∧
 (∃ (l : List Int), ∃ (m : List Int), [D.arr IntKind.i64 (16 : Nat) dFe, D.arr IntKind.i64 (16 : Nat) (nB (65536 : Nat) (16 : Nat) (vB (65536 : Nat) a * vB (65536 : Nat) a' % FP))] = [D.arr IntKind.i64 (16 : Nat) l, D.arr IntKind.i64 (16 : Nat) m] ∧ isF l ∧ isF m) ∧
 ((16 : Nat) ≠ (0 : Nat) ∧ (16 : Nat) = (16 : Nat) ∧ true = true) ∧
 (∃ (l : List Int),
 ∃ (m : List Int),
 [D.arr IntKind.i64 (16 : Nat) (nB (65536 : Nat) (16 : Nat) (vB (65536 : Nat) dFe * vB (65536 : Nat) (nB (65536 : Nat) (16 : Nat) (vB (65536 : Nat) a * vB (65536 : Nat) a' % FP)) % FP)), D.arr IntKind.i64 (16 : Nat) (nB (65536 : Nat) (16 : Nat) (vB (65536 : Nat) b * vB (65536 : Nat) b' % FP))] =
 [D.arr IntKind.i64 (16 : Nat) l, D.arr IntKind.i64 (16 : Nat) m] ∧
 isF l ∧ isF m) ∧
 (True ∧ (16 : Nat) ≠ (0 : Nat)) ∧
 (True ∧ (16 : Nat) ≠ (0 : Nat)) ∧
 (Sk.arr (16 : Nat) = Sk.arr (16 : Nat) ∧ (16 : Nat) ≠ (0 : Nat) ∧ (16 : Nat) = (16 : Nat) ∧ false = false) ∧
 (Sk.arr (16 : Nat) = Sk.arr (16 : Nat) ∧ (16 : Nat) ≠ (0 : Nat) ∧ (16 : Nat) = (16 : Nat) ∧ false = false) ∧
 ((16 : Nat) ≠ (0 : Nat) ∧ (16 : Nat) = (16 : Nat) ∧ true = true) ∧
 ((16 : Nat) ≠ (0 : Nat) ∧ (16 : Nat) = (16 : Nat) ∧ true = true) ∧
 (∃ (l : List Int),
 ∃ (m : List Int),
 [D.arr IntKind.i64 (16 : Nat) (nB (65536 : Nat) (16 : Nat) (vB (65536 : Nat) (nB (65536 : Nat) (16 : Nat) (vB (65536 : Nat) c * vB (65536 : Nat) c' % FP)) * vB (65536 : Nat) (nB (65536 : Nat) (16 : Nat) (vB (65536 : Nat) c * vB (65536 : Nat) c' % FP)) % FP)),
 D.arr IntKind.i64 (16 : Nat)
 (nB (65536 : Nat) (16 : Nat) (vB (65536 : Nat) (nB (65536 : Nat) (16 : Nat) (vB (65536 : Nat) dFe * vB (65536 : Nat) (nB (65536 : Nat) (16 : Nat) (vB (65536 : Nat) a * vB (65536 : Nat) a' % FP)) % FP)) * vB (65536 : Nat) (nB (65536 : Nat) (16 : Nat) (vB (65536 : Nat) b * vB (65536 : Nat) b' % FP)) % FP))] =
 [D.arr IntKind.i64 (16 : Nat) l, D.arr IntKind.i64 (16 : Nat) m] ∧
 isF l ∧ isF m) ∧
 ((16 : Nat) ≠ (0 : Nat) ∧ (16 : Nat) = (16 : Nat) ∧ true = true) ∧
 ((16 : Nat) ≠ (0 : Nat) ∧ (16 : Nat) = (16 : Nat) ∧ true = true) ∧
 (∃ (l : List Int),
 ∃ (m : List Int),
 [D.arr IntKind.i64 (16 : Nat) (nB (65536 : Nat) (16 : Nat) (vB (65536 : Nat) (nB (65536 : Nat) (16 : Nat) (vB (65536 : Nat) c * vB (65536 : Nat) c' % FP)) * vB (65536 : Nat) (nB (65536 : Nat) (16 : Nat) (vB (65536 : Nat) c * vB (65536 : Nat) c' % FP)) % FP)),
 D.arr IntKind.i64 (16 : Nat)
 (nB (65536 : Nat) (16 : Nat)
 (vB (65536 : Nat) (nB (65536 : Nat) (16 : Nat) (vB (65536 : Nat) dFe * vB (65536 : Nat) (nB (65536 : Nat) (16 : Nat) (vB (65536 : Nat) a * vB (65536 : Nat) a' % FP)) % FP)) * vB (65536 : Nat) (nB (65536 : Nat) (16 : Nat) (vB (65536 : Nat) b * vB (65536 : Nat) b' % FP)) % FP))] =
 [D.arr IntKind.i64 (16 : Nat) l, D.arr IntKind.i64 (16 : Nat) m] ∧
 isF l ∧ isF m) ∧
 (True ∧ (16 : Nat) ≠ (0 : Nat)) ∧
 (True ∧ (16 : Nat) ≠ (0 : Nat)) ∧
 (Sk.arr (16 : Nat) = Sk.arr (16 : Nat) ∧ (16 : Nat) ≠ (0 : Nat) ∧ (16 : Nat) = (16 : Nat) ∧ false = false) ∧
 (Sk.arr (16 : Nat) = Sk.arr (16 : Nat) ∧ (16 : Nat) ≠ (0 : Nat) ∧ (16 : Nat) = (16 : Nat) ∧ false = false) ∧
 (Sk.st [Sk.arr (16 : Nat), Sk.arr (16 : Nat), Sk.arr (16 : Nat)] = Sk.st [Sk.arr (16 : Nat), Sk.arr (16 : Nat), Sk.arr (16 : Nat)] ∧ (0 : Nat) < (3 : Nat)) ∧
 ((16 : Nat) ≠ (0 : Nat) ∧ (16 : Nat) = (16 : Nat) ∧ true = true) ∧
 (Sk.st [Sk.arr (16 : Nat), Sk.arr (16 : Nat), Sk.arr (16 : Nat)] = Sk.st [Sk.arr (16 : Nat), Sk.arr (16 : Nat), Sk.arr (16 : Nat)] ∧ (1 : Nat) < (3 : Nat)) ∧
 ((16 : Nat) ≠ (0 : Nat) ∧ (16 : Nat) = (16 : Nat) ∧ true = true) ∧
 (∃ (l : List Int), ∃ (m : List Int), [D.arr IntKind.i64 (16 : Nat) a, D.arr IntKind.i64 (16 : Nat) b'] = [D.arr IntKind.i64 (16 : Nat) l, D.arr IntKind.i64 (16 : Nat) m] ∧ isF l ∧ isF m) ∧
 (Sk.st [Sk.arr (16 : Nat), Sk.arr (16 : Nat), Sk.arr (16 : Nat)] = Sk.st [Sk.arr (16 : Nat), Sk.arr (16 : Nat), Sk.arr (16 : Nat)] ∧ (1 : Nat) < (3 : Nat)) ∧
 ((16 : Nat) ≠ (0 : Nat) ∧ (16 : Nat) = (16 : Nat) ∧ true = true) ∧
 (Sk.st [Sk.arr (16 : Nat), Sk.arr (16 : Nat), Sk.arr (16 : Nat)] = Sk.st [Sk.arr (16 : Nat), Sk.arr (16 : Nat), Sk.arr (16 : Nat)] ∧ (0 : Nat) < (3 : Nat)) ∧
 ((16 : Nat) ≠ (0 : Nat) ∧ (16 : Nat) = (16 : Nat) ∧ true = true) ∧
 (∃ (l : List Int), ∃ (m : List Int), [D.arr IntKind.i64 (16 : Nat) b, D.arr IntKind.i64 (16 : Nat) a'] = [D.arr IntKind.i64 (16 : Nat) l, D.arr IntKind.i64 (16 : Nat) m] ∧ isF l ∧ isF m) ∧
 (∃ (l : List Int),
 ∃ (m : List Int),
 [D.arr IntKind.i64 (16 : Nat) (nB (65536 : Nat) (16 : Nat) (vB (65536 : Nat) a * vB (65536 : Nat) b' % FP)), D.arr IntKind.i64 (16 : Nat) (nB (65536 : Nat) (16 : Nat) (vB (65536 : Nat) b * vB (65536 : Nat) a' % FP))] =
 [D.arr IntKind.i64 (16 : Nat) l, D.arr IntKind.i64 (16 : Nat) m] ∧
 isF l ∧ isF m) ∧
 (True ∧ (16 : Nat) ≠ (0 : Nat)) ∧
 (Sk.arr (16 : Nat) = Sk.arr (16 : Nat) ∧ (16 : Nat) ≠ (0 : Nat) ∧ (16 : Nat) = (16 : Nat) ∧ false = false) ∧
 ((16 : Nat) ≠ (0 : Nat) ∧ (16 : Nat) = (16 : Nat) ∧ true = true) ∧
 ((16 : Nat) ≠ (0 : Nat) ∧ (16 : Nat) = (16 : Nat) ∧ true = true) ∧
 (∃ (l : List Int),
 ∃ (m : List Int),
 [D.arr IntKind.i64 (16 : Nat) (nB (65536 : Nat) (16 : Nat) (vB (65536 : Nat) c * vB (65536 : Nat) c' % FP)),
 D.arr IntKind.i64 (16 : Nat)
 (nB (65536 : Nat) (16 : Nat)
 (fsb (vB (65536 : Nat) (nB (65536 : Nat) (16 : Nat) (vB (65536 : Nat) (nB (65536 : Nat) (16 : Nat) (vB (65536 : Nat) c * vB (65536 : Nat) c' % FP)) * vB (65536 : Nat) (nB (65536 : Nat) (16 : Nat) (vB (65536 : Nat) c * vB (65536 : Nat) c' % FP)) % FP)))
 (vB (65536 : Nat)
 (nB (65536 : Nat) (16 : Nat)
 (vB (65536 : Nat) (nB (65536 : Nat) (16 : Nat) (vB (65536 : Nat) dFe * vB (65536 : Nat) (nB (65536 : Nat) (16 : Nat) (vB (65536 : Nat) a * vB (65536 : Nat) a' % FP)) % FP)) *
 vB (65536 : Nat) (nB (65536 : Nat) (16 : Nat) (vB (65536 : Nat) b * vB (65536 : Nat) b' % FP)) %
 FP)))))] =
 [D.arr IntKind.i64 (16 : Nat) l, D.arr IntKind.i64 (16 : Nat) m] ∧
 isF l ∧ isF m) ∧
 ((16 : Nat) ≠ (0 : Nat) ∧ (16 : Nat) = (16 : Nat) ∧ true = true) ∧
 (∃ (l : List Int),
 ∃ (m : List Int),
 [D.arr IntKind.i64 (16 : Nat)
 (nB (65536 : Nat) (16 : Nat)
 (vB (65536 : Nat) (nB (65536 : Nat) (16 : Nat) (vB (65536 : Nat) c * vB (65536 : Nat) c' % FP)) *
 vB (65536 : Nat)
 (nB (65536 : Nat) (16 : Nat)
 (fsb
 (vB (65536 : Nat)
 (nB (65536 : Nat) (16 : Nat) (vB (65536 : Nat) (nB (65536 : Nat) (16 : Nat) (vB (65536 : Nat) c * vB (65536 : Nat) c' % FP)) * vB (65536 : Nat) (nB (65536 : Nat) (16 : Nat) (vB (65536 : Nat) c * vB (65536 : Nat) c' % FP)) % FP)))
 (vB (65536 : Nat)
 (nB (65536 : Nat) (16 : Nat)
 (vB (65536 : Nat) (nB (65536 : Nat) (16 : Nat) (vB (65536 : Nat) dFe * vB (65536 : Nat) (nB (65536 : Nat) (16 : Nat) (vB (65536 : Nat) a * vB (65536 : Nat) a' % FP)) % FP)) *
 vB (65536 : Nat) (nB (65536 : Nat) (16 : Nat) (vB (65536 : Nat) b * vB (65536 : Nat) b' % FP)) %
 FP))))) %
 FP)),
 D.arr IntKind.i64 (16 : Nat)
 (nB (65536 : Nat) (16 : Nat) ((vB (65536 : Nat) (nB (65536 : Nat) (16 : Nat) (vB (65536 : Nat) a * vB (65536 : Nat) b' % FP)) + vB (65536 : Nat) (nB (65536 : Nat) (16 : Nat) (vB (65536 : Nat) b * vB (65536 : Nat) a' % FP))) % FP))] =
 [D.arr IntKind.i64 (16 : Nat) l, D.arr IntKind.i64 (16 : Nat) m] ∧
 isF l ∧ isF m) ∧
 ((16 : Nat) ≠ (0 : Nat) ∧ (16 : Nat) = (16 : Nat) ∧ true = true) ∧
 ((16 : Nat) ≠ (0 : Nat) ∧ (16 : Nat) = (16 : Nat) ∧ true = true) ∧
 (∃ (l : List Int),
 ∃ (m : List Int),
 [D.arr IntKind.i64 (16 : Nat) (nB (65536 : Nat) (16 : Nat) (vB (65536 : Nat) c * vB (65536 : Nat) c' % FP)),
 D.arr IntKind.i64 (16 : Nat)
 (nB (65536 : Nat) (16 : Nat)
 ((vB (65536 : Nat) (nB (65536 : Nat) (16 : Nat) (vB (65536 : Nat) (nB (65536 : Nat) (16 : Nat) (vB (65536 : Nat) c * vB (65536 : Nat) c' % FP)) * vB (65536 : Nat) (nB (65536 : Nat) (16 : Nat) (vB (65536 : Nat) c * vB (65536 : Nat) c' % FP)) % FP)) +
 vB (65536 : Nat)
 (nB (65536 : Nat) (16 : Nat)
 (vB (65536 : Nat) (nB (65536 : Nat) (16 : Nat) (vB (65536 : Nat) dFe * vB (65536 : Nat) (nB (65536 : Nat) (16 : Nat) (vB (65536 : Nat) a * vB (65536 : Nat) a' % FP)) % FP)) *
 vB (65536 : Nat) (nB (65536 : Nat) (16 : Nat) (vB (65536 : Nat) b * vB (65536 : Nat) b' % FP)) %
 FP))) %
 FP))] =
 [D.arr IntKind.i64 (16 : Nat) l, D.arr IntKind.i64 (16 : Nat) m] ∧
 isF l ∧ isF m) ∧
 ((16 : Nat) ≠ (0 : Nat) ∧ (16 : Nat) = (16 : Nat) ∧ true = true) ∧
 ((16 : Nat) ≠ (0 : Nat) ∧ (16 : Nat) = (16 : Nat) ∧ true = true) ∧
 (∃ (l : List Int),
 ∃ (m : List Int),
 [D.arr IntKind.i64 (16 : Nat) (nB (65536 : Nat) (16 : Nat) (vB (65536 : Nat) a * vB (65536 : Nat) a' % FP)), D.arr IntKind.i64 (16 : Nat) (nB (65536 : Nat) (16 : Nat) (vB (65536 : Nat) b * vB (65536 : Nat) b' % FP))] =
 [D.arr IntKind.i64 (16 : Nat) l, D.arr IntKind.i64 (16 : Nat) m] ∧
 isF l ∧ isF m) ∧
 (∃ (l : List Int),
 ∃ (m : List Int),
 [D.arr IntKind.i64 (16 : Nat)
 (nB (65536 : Nat) (16 : Nat)
 (vB (65536 : Nat) (nB (65536 : Nat) (16 : Nat) (vB (65536 : Nat) c * vB (65536 : Nat) c' % FP)) *
 vB (65536 : Nat)
 (nB (65536 : Nat) (16 : Nat)
 ((vB (65536 : Nat)
 (nB (65536 : Nat) (16 : Nat)
 (vB (65536 : Nat) (nB (65536 : Nat) (16 : Nat) (vB (65536 : Nat) c * vB (65536 : Nat) c' % FP)) * vB (65536 : Nat) (nB (65536 : Nat) (16 : Nat) (vB (65536 : Nat) c * vB (65536 : Nat) c' % FP)) % FP)) +
 vB (65536 : Nat)
 (nB (65536 : Nat) (16 : Nat)
 (vB (65536 : Nat) (nB (65536 : Nat) (16 : Nat) (vB (65536 : Nat) dFe * vB (65536 : Nat) (nB (65536 : Nat) (16 : Nat) (vB (65536 : Nat) a * vB (65536 : Nat) a' % FP)) % FP)) *
 vB (65536 : Nat) (nB (65536 : Nat) (16 : Nat) (vB (65536 : Nat) b * vB (65536 : Nat) b' % FP)) %
 FP))) %
 FP)) %
 FP)),
 D.arr IntKind.i64 (16 : Nat)
 (nB (65536 : Nat) (16 : Nat) ((vB (65536 : Nat) (nB (65536 : Nat) (16 : Nat) (vB (65536 : Nat) a * vB (65536 : Nat) a' % FP)) + vB (65536 : Nat) (nB (65536 : Nat) (16 : Nat) (vB (65536 : Nat) b * vB (65536 : Nat) b' % FP))) % FP))] =
 [D.arr IntKind.i64 (16 : Nat) l, D.arr IntKind.i64 (16 : Nat) m] ∧
 isF l ∧ isF m) ∧
 ((16 : Nat) ≠ (0 : Nat) ∧ (16 : Nat) = (16 : Nat) ∧ true = true) ∧
 ((16 : Nat) ≠ (0 : Nat) ∧ (16 : Nat) = (16 : Nat) ∧ true = true) ∧
 (∃ (l : List Int),
 ∃ (m : List Int),
 [D.arr IntKind.i64 (16 : Nat)
 (nB (65536 : Nat) (16 : Nat)
 (fsb
 (vB (65536 : Nat)
 (nB (65536 : Nat) (16 : Nat) (vB (65536 : Nat) (nB (65536 : Nat) (16 : Nat) (vB (65536 : Nat) c * vB (65536 : Nat) c' % FP)) * vB (65536 : Nat) (nB (65536 : Nat) (16 : Nat) (vB (65536 : Nat) c * vB (65536 : Nat) c' % FP)) % FP)))
 (vB (65536 : Nat)
 (nB (65536 : Nat) (16 : Nat)
 (vB (65536 : Nat) (nB (65536 : Nat) (16 : Nat) (vB (65536 : Nat) dFe * vB (65536 : Nat) (nB (65536 : Nat) (16 : Nat) (vB (65536 : Nat) a * vB (65536 : Nat) a' % FP)) % FP)) *
 vB (65536 : Nat) (nB (65536 : Nat) (16 : Nat) (vB (65536 : Nat) b * vB (65536 : Nat) b' % FP)) %
 FP))))),
 D.arr IntKind.i64 (16 : Nat)
 (nB (65536 : Nat) (16 : Nat)
 ((vB (65536 : Nat)
 (nB (65536 : Nat) (16 : Nat) (vB (65536 : Nat) (nB (65536 : Nat) (16 : Nat) (vB (65536 : Nat) c * vB (65536 : Nat) c' % FP)) * vB (65536 : Nat) (nB (65536 : Nat) (16 : Nat) (vB (65536 : Nat) c * vB (65536 : Nat) c' % FP)) % FP)) +
 vB (65536 : Nat)
 (nB (65536 : Nat) (16 : Nat)
 (vB (65536 : Nat) (nB (65536 : Nat) (16 : Nat) (vB (65536 : Nat) dFe * vB (65536 : Nat) (nB (65536 : Nat) (16 : Nat) (vB (65536 : Nat) a * vB (65536 : Nat) a' % FP)) % FP)) *
 vB (65536 : Nat) (nB (65536 : Nat) (16 : Nat) (vB (65536 : Nat) b * vB (65536 : Nat) b' % FP)) %
 FP))) %
 FP))] =
 [D.arr IntKind.i64 (16 : Nat) l, D.arr IntKind.i64 (16 : Nat) m] ∧
 isF l ∧ isF m) ∧
 (false = false ∧
 ((0 : Nat) < (3 : Nat) ∧ Sk.arr (16 : Nat) = Sk.arr (16 : Nat)) ∧ false = false ∧ ((1 : Nat) < (3 : Nat) ∧ Sk.arr (16 : Nat) = Sk.arr (16 : Nat)) ∧ false = false ∧ ((2 : Nat) < (3 : Nat) ∧ Sk.arr (16 : Nat) = Sk.arr (16 : Nat)) ∧ True) ∧
 (Sk.st [Sk.arr (16 : Nat), Sk.arr (16 : Nat), Sk.arr (16 : Nat)] = Sk.st [Sk.arr (16 : Nat), Sk.arr (16 : Nat), Sk.arr (16 : Nat)] ∧ (48 : Nat) ≠ (0 : Nat) ∧ (48 : Nat) = (48 : Nat) ∧ false = false) ∧
 (((48 : Nat) ≠ (0 : Nat) ∧ (48 : Nat) = (48 : Nat) ∧ true = true) ∧ True) ∧
 D.st
 [D.arr IntKind.i64 (16 : Nat)
 (nB (65536 : Nat) (16 : Nat)
 (vB (65536 : Nat)
 (nB (65536 : Nat) (16 : Nat)
 (vB (65536 : Nat) (nB (65536 : Nat) (16 : Nat) (vB (65536 : Nat) c * vB (65536 : Nat) c' % FP)) *
 vB (65536 : Nat)
 (nB (65536 : Nat) (16 : Nat)
 (fsb
 (vB (65536 : Nat)
 (nB (65536 : Nat) (16 : Nat)
 (vB (65536 : Nat) (nB (65536 : Nat) (16 : Nat) (vB (65536 : Nat) c * vB (65536 : Nat) c' % FP)) * vB (65536 : Nat) (nB (65536 : Nat) (16 : Nat) (vB (65536 : Nat) c * vB (65536 : Nat) c' % FP)) % FP)))
 (vB (65536 : Nat)
 (nB (65536 : Nat) (16 : Nat)
 (vB (65536 : Nat) (nB (65536 : Nat) (16 : Nat) (vB (65536 : Nat) dFe * vB (65536 : Nat) (nB (65536 : Nat) (16 : Nat) (vB (65536 : Nat) a * vB (65536 : Nat) a' % FP)) % FP)) *
 vB (65536 : Nat) (nB (65536 : Nat) (16 : Nat) (vB (65536 : Nat) b * vB (65536 : Nat) b' % FP)) %
 FP))))) %
 FP)) *
 vB (65536 : Nat)
 (nB (65536 : Nat) (16 : Nat)
 ((vB (65536 : Nat) (nB (65536 : Nat) (16 : Nat) (vB (65536 : Nat) a * vB (65536 : Nat) b' % FP)) + vB (65536 : Nat) (nB (65536 : Nat) (16 : Nat) (vB (65536 : Nat) b * vB (65536 : Nat) a' % FP))) % FP)) %
 FP)),
 D.arr IntKind.i64 (16 : Nat)
 (nB (65536 : Nat) (16 : Nat)
 (vB (65536 : Nat)
 (nB (65536 : Nat) (16 : Nat)
 (vB (65536 : Nat) (nB (65536 : Nat) (16 : Nat) (vB (65536 : Nat) c * vB (65536 : Nat) c' % FP)) *
 vB (65536 : Nat)
 (nB (65536 : Nat) (16 : Nat)
 ((vB (65536 : Nat)
 (nB (65536 : Nat) (16 : Nat)
 (vB (65536 : Nat) (nB (65536 : Nat) (16 : Nat) (vB (65536 : Nat) c * vB (65536 : Nat) c' % FP)) * vB (65536 : Nat) (nB (65536 : Nat) (16 : Nat) (vB (65536 : Nat) c * vB (65536 : Nat) c' % FP)) % FP)) +
 vB (65536 : Nat)
 (nB (65536 : Nat) (16 : Nat)
 (vB (65536 : Nat) (nB (65536 : Nat) (16 : Nat) (vB (65536 : Nat) dFe * vB (65536 : Nat) (nB (65536 : Nat) (16 : Nat) (vB (65536 : Nat) a * vB (65536 : Nat) a' % FP)) % FP)) *
 vB (65536 : Nat) (nB (65536 : Nat) (16 : Nat) (vB (65536 : Nat) b * vB (65536 : Nat) b' % FP)) %
 FP))) %
 FP)) %
 FP)) *
 vB (65536 : Nat)
 (nB (65536 : Nat) (16 : Nat)
 ((vB (65536 : Nat) (nB (65536 : Nat) (16 : Nat) (vB (65536 : Nat) a * vB (65536 : Nat) a' % FP)) + vB (65536 : Nat) (nB (65536 : Nat) (16 : Nat) (vB (65536 : Nat) b * vB (65536 : Nat) b' % FP))) % FP)) %
 FP)),
 D.arr IntKind.i64 (16 : Nat)
 (nB (65536 : Nat) (16 : Nat)
 (vB (65536 : Nat)
 (nB (65536 : Nat) (16 : Nat)
 (fsb
 (vB (65536 : Nat)
 (nB (65536 : Nat) (16 : Nat)
 (vB (65536 : Nat) (nB (65536 : Nat) (16 : Nat) (vB (65536 : Nat) c * vB (65536 : Nat) c' % FP)) * vB (65536 : Nat) (nB (65536 : Nat) (16 : Nat) (vB (65536 : Nat) c * vB (65536 : Nat) c' % FP)) % FP)))
 (vB (65536 : Nat)
 (nB (65536 : Nat) (16 : Nat)
 (vB (65536 : Nat) (nB (65536 : Nat) (16 : Nat) (vB (65536 : Nat) dFe * vB (65536 : Nat) (nB (65536 : Nat) (16 : Nat) (vB (65536 : Nat) a * vB (65536 : Nat) a' % FP)) % FP)) *
 vB (65536 : Nat) (nB (65536 : Nat) (16 : Nat) (vB (65536 : Nat) b * vB (65536 : Nat) b' % FP)) %
 FP))))) *
 vB (65536 : Nat)
 (nB (65536 : Nat) (16 : Nat)
 ((vB (65536 : Nat)
 (nB (65536 : Nat) (16 : Nat)
 (vB (65536 : Nat) (nB (65536 : Nat) (16 : Nat) (vB (65536 : Nat) c * vB (65536 : Nat) c' % FP)) * vB (65536 : Nat) (nB (65536 : Nat) (16 : Nat) (vB (65536 : Nat) c * vB (65536 : Nat) c' % FP)) % FP)) +
 vB (65536 : Nat)
 (nB (65536 : Nat) (16 : Nat)
 (vB (65536 : Nat) (nB (65536 : Nat) (16 : Nat) (vB (65536 : Nat) dFe * vB (65536 : Nat) (nB (65536 : Nat) (16 : Nat) (vB (65536 : Nat) a * vB (65536 : Nat) a' % FP)) % FP)) *
 vB (65536 : Nat) (nB (65536 : Nat) (16 : Nat) (vB (65536 : Nat) b * vB (65536 : Nat) b' % FP)) %
 FP))) %
 FP)) %
 FP))] =
 F) := by kernel_rfl
set_option maxRecDepth 100000 in
theorem vc38  (l m l' m' : List Int) (F : D)  :
    (owed c38 (fun _ => none) Try.f38 [ptD l m, ptD l' m'] F) = (
 (True ∧ false = false) ∧
 (True ∧ false = false) ∧
 (True ∧ (8 : Nat) ≠ (0 : Nat)) ∧
 True ∧
 ((8 : Nat) ≠ (0 : Nat) ∧ (8 : Nat) = (8 : Nat) ∧ true = true) ∧
 (∃ (l_1 : List Int), ∃ (m_1 : List Int), [D.st [D.arr IntKind.u64 (4 : Nat) l, D.arr IntKind.u64 (4 : Nat) m]] = [D.st [D.arr IntKind.u64 (4 : Nat) l_1, D.arr IntKind.u64 (4 : Nat) m_1]] ∧ isN l_1 ∧ isN m_1) ∧
 True ∧
 True ∧
 match !onB (vB (18446744073709551616 : Nat) l) (vB (18446744073709551616 : Nat) m) with
 | true =>
  True ∧
  True ∧
  (Sk.st [Sk.arr (4 : Nat), Sk.arr (4 : Nat)] = Sk.st [Sk.arr (4 : Nat), Sk.arr (4 : Nat)] ∧ (8 : Nat) ≠ (0 : Nat) ∧ (8 : Nat) = (8 : Nat) ∧ false = false) ∧
  True ∧ (((8 : Nat) ≠ (0 : Nat) ∧ (8 : Nat) = (8 : Nat) ∧ true = true) ∧ false = false ∧ True) ∧ D.tup [D.st [D.arr IntKind.u64 (4 : Nat) [(0 : Int), (0 : Int), (0 : Int), (0 : Int)], D.arr IntKind.u64 (4 : Nat) [(0 : Int), (0 : Int), (0 : Int), (0 : Int)]], D.val (Value.int IntKind.i64 (1 : Int))] = F
 | false =>
  ((8 : Nat) ≠ (0 : Nat) ∧ (8 : Nat) = (8 : Nat) ∧ true = true) ∧
  (∃ (l : List Int), ∃ (m : List Int), [D.st [D.arr IntKind.u64 (4 : Nat) l', D.arr IntKind.u64 (4 : Nat) m']] = [D.st [D.arr IntKind.u64 (4 : Nat) l, D.arr IntKind.u64 (4 : Nat) m]] ∧ isN l ∧ isN m) ∧
  True ∧
  True ∧
  match !onB (vB (18446744073709551616 : Nat) l') (vB (18446744073709551616 : Nat) m') with
  | true =>
   True ∧
   (Sk.st [Sk.arr (4 : Nat), Sk.arr (4 : Nat)] = Sk.st [Sk.arr (4 : Nat), Sk.arr (4 : Nat)] ∧ (8 : Nat) ≠ (0 : Nat) ∧ (8 : Nat) = (8 : Nat) ∧ false = false) ∧
   True ∧ (((8 : Nat) ≠ (0 : Nat) ∧ (8 : Nat) = (8 : Nat) ∧ true = true) ∧ false = false ∧ True) ∧ D.tup [D.st [D.arr IntKind.u64 (4 : Nat) [(0 : Int), (0 : Int), (0 : Int), (0 : Int)], D.arr IntKind.u64 (4 : Nat) [(0 : Int), (0 : Int), (0 : Int), (0 : Int)]], D.val (Value.int IntKind.i64 (1 : Int))] = F
  | false =>
   ((8 : Nat) ≠ (0 : Nat) ∧ (8 : Nat) = (8 : Nat) ∧ true = true) ∧
   (∃ (l_1 : List Int), ∃ (m_1 : List Int), [D.st [D.arr IntKind.u64 (4 : Nat) l, D.arr IntKind.u64 (4 : Nat) m]] = [D.st [D.arr IntKind.u64 (4 : Nat) l_1, D.arr IntKind.u64 (4 : Nat) m_1]] ∧ isN l_1 ∧ isN m_1) ∧
   ((8 : Nat) ≠ (0 : Nat) ∧ (8 : Nat) = (8 : Nat) ∧ true = true) ∧
   (∃ (l : List Int), ∃ (m : List Int), [D.st [D.arr IntKind.u64 (4 : Nat) l', D.arr IntKind.u64 (4 : Nat) m']] = [D.st [D.arr IntKind.u64 (4 : Nat) l, D.arr IntKind.u64 (4 : Nat) m]] ∧ isN l ∧ isN m) ∧
   (∃ (a : List Int),
   ∃ (b : List Int),
   ∃ (c : List Int),
   ∃ (d : List Int),
   ∃ (a' : List Int),
   ∃ (b' : List Int),
   ∃ (c' : List Int),
   ∃ (d' : List Int),
   [D.st [D.arr IntKind.u64 (4 : Nat) l, D.arr IntKind.u64 (4 : Nat) m, D.arr IntKind.u64 (4 : Nat) [(1 : Int), (0 : Int), (0 : Int), (0 : Int)], D.arr IntKind.u64 (4 : Nat) (nB (18446744073709551616 : Nat) (4 : Nat) (vB (18446744073709551616 : Nat) l * vB (18446744073709551616 : Nat) m % FP))],
   D.st [D.arr IntKind.u64 (4 : Nat) l', D.arr IntKind.u64 (4 : Nat) m', D.arr IntKind.u64 (4 : Nat) [(1 : Int), (0 : Int), (0 : Int), (0 : Int)], D.arr IntKind.u64 (4 : Nat) (nB (18446744073709551616 : Nat) (4 : Nat) (vB (18446744073709551616 : Nat) l' * vB (18446744073709551616 : Nat) m' % FP))]] =
   [D.st [D.arr IntKind.u64 (4 : Nat) a, D.arr IntKind.u64 (4 : Nat) b, D.arr IntKind.u64 (4 : Nat) c, D.arr IntKind.u64 (4 : Nat) d], D.st [D.arr IntKind.u64 (4 : Nat) a', D.arr IntKind.u64 (4 : Nat) b', D.arr IntKind.u64 (4 : Nat) c', D.arr IntKind.u64 (4 : Nat) d']] ∧
   (isN a ∧ isN b ∧ isN c ∧ isN d) ∧ isN a' ∧ isN b' ∧ isN c' ∧ isN d') ∧
   (∃ (a : List Int),
   ∃ (b : List Int),
   ∃ (c : List Int),
   ∃ (d : List Int),
   [D.st
   [D.arr IntKind.u64 (4 : Nat)
   (nB (18446744073709551616 : Nat) (4 : Nat)
   (qE (vB (18446744073709551616 : Nat) l) (vB (18446744073709551616 : Nat) m) (vB (18446744073709551616 : Nat) l') (vB (18446744073709551616 : Nat) m') *
   qF (vB (18446744073709551616 : Nat) [(1 : Int), (0 : Int), (0 : Int), (0 : Int)]) (vB (18446744073709551616 : Nat) (nB (18446744073709551616 : Nat) (4 : Nat) (vB (18446744073709551616 : Nat) l * vB (18446744073709551616 : Nat) m % FP))) (vB (18446744073709551616 : Nat) [(1 : Int), (0 : Int), (0 : Int), (0 : Int)])
   (vB (18446744073709551616 : Nat) (nB (18446744073709551616 : Nat) (4 : Nat) (vB (18446744073709551616 : Nat) l' * vB (18446744073709551616 : Nat) m' % FP))) %
   FP)),
   D.arr IntKind.u64 (4 : Nat)
   (nB (18446744073709551616 : Nat) (4 : Nat)
   (qG (vB (18446744073709551616 : Nat) [(1 : Int), (0 : Int), (0 : Int), (0 : Int)]) (vB (18446744073709551616 : Nat) (nB (18446744073709551616 : Nat) (4 : Nat) (vB (18446744073709551616 : Nat) l * vB (18446744073709551616 : Nat) m % FP))) (vB (18446744073709551616 : Nat) [(1 : Int), (0 : Int), (0 : Int), (0 : Int)])
   (vB (18446744073709551616 : Nat) (nB (18446744073709551616 : Nat) (4 : Nat) (vB (18446744073709551616 : Nat) l' * vB (18446744073709551616 : Nat) m' % FP))) *
   qH (vB (18446744073709551616 : Nat) l) (vB (18446744073709551616 : Nat) m) (vB (18446744073709551616 : Nat) l') (vB (18446744073709551616 : Nat) m') %
   FP)),
   D.arr IntKind.u64 (4 : Nat)
   (nB (18446744073709551616 : Nat) (4 : Nat)
   (qF (vB (18446744073709551616 : Nat) [(1 : Int), (0 : Int), (0 : Int), (0 : Int)]) (vB (18446744073709551616 : Nat) (nB (18446744073709551616 : Nat) (4 : Nat) (vB (18446744073709551616 : Nat) l * vB (18446744073709551616 : Nat) m % FP))) (vB (18446744073709551616 : Nat) [(1 : Int), (0 : Int), (0 : Int), (0 : Int)])
   (vB (18446744073709551616 : Nat) (nB (18446744073709551616 : Nat) (4 : Nat) (vB (18446744073709551616 : Nat) l' * vB (18446744073709551616 : Nat) m' % FP))) *
   qG (vB (18446744073709551616 : Nat) [(1 : Int), (0 : Int), (0 : Int), (0 : Int)]) (vB (18446744073709551616 : Nat) (nB (18446744073709551616 : Nat) (4 : Nat) (vB (18446744073709551616 : Nat) l * vB (18446744073709551616 : Nat) m % FP))) (vB (18446744073709551616 : Nat) [(1 : Int), (0 : Int), (0 : Int), (0 : Int)])
   (vB (18446744073709551616 : Nat) (nB (18446744073709551616 : Nat) (4 : Nat) (vB (18446744073709551616 : Nat) l' * vB (18446744073709551616 : Nat) m' % FP))) %
   FP)),
   D.arr IntKind.u64 (4 : Nat)
   (nB (18446744073709551616 : Nat) (4 : Nat)
   (qE (vB (18446744073709551616 : Nat) l) (vB (18446744073709551616 : Nat) m) (vB (18446744073709551616 : Nat) l') (vB (18446744073709551616 : Nat) m') * qH (vB (18446744073709551616 : Nat) l) (vB (18446744073709551616 : Nat) m) (vB (18446744073709551616 : Nat) l') (vB (18446744073709551616 : Nat) m') % FP))]] =
   [D.st [D.arr IntKind.u64 (4 : Nat) a, D.arr IntKind.u64 (4 : Nat) b, D.arr IntKind.u64 (4 : Nat) c, D.arr IntKind.u64 (4 : Nat) d]] ∧
   isN a ∧ isN b ∧ isN c ∧ isN d) ∧
   (Sk.st [Sk.arr (4 : Nat), Sk.arr (4 : Nat)] = Sk.st [Sk.arr (4 : Nat), Sk.arr (4 : Nat)] ∧ (8 : Nat) ≠ (0 : Nat) ∧ (8 : Nat) = (8 : Nat) ∧ false = false) ∧
   True ∧
   (((8 : Nat) ≠ (0 : Nat) ∧ (8 : Nat) = (8 : Nat) ∧ true = true) ∧ false = false ∧ True) ∧
   D.tup
   [D.st
   [D.arr IntKind.u64 (4 : Nat)
   (nB (18446744073709551616 : Nat) (4 : Nat)
   (aff
   (vB (18446744073709551616 : Nat)
   (nB (18446744073709551616 : Nat) (4 : Nat)
   (qE (vB (18446744073709551616 : Nat) l) (vB (18446744073709551616 : Nat) m) (vB (18446744073709551616 : Nat) l') (vB (18446744073709551616 : Nat) m') *
   qF (vB (18446744073709551616 : Nat) [(1 : Int), (0 : Int), (0 : Int), (0 : Int)]) (vB (18446744073709551616 : Nat) (nB (18446744073709551616 : Nat) (4 : Nat) (vB (18446744073709551616 : Nat) l * vB (18446744073709551616 : Nat) m % FP))) (vB (18446744073709551616 : Nat) [(1 : Int), (0 : Int), (0 : Int), (0 : Int)])
   (vB (18446744073709551616 : Nat) (nB (18446744073709551616 : Nat) (4 : Nat) (vB (18446744073709551616 : Nat) l' * vB (18446744073709551616 : Nat) m' % FP))) %
   FP)))
   (vB (18446744073709551616 : Nat)
   (nB (18446744073709551616 : Nat) (4 : Nat)
   (qF (vB (18446744073709551616 : Nat) [(1 : Int), (0 : Int), (0 : Int), (0 : Int)]) (vB (18446744073709551616 : Nat) (nB (18446744073709551616 : Nat) (4 : Nat) (vB (18446744073709551616 : Nat) l * vB (18446744073709551616 : Nat) m % FP))) (vB (18446744073709551616 : Nat) [(1 : Int), (0 : Int), (0 : Int), (0 : Int)])
   (vB (18446744073709551616 : Nat) (nB (18446744073709551616 : Nat) (4 : Nat) (vB (18446744073709551616 : Nat) l' * vB (18446744073709551616 : Nat) m' % FP))) *
   qG (vB (18446744073709551616 : Nat) [(1 : Int), (0 : Int), (0 : Int), (0 : Int)]) (vB (18446744073709551616 : Nat) (nB (18446744073709551616 : Nat) (4 : Nat) (vB (18446744073709551616 : Nat) l * vB (18446744073709551616 : Nat) m % FP))) (vB (18446744073709551616 : Nat) [(1 : Int), (0 : Int), (0 : Int), (0 : Int)])
   (vB (18446744073709551616 : Nat) (nB (18446744073709551616 : Nat) (4 : Nat) (vB (18446744073709551616 : Nat) l' * vB (18446744073709551616 : Nat) m' % FP))) %
   FP))))),
   D.arr IntKind.u64 (4 : Nat)
   (nB (18446744073709551616 : Nat) (4 : Nat)
   (aff
   (vB (18446744073709551616 : Nat)
   (nB (18446744073709551616 : Nat) (4 : Nat)
   (qG (vB (18446744073709551616 : Nat) [(1 : Int), (0 : Int), (0 : Int), (0 : Int)]) (vB (18446744073709551616 : Nat) (nB (18446744073709551616 : Nat) (4 : Nat) (vB (18446744073709551616 : Nat) l * vB (18446744073709551616 : Nat) m % FP))) (vB (18446744073709551616 : Nat) [(1 : Int), (0 : Int), (0 : Int), (0 : Int)])
   (vB (18446744073709551616 : Nat) (nB (18446744073709551616 : Nat) (4 : Nat) (vB (18446744073709551616 : Nat) l' * vB (18446744073709551616 : Nat) m' % FP))) *
   qH (vB (18446744073709551616 : Nat) l) (vB (18446744073709551616 : Nat) m) (vB (18446744073709551616 : Nat) l') (vB (18446744073709551616 : Nat) m') %
   FP)))
   (vB (18446744073709551616 : Nat)
   (nB (18446744073709551616 : Nat) (4 : Nat)
   (qF (vB (18446744073709551616 : Nat) [(1 : Int), (0 : Int), (0 : Int), (0 : Int)]) (vB (18446744073709551616 : Nat) (nB (18446744073709551616 : Nat) (4 : Nat) (vB (18446744073709551616 : Nat) l * vB (18446744073709551616 : Nat) m % FP))) (vB (18446744073709551616 : Nat) [(1 : Int), (0 : Int), (0 : Int), (0 : Int)])
   (vB (18446744073709551616 : Nat) (nB (18446744073709551616 : Nat) (4 : Nat) (vB (18446744073709551616 : Nat) l' * vB (18446744073709551616 : Nat) m' % FP))) *
   qG (vB (18446744073709551616 : Nat) [(1 : Int), (0 : Int), (0 : Int), (0 : Int)]) (vB (18446744073709551616 : Nat) (nB (18446744073709551616 : Nat) (4 : Nat) (vB (18446744073709551616 : Nat) l * vB (18446744073709551616 : Nat) m % FP))) (vB (18446744073709551616 : Nat) [(1 : Int), (0 : Int), (0 : Int), (0 : Int)])
   (vB (18446744073709551616 : Nat) (nB (18446744073709551616 : Nat) (4 : Nat) (vB (18446744073709551616 : Nat) l' * vB (18446744073709551616 : Nat) m' % FP))) %
   FP)))))],
   D.val (Value.int IntKind.i64 (0 : Int))] =
   F) := by kernel_rfl
set_option maxRecDepth 100000 in
theorem vc39  (l m : List Int) (F : D)  :
    (owed c39 (fun _ => none) Try.f39 [ptD l m] F) = (
 (True ∧ false = false) ∧
 (True ∧ (8 : Nat) ≠ (0 : Nat)) ∧
 True ∧
 ((8 : Nat) ≠ (0 : Nat) ∧ (8 : Nat) = (8 : Nat) ∧ true = true) ∧
 (∃ (l_1 : List Int), ∃ (m_1 : List Int), [D.st [D.arr IntKind.u64 (4 : Nat) l, D.arr IntKind.u64 (4 : Nat) m]] = [D.st [D.arr IntKind.u64 (4 : Nat) l_1, D.arr IntKind.u64 (4 : Nat) m_1]] ∧ isN l_1 ∧ isN m_1) ∧
 True ∧
 match !onB (vB (18446744073709551616 : Nat) l) (vB (18446744073709551616 : Nat) m) with
 | true =>
  True ∧
  (Sk.st [Sk.arr (4 : Nat), Sk.arr (4 : Nat)] = Sk.st [Sk.arr (4 : Nat), Sk.arr (4 : Nat)] ∧ (8 : Nat) ≠ (0 : Nat) ∧ (8 : Nat) = (8 : Nat) ∧ false = false) ∧
  True ∧ (((8 : Nat) ≠ (0 : Nat) ∧ (8 : Nat) = (8 : Nat) ∧ true = true) ∧ false = false ∧ True) ∧ D.tup [D.st [D.arr IntKind.u64 (4 : Nat) [(0 : Int), (0 : Int), (0 : Int), (0 : Int)], D.arr IntKind.u64 (4 : Nat) [(0 : Int), (0 : Int), (0 : Int), (0 : Int)]], D.val (Value.int IntKind.i64 (1 : Int))] = F
 | false =>
  ((1 : Nat) = (1 : Nat) ∧ True) ∧
  (Sk.st [Sk.arr (4 : Nat), Sk.arr (4 : Nat)] = Sk.st [Sk.arr (4 : Nat), Sk.arr (4 : Nat)] ∧ (0 : Nat) < (2 : Nat)) ∧
  ((4 : Nat) ≠ (0 : Nat) ∧ (4 : Nat) = (4 : Nat) ∧ true = true) ∧
  (∃ (l_1 : List Int), ∃ (m : List Int), [D.arr IntKind.u64 (4 : Nat) [(0 : Int), (0 : Int), (0 : Int), (0 : Int)], D.arr IntKind.u64 (4 : Nat) l] = [D.arr IntKind.u64 (4 : Nat) l_1, D.arr IntKind.u64 (4 : Nat) m] ∧ isN l_1 ∧ isN m) ∧
  (Sk.st [Sk.arr (4 : Nat), Sk.arr (4 : Nat)] = Sk.st [Sk.arr (4 : Nat), Sk.arr (4 : Nat)] ∧ (0 : Nat) < (2 : Nat)) ∧
  (((0 : Nat) < (2 : Nat) ∧ Sk.arr (4 : Nat) = Sk.arr (4 : Nat)) ∧ (4 : Nat) ≠ (0 : Nat) ∧ (4 : Nat) = (4 : Nat) ∧ false = false) ∧
  ((8 : Nat) ≠ (0 : Nat) ∧ (8 : Nat) = (8 : Nat) ∧ true = true) ∧
  (Sk.st [Sk.arr (4 : Nat), Sk.arr (4 : Nat)] = Sk.st [Sk.arr (4 : Nat), Sk.arr (4 : Nat)] ∧ (8 : Nat) ≠ (0 : Nat) ∧ (8 : Nat) = (8 : Nat) ∧ false = false) ∧
  True ∧
  (((8 : Nat) ≠ (0 : Nat) ∧ (8 : Nat) = (8 : Nat) ∧ true = true) ∧ false = false ∧ True) ∧
  D.tup [D.st [D.arr IntKind.u64 (4 : Nat) (nB (18446744073709551616 : Nat) (4 : Nat) (fsb (vB (18446744073709551616 : Nat) [(0 : Int), (0 : Int), (0 : Int), (0 : Int)]) (vB (18446744073709551616 : Nat) l))), D.arr IntKind.u64 (4 : Nat) m], D.val (Value.int IntKind.i64 (0 : Int))] = F) := by kernel_rfl
end Go.Proofs.Ytnadggcfdakpoaa
/- The curve, of package curve and of the reference: the functions meet. -/
namespace Go.Proofs.Ytnadggcfdakpoaa
open Go Go.Vg

theorem flt (v : Nat) : v % FP < 115792089237316195423570985008687907853269984665640564039457584007913129639936 := by have := mlt v; rw [FP_eq] at this ⊢; omega
theorem fsb_lt (a b : Nat) : fsb a b < FP := mlt _
theorem fslt (a b : Nat) : fsb a b < 115792089237316195423570985008687907853269984665640564039457584007913129639936 := flt _
theorem wnm (v : Nat) : vB 18446744073709551616 (nB 18446744073709551616 4 (v % FP)) = v % FP := wn (flt v)
theorem wns (a b : Nat) : vB 18446744073709551616 (nB 18446744073709551616 4 (fsb a b)) = fsb a b := wn (flt _)
theorem wnp (a b : Nat) : vB 18446744073709551616 (nB 18446744073709551616 4 (fpw a b)) = fpw a b := wn (fpw_nlt a b)
theorem fnm (v : Nat) : vB 65536 (nB 65536 16 (v % FP)) = v % FP := fn (flt v)
theorem fns (a b : Nat) : vB 65536 (nB 65536 16 (fsb a b)) = fsb a b := fn (flt _)
theorem fnp (a b : Nat) : vB 65536 (nB 65536 16 (fpw a b)) = fpw a b := fn (fpw_nlt a b)
theorem wdN : vB 18446744073709551616 dNum = dN := by decide
theorem fdN : vB 65536 dFe = dN := by decide
theorem w1 : vB 18446744073709551616 [1, 0, 0, 0] = 1 := rfl
theorem w0 : vB 18446744073709551616 [0, 0, 0, 0] = 0 := rfl
theorem f1 : vB 65536 oneF = 1 := rfl
theorem f1' : vB 65536 [1, 0, 0, 0, 0, 0, 0, 0, 0, 0, 0, 0, 0, 0, 0, 0] = 1 := rfl
theorem okw_dec {l : List Int} (h : l.all (fun x => decide (0 ≤ x) && decide (x < 18446744073709551616)) = true) : okw l := by
  intro x hx
  have := List.all_eq_true.1 h x hx
  rw [Bool.and_eq_true] at this
  exact ⟨of_decide_eq_true this.1, of_decide_eq_true this.2⟩
theorem okd_dec {l : List Int} (h : l.all (fun x => decide (0 ≤ x) && decide (x < 65536)) = true) : okd l := by
  intro x hx
  have := List.all_eq_true.1 h x hx
  rw [Bool.and_eq_true] at this
  exact ⟨of_decide_eq_true this.1, of_decide_eq_true this.2⟩
theorem N_d : isN dNum := ⟨okw_dec (by decide), rfl⟩
theorem N_1 : isN [1, 0, 0, 0] := ⟨okw_dec (by decide), rfl⟩
theorem N_0 : isN [0, 0, 0, 0] := ⟨okw_dec (by decide), rfl⟩
theorem F_d : isF dFe := ⟨okd_dec (by decide), rfl⟩
theorem F_1 : isF oneF := ⟨okd_dec (by decide), rfl⟩
theorem F_1' : isF [1, 0, 0, 0, 0, 0, 0, 0, 0, 0, 0, 0, 0, 0, 0, 0] := ⟨okd_dec (by decide), rfl⟩
theorem F_bx : isF bxF := ⟨okd_dec (by decide), rfl⟩
theorem F_by : isF byF := ⟨okd_dec (by decide), rfl⟩
theorem eqB_low {l : List Int} (h : isN l) : eqB l (nB 18446744073709551616 4 (vB 18446744073709551616 l % FP)) = decide (vB 18446744073709551616 l < FP) := by
  rw [eqB_eq, decide_eq_decide]
  constructor
  · intro e
    have := congrArg (vB 18446744073709551616) e
    rw [wnm] at this
    rw [this]; exact mlt _
  · intro e
    rw [Nat.mod_eq_of_lt e]
    exact (num_nB h).symm
theorem eqB_low' {l : List Int} (h : isN l) : eqB (nB 18446744073709551616 4 (vB 18446744073709551616 l % FP)) l = decide (vB 18446744073709551616 l < FP) := by
  rw [← eqB_low h, eqB_eq, eqB_eq, decide_eq_decide]
  exact ⟨fun h => h.symm, fun h => h.symm⟩
theorem eqB_num {a b : Nat} (ha : a < 115792089237316195423570985008687907853269984665640564039457584007913129639936) (hb : b < 115792089237316195423570985008687907853269984665640564039457584007913129639936) : eqB (nB 18446744073709551616 4 a) (nB 18446744073709551616 4 b) = decide (a = b) := by
  rw [eqB_eq, decide_eq_decide]
  constructor
  · intro e
    have := congrArg (vB 18446744073709551616) e
    rwa [wn ha, wn hb] at this
  · intro e; rw [e]
theorem eqB_fe {a b : Nat} (ha : a < 115792089237316195423570985008687907853269984665640564039457584007913129639936) (hb : b < 115792089237316195423570985008687907853269984665640564039457584007913129639936) : eqB (nB 65536 16 a) (nB 65536 16 b) = decide (a = b) := by
  rw [eqB_eq, decide_eq_decide]
  constructor
  · intro e
    have := congrArg (vB 65536) e
    rwa [fn ha, fn hb] at this
  · intro e; rw [e]
theorem onB_of {x y : Nat} (hx : x < FP) (hy : y < FP) : onB x y = decide (fsb (y * y % FP) (x * x % FP) = (1 + dN * (x * x % FP * (y * y % FP) % FP) % FP) % FP) := by
  unfold onB
  rw [decide_eq_true hx, decide_eq_true hy, Bool.true_and, Bool.true_and]
theorem onB_x {x y : Nat} (hx : ¬ x < FP) : onB x y = false := by
  unfold onB
  rw [decide_eq_false hx, Bool.false_and, Bool.false_and]
theorem onB_y {x y : Nat} (hy : ¬ y < FP) : onB x y = false := by
  unfold onB
  rw [decide_eq_false hy, Bool.and_false, Bool.false_and]
theorem onB_ref (a b : Nat) : (fsb (b % FP) (a % FP) = (1 + dN * (a % FP * (b % FP) % FP) % FP) % FP) ↔ b % FP = ((1 + a % FP) % FP + dN * (a % FP) % FP * (b % FP) % FP) % FP := by
  have h1 := mlt a
  have h2 := mlt b
  have e1 : dN * (a % FP * (b % FP) % FP) % FP = dN * (a % FP) % FP * (b % FP) % FP := by
    rw [Nat.mul_mod_mod, Nat.mod_mul_mod, Nat.mul_assoc]
  rw [e1]
  unfold fsb
  have h3 := mlt (dN * (a % FP) % FP * (b % FP))
  generalize dN * (a % FP) % FP * (b % FP) % FP = e at *
  generalize a % FP = a at *
  generalize b % FP = b at *
  rw [FP_eq] at *
  omega

set_option maxRecDepth 100000 in
theorem m40 : Meets Try.prog 40 sp40 := by
  refine meets_of_owed (C := c40) ⟨tab_ok, lkS_ok ⟨m106, m107, m105, m108, m109, trivial⟩⟩ (by kernel_rfl) (by kernel_rfl : Try.prog.funcs[40]? = some Try.f40) (by kernel_rfl) (by kernel_rfl) (by kernel_rfl) _ ?_
  rintro _ ⟨l, m, rfl, hl, hm⟩
  refine ⟨fun _ => rfl, fun _ => none, ?_⟩
  show owed c40 (fun _ => none) Try.f40 [ptD l m] (.val (.bool (onB (wv l) (wv m))))
  rw [vc40]
  have hd := N_d
  have h1 := N_1
  rw [eqB_low hl, eqB_low hm]
  simp (decide := true) only [eq_self, true_and, and_true, ne_eq, not_false_eq_true, wnm, wns, wdN, w1]
  refine ⟨⟨_, rfl, hl⟩, ?_⟩
  by_cases hx : vB 18446744073709551616 l < FP
  · rw [decide_eq_true hx]
    refine ⟨⟨_, rfl, hm⟩, ?_⟩
    by_cases hy : vB 18446744073709551616 m < FP
    · rw [decide_eq_true hy, eqB_num (fslt _ _) (flt _)]
      have e := onB_of hx hy
      refine ⟨⟨_, _, rfl, hl, hl⟩, ⟨_, _, rfl, hm, hm⟩, ⟨_, _, rfl, nN _, nN _⟩, ⟨_, _, rfl, nN _, nN _⟩, ⟨_, _, rfl, hd, nN _⟩, ⟨_, _, rfl, h1, nN _⟩, ?_⟩
      rw [show onB (wv l) (wv m) = _ from e]
    · rw [decide_eq_false hy]
      have e : onB (wv l) (wv m) = false := onB_y hy
      rw [e]; rfl
  · rw [decide_eq_false hx]
    have e : onB (wv l) (wv m) = false := onB_x hx
    rw [e]; rfl

set_option maxRecDepth 100000 in
theorem m37 : Meets Try.prog 37 sp37 := by
  refine meets_of_owed (C := c37) ⟨tab_ok, lkS_ok ⟨m46, m47, m54, m53, m100, m101, trivial⟩⟩ (by kernel_rfl) (by kernel_rfl : Try.prog.funcs[37]? = some Try.f37) (by kernel_rfl) (by kernel_rfl) (by kernel_rfl) _ ?_
  rintro _ ⟨l, m, rfl, hl, hm⟩
  refine ⟨fun _ => rfl, fun _ => none, ?_⟩
  show owed c37 (fun _ => none) Try.f37 [ptD l m] (.val (.bool (onB (wv l) (wv m))))
  rw [vc37]
  have hd := F_d
  have h1 := F_1'
  simp (decide := true) only [eq_self, true_and, and_true, ne_eq, not_false_eq_true, fnm, fdN, f1']
  rw [eqB_low' hl, eqB_low' hm]
  refine ⟨⟨_, rfl, hl⟩, ⟨_, rfl, hm⟩, ⟨_, rfl, nF _⟩, ?_⟩
  by_cases hx : vB 18446744073709551616 l < FP
  · rw [decide_eq_true hx]
    refine ⟨⟨_, rfl, nF _⟩, ?_⟩
    by_cases hy : vB 18446744073709551616 m < FP
    · rw [decide_eq_true hy, eqB_fe (flt _) (flt _), Nat.mod_eq_of_lt hx, Nat.mod_eq_of_lt hy]
      have e := onB_of hx hy
      have e2 := onB_ref (vB 18446744073709551616 l * vB 18446744073709551616 l) (vB 18446744073709551616 m * vB 18446744073709551616 m)
      rw [show onB (wv l) (wv m) = _ from e, decide_eq_decide.2 e2]
      refine ⟨⟨_, _, rfl, nF _, nF _⟩, ⟨_, _, rfl, nF _, nF _⟩, ⟨1, rfl, by decide⟩, ⟨_, _, rfl, h1, nF _⟩, ⟨_, _, rfl, hd, nF _⟩, ⟨_, _, rfl, nF _, nF _⟩, ⟨_, _, rfl, nF _, nF _⟩, rfl⟩
    · rw [decide_eq_false hy]
      have e : onB (wv l) (wv m) = false := onB_y hy
      rw [e]; rfl
  · rw [decide_eq_false hx]
    have e : onB (wv l) (wv m) = false := onB_x hx
    rw [e]; rfl

set_option maxRecDepth 100000 in
theorem m41 : Meets Try.prog 41 sp41 := by
  refine meets_of_owed (C := c74) ⟨tab_ok, fun f s h => by cases h⟩ (by kernel_rfl) (by kernel_rfl : Try.prog.funcs[41]? = some Try.f41) (by kernel_rfl) (by kernel_rfl) (by kernel_rfl) _ ?_
  intro ds hds
  obtain rfl : ds = [] := List.eq_nil_of_length_eq_zero hds
  refine ⟨fun _ => rfl, fun _ => none, ?_⟩
  show owed c74 (fun _ => none) Try.f41 [] (ptD [0, 0, 0, 0] [1, 0, 0, 0])
  rw [vc41]
  simp (decide := true) only [eq_self, true_and, and_true, ne_eq, not_false_eq_true]
set_option maxRecDepth 100000 in
theorem m42 : Meets Try.prog 42 sp42 := by
  refine meets_of_owed (C := c74) ⟨tab_ok, fun f s h => by cases h⟩ (by kernel_rfl) (by kernel_rfl : Try.prog.funcs[42]? = some Try.f42) (by kernel_rfl) (by kernel_rfl) (by kernel_rfl) _ ?_
  intro ds hds
  obtain rfl : ds = [] := List.eq_nil_of_length_eq_zero hds
  refine ⟨fun _ => rfl, fun _ => none, ?_⟩
  show owed c74 (fun _ => none) Try.f42 [] (ptD bxL byL)
  rw [vc42]
  simp (decide := true) only [eq_self, true_and, and_true, ne_eq, not_false_eq_true]
  and_intros <;> first | trivial | decide | rfl
set_option maxRecDepth 100000 in
theorem m43 : Meets Try.prog 43 sp43 := by
  refine meets_of_owed (C := c48) ⟨tab_ok, lkS_ok ⟨m46, m100, trivial⟩⟩ (by kernel_rfl) (by kernel_rfl : Try.prog.funcs[43]? = some Try.f43) (by kernel_rfl) (by kernel_rfl) (by kernel_rfl) _ ?_
  intro ds hds
  obtain rfl : ds = [] := List.eq_nil_of_length_eq_zero hds
  refine ⟨fun _ => rfl, fun _ => none, ?_⟩
  show owed c48 (fun _ => none) Try.f43 [] (pjD bxF byF oneF)
  rw [vc43]
  and_intros <;> first | trivial | decide | exact ⟨1, rfl, by decide⟩ | rfl
set_option maxRecDepth 100000 in
theorem m102 : Meets Try.prog 102 sp102 := by
  refine meets_of_owed (C := c40) ⟨tab_ok, lkS_ok ⟨m106, m107, m105, m108, m109, trivial⟩⟩ (by kernel_rfl) (by kernel_rfl : Try.prog.funcs[102]? = some Try.f102) (by kernel_rfl) (by kernel_rfl) (by kernel_rfl) _ ?_
  rintro _ ⟨l, m, rfl, hl, hm⟩
  refine ⟨fun _ => rfl, fun _ => none, ?_⟩
  show owed c40 (fun _ => none) Try.f102 [ptD l m] (quD l m [1, 0, 0, 0] (nB 18446744073709551616 4 (wv l * wv m % FP)))
  rw [vc102]
  simp (decide := true) only [eq_self, true_and, and_true, ne_eq, not_false_eq_true]
  and_intros <;> first | exact True.intro | exact ⟨_, _, rfl, hl, hm⟩ | rfl | decide

set_option maxRecDepth 100000 in
theorem m103 : Meets Try.prog 103 sp103 := by
  refine meets_of_owed (C := c40) ⟨tab_ok, lkS_ok ⟨m106, m107, m105, m108, m109, trivial⟩⟩ (by kernel_rfl) (by kernel_rfl : Try.prog.funcs[103]? = some Try.f103) (by kernel_rfl) (by kernel_rfl) (by kernel_rfl) _ ?_
  rintro _ ⟨a, b, c, d, a', b', c', d', rfl, ⟨ha, hb, hc, hd⟩, ha', hb', hc', hd'⟩
  refine ⟨fun _ => rfl, fun _ => none, ?_⟩
  show owed c40 (fun _ => none) Try.f103 [quD a b c d, quD a' b' c' d'] (.st [n4 (qE (wv a) (wv b) (wv a') (wv b') * qF (wv c) (wv d) (wv c') (wv d') % FP), n4 (qG (wv c) (wv d) (wv c') (wv d') * qH (wv a) (wv b) (wv a') (wv b') % FP), n4 (qF (wv c) (wv d) (wv c') (wv d') * qG (wv c) (wv d) (wv c') (wv d') % FP), n4 (qE (wv a) (wv b) (wv a') (wv b') * qH (wv a) (wv b) (wv a') (wv b') % FP)])
  rw [vc103]
  have hdN := N_d
  unfold qE qF qG qH qA qB qC qZ
  simp (decide := true) only [eq_self, true_and, and_true, ne_eq, not_false_eq_true, wnm, wns, wdN]
  and_intros <;> first | exact True.intro | (refine ⟨_, _, rfl, ?_, ?_⟩ <;> first | exact nN _ | assumption) | rfl
set_option maxRecDepth 100000 in
theorem m104 : Meets Try.prog 104 sp104 := by
  refine meets_of_owed (C := c104) ⟨tab_ok, lkS_ok ⟨m113, m107, trivial⟩⟩ (by kernel_rfl) (by kernel_rfl : Try.prog.funcs[104]? = some Try.f104) (by kernel_rfl) (by kernel_rfl) (by kernel_rfl) _ ?_
  rintro _ ⟨a, b, c, d, rfl, ha, hb, hc, hd⟩
  refine ⟨fun _ => rfl, fun _ => none, ?_⟩
  show owed c104 (fun _ => none) Try.f104 [quD a b c d] (.st [n4 (aff (wv a) (wv c)), n4 (aff (wv b) (wv c))])
  rw [vc104]
  unfold aff
  simp (decide := true) only [eq_self, true_and, and_true, ne_eq, not_false_eq_true, wnm, wns, wnp]
  and_intros <;> first | exact True.intro | exact ⟨_, rfl, hc⟩ | (refine ⟨_, _, rfl, ?_, ?_⟩ <;> first | exact nN _ | assumption) | rfl
set_option maxRecDepth 100000 in
theorem m44 : Meets Try.prog 44 sp44 := by
  refine meets_of_owed (C := c44) ⟨tab_ok, lkS_ok ⟨m55, m54, m47, trivial⟩⟩ (by kernel_rfl) (by kernel_rfl : Try.prog.funcs[44]? = some Try.f44) (by kernel_rfl) (by kernel_rfl) (by kernel_rfl) _ ?_
  rintro _ ⟨a, b, c, rfl, ha, hb, hc⟩
  refine ⟨fun _ => rfl, fun _ => none, ?_⟩
  show owed c44 (fun _ => none) Try.f44 [pjD a b c] (.st [n4 (aff (vB 65536 a) (vB 65536 c)), n4 (aff (vB 65536 b) (vB 65536 c))])
  rw [vc44]
  unfold aff
  simp (decide := true) only [eq_self, true_and, and_true, ne_eq, not_false_eq_true, fnm, fns, fnp]
  and_intros <;> first | exact True.intro | exact ⟨_, rfl, hc⟩ | exact ⟨_, rfl, nF _⟩ | (refine ⟨_, _, rfl, ?_, ?_⟩ <;> first | exact nF _ | assumption) | rfl
set_option maxRecDepth 100000 in
theorem m48 : Meets Try.prog 48 sp48 := by
  refine meets_of_owed (C := c48) ⟨tab_ok, lkS_ok ⟨m46, m100, trivial⟩⟩ (by kernel_rfl) (by kernel_rfl : Try.prog.funcs[48]? = some Try.f48) (by kernel_rfl) (by kernel_rfl) (by kernel_rfl) _ ?_
  rintro _ ⟨l, m, rfl, hl, hm⟩
  refine ⟨fun _ => rfl, fun _ => none, ?_⟩
  show owed c48 (fun _ => none) Try.f48 [ptD l m] (pjD (nB 65536 16 (wv l % FP)) (nB 65536 16 (wv m % FP)) oneF)
  rw [vc48]
  simp (decide := true) only [eq_self, true_and, and_true, ne_eq, not_false_eq_true]
  and_intros <;> first | exact True.intro | exact ⟨_, rfl, hl⟩ | exact ⟨_, rfl, hm⟩ | exact ⟨1, rfl, by decide⟩ | rfl
set_option maxRecDepth 100000 in
theorem m49 : Meets Try.prog 49 sp49 := by
  refine meets_of_owed (C := c49) ⟨tab_ok, lkS_ok ⟨m54, m53, m45, m101, trivial⟩⟩ (by kernel_rfl) (by kernel_rfl : Try.prog.funcs[49]? = some Try.f49) (by kernel_rfl) (by kernel_rfl) (by kernel_rfl) _ ?_
  rintro _ ⟨a, b, c, a', b', c', rfl, ⟨ha, hb, hc⟩, ha', hb', hc'⟩
  refine ⟨fun _ => rfl, fun _ => none, ?_⟩
  show owed c49 (fun _ => none) Try.f49 [pjD a b c, pjD a' b' c'] (.st [fe (rX (vB 65536 a) (vB 65536 b) (vB 65536 c) (vB 65536 a') (vB 65536 b') (vB 65536 c')), fe (rY (vB 65536 a) (vB 65536 b) (vB 65536 c) (vB 65536 a') (vB 65536 b') (vB 65536 c')), fe (rZ (vB 65536 a) (vB 65536 b) (vB 65536 c) (vB 65536 a') (vB 65536 b') (vB 65536 c'))])
  rw [vc49]
  have hdN := F_d
  unfold rX rY rZ rE rB rS
  simp (decide := true) only [eq_self, true_and, and_true, ne_eq, not_false_eq_true, fnm, fns, fdN]
  and_intros <;> first | exact True.intro | (refine ⟨_, _, rfl, ?_, ?_⟩ <;> first | exact nF _ | assumption) | rfl
set_option maxRecDepth 100000 in
theorem m39 : Meets Try.prog 39 sp39 := by
  refine meets_of_owed (C := c39) ⟨tab_ok, lkS_ok ⟨m40, m105, trivial⟩⟩ (by kernel_rfl) (by kernel_rfl : Try.prog.funcs[39]? = some Try.f39) (by kernel_rfl) (by kernel_rfl) (by kernel_rfl) _ ?_
  rintro _ ⟨l, m, rfl, hl, hm⟩
  refine ⟨fun _ => rfl, fun _ => none, ?_⟩
  show owed c39 (fun _ => none) Try.f39 [ptD l m] (.tup [.st [n4 (ngX (wv l) (wv m)), n4 (ngY (wv l) (wv m))], i64 (ngO (wv l) (wv m))])
  rw [vc39]
  have h0 := N_0
  have hv := num_nB hm
  simp (decide := true) only [eq_self, true_and, and_true, ne_eq, not_false_eq_true, w0]
  refine ⟨⟨_, _, rfl, hl, hm⟩, ?_⟩
  have hv' : num4 m = n4 (wv m) := by show num4 m = num4 (nB 18446744073709551616 4 (wv m)); rw [hv]
  have hno : onB (wv l) (wv m) = false → ngX (wv l) (wv m) = 0 ∧ ngY (wv l) (wv m) = 0 ∧ ngO (wv l) (wv m) = 1 := by
    intro h
    unfold ngX ngY ngO
    rw [h]
    exact ⟨if_neg (by decide), if_neg (by decide), if_neg (by decide)⟩
  have hyes : onB (wv l) (wv m) = true → ngX (wv l) (wv m) = fsb 0 (wv l) ∧ ngY (wv l) (wv m) = wv m ∧ ngO (wv l) (wv m) = 0 := by
    intro h
    unfold ngX ngY ngO
    rw [h]
    exact ⟨if_pos rfl, if_pos rfl, if_pos rfl⟩
  cases h : onB (vB 18446744073709551616 l) (vB 18446744073709551616 m) with
  | true =>
    obtain ⟨e1, e2, e3⟩ := hyes h
    rw [e1, e2, e3, ← hv']
    exact ⟨⟨_, _, rfl, h0, hl⟩, rfl⟩
  | false =>
    obtain ⟨e1, e2, e3⟩ := hno h
    rw [e1, e2, e3]
    exact (Eq.refl _ : D.tup [.st [num4 [0, 0, 0, 0], num4 [0, 0, 0, 0]], i64 1] = D.tup [.st [num4 [0, 0, 0, 0], num4 [0, 0, 0, 0]], i64 1])
set_option maxRecDepth 100000 in
theorem m38 : Meets Try.prog 38 sp38 := by
  refine meets_of_owed (C := c38) ⟨tab_ok, lkS_ok ⟨m40, m102, m103, m104, trivial⟩⟩ (by kernel_rfl) (by kernel_rfl : Try.prog.funcs[38]? = some Try.f38) (by kernel_rfl) (by kernel_rfl) (by kernel_rfl) _ ?_
  rintro _ ⟨l, m, l', m', rfl, ⟨hl, hm⟩, hl', hm'⟩
  refine ⟨fun _ => rfl, fun _ => none, ?_⟩
  show owed c38 (fun _ => none) Try.f38 [ptD l m, ptD l' m'] (.tup [.st [n4 (adX (wv l) (wv m) (wv l') (wv m')), n4 (adY (wv l) (wv m) (wv l') (wv m'))], i64 (adO (wv l) (wv m) (wv l') (wv m'))])
  rw [vc38]
  have h1 := N_1
  simp (decide := true) only [eq_self, true_and, and_true, ne_eq, not_false_eq_true, w1, wnm]
  refine ⟨⟨_, _, rfl, hl, hm⟩, ?_⟩
  have hno : (onB (wv l) (wv m) && onB (wv l') (wv m')) = false → adX (wv l) (wv m) (wv l') (wv m') = 0 ∧ adY (wv l) (wv m) (wv l') (wv m') = 0 ∧ adO (wv l) (wv m) (wv l') (wv m') = 1 := by
    intro h
    unfold adX adY adO
    rw [h]
    exact ⟨if_neg (by decide), if_neg (by decide), if_neg (by decide)⟩
  have hyes : (onB (wv l) (wv m) && onB (wv l') (wv m')) = true → adX (wv l) (wv m) (wv l') (wv m') = aff (qE (wv l) (wv m) (wv l') (wv m') * qF 1 (wv l * wv m % FP) 1 (wv l' * wv m' % FP) % FP) (qF 1 (wv l * wv m % FP) 1 (wv l' * wv m' % FP) * qG 1 (wv l * wv m % FP) 1 (wv l' * wv m' % FP) % FP)
      ∧ adY (wv l) (wv m) (wv l') (wv m') = aff (qG 1 (wv l * wv m % FP) 1 (wv l' * wv m' % FP) * qH (wv l) (wv m) (wv l') (wv m') % FP) (qF 1 (wv l * wv m % FP) 1 (wv l' * wv m' % FP) * qG 1 (wv l * wv m % FP) 1 (wv l' * wv m' % FP) % FP)
      ∧ adO (wv l) (wv m) (wv l') (wv m') = 0 := by
    intro h
    unfold adX adY adO
    rw [h]
    exact ⟨if_pos rfl, if_pos rfl, if_pos rfl⟩
  cases h : onB (vB 18446744073709551616 l) (vB 18446744073709551616 m) with
  | true =>
    refine ⟨⟨_, _, rfl, hl', hm'⟩, ?_⟩
    cases h' : onB (vB 18446744073709551616 l') (vB 18446744073709551616 m') with
    | true =>
      obtain ⟨e1, e2, e3⟩ := hyes (by rw [show onB (wv l) (wv m) = true from h, show onB (wv l') (wv m') = true from h']; rfl)
      rw [e1, e2, e3]
      exact ⟨⟨_, _, rfl, hl, hm⟩, ⟨_, _, rfl, hl', hm'⟩, ⟨_, _, _, _, _, _, _, _, rfl, ⟨hl, hm, h1, nN _⟩, hl', hm', h1, nN _⟩, ⟨_, _, _, _, rfl, nN _, nN _, nN _, nN _⟩, rfl⟩
    | false =>
      obtain ⟨e1, e2, e3⟩ := hno (by rw [show onB (wv l') (wv m') = false from h']; exact Bool.and_false _)
      rw [e1, e2, e3]
      rfl
  | false =>
    obtain ⟨e1, e2, e3⟩ := hno (by rw [show onB (wv l) (wv m) = false from h]; rfl)
    rw [e1, e2, e3]
    rfl
end Go.Proofs.Ytnadggcfdakpoaa
/- Powers modulo a number, told fast. -/
namespace Go.Vg

/-- b to the e modulo m, by squares. -/
def pm (m : Nat) : Nat → Nat → Nat → Nat
  | 0, _, _ => 1 % m
  | k + 1, b, e => if e % 2 = 1 then pm m k (b * b % m) (e / 2) * b % m else pm m k (b * b % m) (e / 2)
theorem pm_eq (m : Nat) : ∀ k b e, e < 2 ^ k → pm m k b e = b ^ e % m
  | 0, b, e, h => by
    have : e = 0 := by rw [Nat.pow_zero] at h; omega
    subst this
    rfl
  | k + 1, b, e, h => by
    have h2 : e / 2 < 2 ^ k := by rw [Nat.pow_succ] at h; omega
    have ih := pm_eq m k (b * b % m) (e / 2) h2
    have e1 : (b * b % m) ^ (e / 2) % m = b ^ (2 * (e / 2)) % m := by rw [← Nat.pow_mod, Nat.pow_mul, Nat.pow_two]
    unfold pm
    rw [ih, e1]
    split
    · rw [Nat.mod_mul_mod, ← Nat.pow_succ]
      congr 2
      omega
    · congr 2
      omega

end Go.Vg
/- Values modulo 2^255 - 19 as whole numbers. -/
namespace Go.Proofs.Ytnadggcfdakpoaa
open Go Go.Vg

/-- The number a stands for the whole number x. -/
def Rp (a : Nat) (x : Int) : Prop := (a : Int) % (FP : Int) = x % (FP : Int)
theorem Rp_to {a : Nat} {x y : Int} (h : Rp a x) (e : x = y) : Rp a y := e ▸ h
theorem Rp_var (a : Nat) : Rp a a := rfl
theorem Rp_mod {a : Nat} {x : Int} (h : Rp a x) : Rp (a % FP) x := by
  unfold Rp at *
  rw [← h, Int.natCast_emod, Int.emod_emod]
theorem Rp_add {a b : Nat} {x y : Int} (h : Rp a x) (h' : Rp b y) : Rp (a + b) (x + y) := by
  unfold Rp at *
  rw [Int.natCast_add, Int.add_emod, h, h', ← Int.add_emod]
theorem Rp_mul {a b : Nat} {x y : Int} (h : Rp a x) (h' : Rp b y) : Rp (a * b) (x * y) := by
  unfold Rp at *
  rw [Int.natCast_mul, Int.mul_emod, h, h', ← Int.mul_emod]
theorem Rp_fsb {a b : Nat} {x y : Int} (h : Rp a x) (h' : Rp b y) : Rp (fsb a b) (x - y) := by
  unfold Rp at *
  rw [Int.sub_emod, ← h, ← h']
  unfold fsb
  rw [FP_eq]
  omega
theorem Rp_pow {a : Nat} {x : Int} (h : Rp a x) : ∀ n, Rp (a ^ n) (x ^ n)
  | 0 => by rw [Nat.pow_zero, Int.pow_zero]; rfl
  | n + 1 => by
    rw [Nat.pow_succ, Int.pow_succ]
    exact Rp_mul (Rp_pow h n) h
theorem Rp_fpw {a : Nat} {x : Int} (h : Rp a x) (n : Nat) : Rp (fpw a n) (x ^ n) := by
  rw [fpw_eq]
  exact Rp_mod (Rp_pow h n)
theorem Rp_aff {a b : Nat} {x y : Int} (h : Rp a x) (h' : Rp b y) : Rp (aff a b) (x * y ^ (FP - 2)) := Rp_mod (Rp_mul h (Rp_fpw h' _))
theorem Rp_eq {a b : Nat} {x : Int} (h : Rp a x) (h' : Rp b x) (ha : a < FP) (hb : b < FP) : a = b := by
  unfold Rp at *
  rw [← h'] at h
  rw [FP_eq] at h ha hb
  omega
theorem Rp_id {a b : Nat} {x : Int} (h : Rp a x) (hb : (b : Int) % (FP : Int) = a % (FP : Int)) : Rp b x := by
  unfold Rp at *
  rw [hb, h]
theorem aff_lt (a b : Nat) : aff a b < FP := mlt _

theorem four_pow : 4 ^ (FP - 1) % FP = 1 := by
  rw [← pm_eq FP 256 4 (FP - 1) (by rw [FP_eq]; decide)]
  kernel_rfl
/-- Fractions whose parts are both four times as much. -/
theorem aff_four {a b a' b' : Nat} {x z : Int} (h1 : Rp a (4 * x)) (h2 : Rp b (4 * z)) (h3 : Rp a' x) (h4 : Rp b' z) : aff a b = aff a' b' := by
  have k1 := Rp_aff h1 h2
  have k2 := Rp_aff h3 h4
  have e : (4 * x) * (4 * z) ^ (FP - 2) = (4 ^ (FP - 1)) * (x * z ^ (FP - 2)) := by
    have hn : FP - 1 = (FP - 2) + 1 := by rw [FP_eq]
    rw [hn]
    generalize FP - 2 = n
    rw [Int.mul_pow, Int.pow_succ]
    generalize (4 : Int) ^ n = p
    generalize z ^ n = q
    grind
  rw [e] at k1
  have e4 : ((4 : Int) ^ (FP - 1)) % (FP : Int) = 1 % (FP : Int) := by
    have h := four_pow
    have h2 : (((4 ^ (FP - 1) : Nat) : Int)) % (FP : Int) = ((1 : Nat) : Int) := by rw [← Int.natCast_emod, h]
    rw [Int.natCast_pow] at h2
    have h3 : ((4 : Nat) : Int) ^ (FP - 1) = (4 : Int) ^ (FP - 1) := rfl
    rw [h3] at h2
    rw [h2, FP_eq]
    rfl
  have k3 : Rp (aff a b) (x * z ^ (FP - 2)) := by
    unfold Rp at k1 ⊢
    rw [k1, Int.mul_emod, e4, ← Int.mul_emod, Int.one_mul]
  exact Rp_eq k3 k2 (aff_lt _ _) (aff_lt _ _)

theorem add_eq (x y x' y' : Nat) : aff (qE x y x' y' * qF 1 (x * y % FP) 1 (x' * y' % FP) % FP) (qF 1 (x * y % FP) 1 (x' * y' % FP) * qG 1 (x * y % FP) 1 (x' * y' % FP) % FP) = aff (rX (x % FP) (y % FP) 1 (x' % FP) (y' % FP) 1) (rZ (x % FP) (y % FP) 1 (x' % FP) (y' % FP) 1)
    ∧ aff (qG 1 (x * y % FP) 1 (x' * y' % FP) * qH x y x' y' % FP) (qF 1 (x * y % FP) 1 (x' * y' % FP) * qG 1 (x * y % FP) 1 (x' * y' % FP) % FP) = aff (rY (x % FP) (y % FP) 1 (x' % FP) (y' % FP) 1) (rZ (x % FP) (y % FP) 1 (x' % FP) (y' % FP) 1) := by
  have hx := Rp_var x
  have hy := Rp_var y
  have hx' := Rp_var x'
  have hy' := Rp_var y'
  have hd := Rp_var dN
  have h1 : Rp 1 1 := Rp_var 1
  have gx := Rp_mod hx
  have gy := Rp_mod hy
  have gx' := Rp_mod hx'
  have gy' := Rp_mod hy'
  generalize (x : Int) = X at *
  generalize (y : Int) = Y at *
  generalize (x' : Int) = X' at *
  generalize (y' : Int) = Y' at *
  generalize (dN : Int) = d at *
  have kA : Rp (qA x y x' y') _ := Rp_mod (Rp_mul (Rp_fsb hy hx) (Rp_fsb hy' hx'))
  have kB : Rp (qB x y x' y') _ := Rp_mod (Rp_mul (Rp_mod (Rp_add hy hx)) (Rp_mod (Rp_add hy' hx')))
  have kT : Rp (x * y % FP) _ := Rp_mod (Rp_mul hx hy)
  have kT' : Rp (x' * y' % FP) _ := Rp_mod (Rp_mul hx' hy')
  have kc : Rp (x * y % FP * (x' * y' % FP) % FP * dN % FP) _ := Rp_mod (Rp_mul (Rp_mod (Rp_mul kT kT')) hd)
  have kC : Rp (qC (x * y % FP) (x' * y' % FP)) _ := Rp_mod (Rp_add kc kc)
  have kz : Rp (1 * 1 % FP) _ := Rp_mod (Rp_mul h1 h1)
  have kZ : Rp (qZ 1 1) _ := Rp_mod (Rp_add kz kz)
  have kE : Rp (qE x y x' y') _ := Rp_fsb kB kA
  have kH : Rp (qH x y x' y') _ := Rp_mod (Rp_add kB kA)
  have kF : Rp (qF 1 (x * y % FP) 1 (x' * y' % FP)) _ := Rp_fsb kZ kC
  have kG : Rp (qG 1 (x * y % FP) 1 (x' * y' % FP)) _ := Rp_mod (Rp_add kZ kC)
  have re : Rp (rE (x % FP) (y % FP) (x' % FP) (y' % FP)) _ := Rp_mod (Rp_mul (Rp_mod (Rp_mul hd (Rp_mod (Rp_mul gx gx')))) (Rp_mod (Rp_mul gy gy')))
  have rb : Rp (rB 1 1) _ := Rp_mod (Rp_mul kz kz)
  have rs : Rp (rS (x % FP) (y % FP) (x' % FP) (y' % FP)) _ := Rp_mod (Rp_add (Rp_mod (Rp_mul gx gy')) (Rp_mod (Rp_mul gy gx')))
  have rx : Rp (rX (x % FP) (y % FP) 1 (x' % FP) (y' % FP) 1) _ := Rp_mod (Rp_mul (Rp_mod (Rp_mul kz (Rp_fsb rb re))) rs)
  have ry : Rp (rY (x % FP) (y % FP) 1 (x' % FP) (y' % FP) 1) _ := Rp_mod (Rp_mul (Rp_mod (Rp_mul kz (Rp_mod (Rp_add rb re)))) (Rp_mod (Rp_add (Rp_mod (Rp_mul gx gx')) (Rp_mod (Rp_mul gy gy')))))
  have rz : Rp (rZ (x % FP) (y % FP) 1 (x' % FP) (y' % FP) 1) _ := Rp_mod (Rp_mul (Rp_fsb rb re) (Rp_mod (Rp_add rb re)))
  have m1 := Rp_mod (Rp_mul kE kF)
  have m2 := Rp_mod (Rp_mul kG kH)
  have m3 := Rp_mod (Rp_mul kF kG)
  constructor
  · refine aff_four (x := (1 * 1 * (1 * 1 * (1 * 1) - d * (X * X') * (Y * Y')) * (X * Y' + Y * X'))) (z := (1 * 1 * (1 * 1) - d * (X * X') * (Y * Y')) * (1 * 1 * (1 * 1) + d * (X * X') * (Y * Y'))) ?_ ?_ ?_ ?_
    · refine Rp_to m1 ?_
      grind
    · refine Rp_to m3 ?_
      grind
    · refine Rp_to rx ?_
      grind
    · refine Rp_to rz ?_
      grind
  · refine aff_four (x := (1 * 1 * (1 * 1 * (1 * 1) + d * (X * X') * (Y * Y')) * (X * X' + Y * Y'))) (z := (1 * 1 * (1 * 1) - d * (X * X') * (Y * Y')) * (1 * 1 * (1 * 1) + d * (X * X') * (Y * Y'))) ?_ ?_ ?_ ?_
    · refine Rp_to m2 ?_
      grind
    · refine Rp_to m3 ?_
      grind
    · refine Rp_to ry ?_
      grind
    · refine Rp_to rz ?_
      grind
end Go.Proofs.Ytnadggcfdakpoaa
/- CurveTells: the law. -/
namespace Go.Proofs.Ytnadggcfdakpoaa
open Go Go.Vg

noncomputable def c8 : Ctx := ⟨tab, lkS [(37, sp37), (38, sp38), (39, sp39), (40, sp40), (41, sp41), (42, sp42), (43, sp43), (44, sp44), (45, sp45), (46, sp46), (47, sp47), (48, sp48), (49, sp49)], [], []⟩
--KEEP List.replicate Nat.gcd Go.Vg.eqB Go.Vg.vB Go.Vg.nB Go.Vg.okd Go.Vg.okw Go.Vg.dg Go.Vg.dig Go.Vg.trimL okb lenOk lenS len1 sbd sbb dif bor cmpN shf i64ok subL sbD adl adc mulL mulH stL stH smN smC addL addK isN bl2 bitN pkL pkI isBits FP fsb fpw dNum isF okL dgF dFe dgP onB dN bxL byL bxF byF oneF qA qB qC qZ qE qF qG qH rE rB rS rX rY rZ aff adX adY adO ngX ngY ngO
set_option maxRecDepth 100000 in
theorem ok247  (d : D)  :
    (OkT tab 7 24 d) = (
 ∃ (l : List Int), d = D.arr IntKind.u64 (4 : Nat) l ∧ l.length = (4 : Nat) ∧ ∀ (z : Int), z ∈ l → (0 : Int) ≤ z ∧ z ≤ IntKind.u64.max) := by kernel_rfl
set_option maxRecDepth 100000 in
theorem ok67  (d : D)  :
    (OkT tab 8 67 d) = (
 ∃ (ds : List D), d = D.st ds ∧ OkL (OkT tab (7 : Nat)) [((0 : Nat), (24 : TypeId)), ((4 : Nat), (24 : TypeId))] ds) := by kernel_rfl
set_option maxRecDepth 100000 in
theorem vc8  (l m l' m' : List Int) (F : D)  :
    (owed c8 (fun _ => none) Try.f8 [ptD l m, ptD l' m'] F) = (
 (True ∧ false = false) ∧
 (True ∧ false = false) ∧
 True ∧
 ((8 : Nat) ≠ (0 : Nat) ∧ (8 : Nat) = (8 : Nat) ∧ true = true) ∧
 (∃ (l_1 : List Int), ∃ (m_1 : List Int), [D.st [D.arr IntKind.u64 (4 : Nat) l, D.arr IntKind.u64 (4 : Nat) m]] = [D.st [D.arr IntKind.u64 (4 : Nat) l_1, D.arr IntKind.u64 (4 : Nat) m_1]] ∧ isN l_1 ∧ isN m_1) ∧
 ((8 : Nat) ≠ (0 : Nat) ∧ (8 : Nat) = (8 : Nat) ∧ true = true) ∧
 (∃ (l : List Int), ∃ (m : List Int), [D.st [D.arr IntKind.u64 (4 : Nat) l', D.arr IntKind.u64 (4 : Nat) m']] = [D.st [D.arr IntKind.u64 (4 : Nat) l, D.arr IntKind.u64 (4 : Nat) m]] ∧ isN l ∧ isN m) ∧
 True ∧
 True ∧
 ((8 : Nat) ≠ (0 : Nat) ∧ (8 : Nat) = (8 : Nat) ∧ true = true) ∧
 ((8 : Nat) ≠ (0 : Nat) ∧ (8 : Nat) = (8 : Nat) ∧ true = true) ∧
 (∃ (l_1 : List Int),
 ∃ (m_1 : List Int),
 ∃ (l'_1 : List Int),
 ∃ (m'_1 : List Int), [D.st [D.arr IntKind.u64 (4 : Nat) l, D.arr IntKind.u64 (4 : Nat) m], D.st [D.arr IntKind.u64 (4 : Nat) l', D.arr IntKind.u64 (4 : Nat) m']] = [D.st [D.arr IntKind.u64 (4 : Nat) l_1, D.arr IntKind.u64 (4 : Nat) m_1], D.st [D.arr IntKind.u64 (4 : Nat) l'_1, D.arr IntKind.u64 (4 : Nat) m'_1]] ∧ (isN l_1 ∧ isN m_1) ∧ isN l'_1 ∧ isN m'_1) ∧
 True ∧
 ((0 : Nat) < (2 : Nat) ∧ false = false) ∧
 ((1 : Nat) < (2 : Nat) ∧ false = false) ∧
 (True ∧ (8 : Nat) ≠ (0 : Nat)) ∧
 (Sk.st [Sk.arr (4 : Nat), Sk.arr (4 : Nat)] = Sk.st [Sk.arr (4 : Nat), Sk.arr (4 : Nat)] ∧ (8 : Nat) ≠ (0 : Nat) ∧ (8 : Nat) = (8 : Nat) ∧ false = false) ∧
 True ∧
 ((8 : Nat) ≠ (0 : Nat) ∧ (8 : Nat) = (8 : Nat) ∧ true = true) ∧
 (∃ (l_1 : List Int), ∃ (m_1 : List Int), [D.st [D.arr IntKind.u64 (4 : Nat) l, D.arr IntKind.u64 (4 : Nat) m]] = [D.st [D.arr IntKind.u64 (4 : Nat) l_1, D.arr IntKind.u64 (4 : Nat) m_1]] ∧ isN l_1 ∧ isN m_1) ∧
 True ∧
 ((0 : Nat) < (2 : Nat) ∧ false = false) ∧
 ((1 : Nat) < (2 : Nat) ∧ false = false) ∧
 (True ∧ (8 : Nat) ≠ (0 : Nat)) ∧
 (Sk.st [Sk.arr (4 : Nat), Sk.arr (4 : Nat)] = Sk.st [Sk.arr (4 : Nat), Sk.arr (4 : Nat)] ∧ (8 : Nat) ≠ (0 : Nat) ∧ (8 : Nat) = (8 : Nat) ∧ false = false) ∧
 True ∧
 ((8 : Nat) ≠ (0 : Nat) ∧ (8 : Nat) = (8 : Nat) ∧ true = true) ∧
 (∃ (l_1 : List Int), ∃ (m_1 : List Int), [D.st [D.arr IntKind.u64 (4 : Nat) l, D.arr IntKind.u64 (4 : Nat) m]] = [D.st [D.arr IntKind.u64 (4 : Nat) l_1, D.arr IntKind.u64 (4 : Nat) m_1]] ∧ isN l_1 ∧ isN m_1) ∧
 True ∧
 True ∧
 True ∧
 match !onB (vB (18446744073709551616 : Nat) l) (vB (18446744073709551616 : Nat) m) == onB (vB (18446744073709551616 : Nat) l) (vB (18446744073709551616 : Nat) m) with
 | true => True ∧ True ∧ True ∧ True ∧ (false = false ∧ True) ∧ D.val (Value.bool false) = F
 | false =>
  (0 : Nat) = (0 : Nat) ∧
  ((1 : Nat) = (1 : Nat) ∧ false = false ∧ ((0 : Nat) < (4 : Nat) ∧ ([] : List Nat) = [] ∧ true = true) ∧ True) ∧
  (false = false ∧ ((1 : Nat) < (2 : Nat) ∧ Sk.arr (4 : Nat) = Sk.arr (4 : Nat)) ∧ True) ∧
  (true = true ∧
  Sk.st [Sk.arr (4 : Nat), Sk.arr (4 : Nat)] = Sk.st [Sk.arr (4 : Nat), Sk.arr (4 : Nat)] ∧
  Sk.st [Sk.arr (4 : Nat), Sk.arr (4 : Nat)] = Sk.st [Sk.arr (4 : Nat), Sk.arr (4 : Nat)] ∧
  true = true ∧
  true = true ∧ (IntKind.u64 = IntKind.u64 ∧ IntKind.u64 = IntKind.u64 ∧ (4 : Nat) = (4 : Nat) ∧ (4 : Nat) = (4 : Nat) ∧ (1 : Nat) = (1 : Nat)) ∧ true = true ∧ true = true ∧ (IntKind.u64 = IntKind.u64 ∧ IntKind.u64 = IntKind.u64 ∧ (4 : Nat) = (4 : Nat) ∧ (4 : Nat) = (4 : Nat) ∧ (1 : Nat) = (1 : Nat)) ∧ True) ∧
  True ∧
  True ∧
  match !(eqB [(0 : Int), (0 : Int), (0 : Int), (0 : Int)] [(0 : Int), (0 : Int), (0 : Int), (0 : Int)] && (eqB [(1 : Int), (0 : Int), (0 : Int), (0 : Int)] [(1 : Int), (0 : Int), (0 : Int), (0 : Int)] && true)) with
  | true => True ∧ True ∧ (false = false ∧ True) ∧ D.val (Value.bool false) = F
  | false =>
   (0 : Nat) = (0 : Nat) ∧
   (0 : Nat) = (0 : Nat) ∧
   (∃ (a : List Int), ∃ (b : List Int), ∃ (c : List Int), [D.st [D.arr IntKind.i64 (16 : Nat) bxF, D.arr IntKind.i64 (16 : Nat) byF, D.arr IntKind.i64 (16 : Nat) oneF]] = [D.st [D.arr IntKind.i64 (16 : Nat) a, D.arr IntKind.i64 (16 : Nat) b, D.arr IntKind.i64 (16 : Nat) c]] ∧ isF a ∧ isF b ∧ isF c) ∧
   (true = true ∧
   Sk.st [Sk.arr (4 : Nat), Sk.arr (4 : Nat)] = Sk.st [Sk.arr (4 : Nat), Sk.arr (4 : Nat)] ∧
   Sk.st [Sk.arr (4 : Nat), Sk.arr (4 : Nat)] = Sk.st [Sk.arr (4 : Nat), Sk.arr (4 : Nat)] ∧
   true = true ∧
   true = true ∧
   (IntKind.u64 = IntKind.u64 ∧ IntKind.u64 = IntKind.u64 ∧ (4 : Nat) = (4 : Nat) ∧ (4 : Nat) = (4 : Nat) ∧ (1 : Nat) = (1 : Nat)) ∧ true = true ∧ true = true ∧ (IntKind.u64 = IntKind.u64 ∧ IntKind.u64 = IntKind.u64 ∧ (4 : Nat) = (4 : Nat) ∧ (4 : Nat) = (4 : Nat) ∧ (1 : Nat) = (1 : Nat)) ∧ True) ∧
   True ∧
   match !(eqB bxL (nB (18446744073709551616 : Nat) (4 : Nat) (aff (vB (65536 : Nat) bxF) (vB (65536 : Nat) oneF))) && (eqB byL (nB (18446744073709551616 : Nat) (4 : Nat) (aff (vB (65536 : Nat) byF) (vB (65536 : Nat) oneF))) && true)) with
   | true => True ∧ (false = false ∧ True) ∧ D.val (Value.bool false) = F
   | false =>
    True ∧
    True ∧
    True ∧
    match !onB (vB (18446744073709551616 : Nat) l) (vB (18446744073709551616 : Nat) m) with
    | true =>
     ((8 : Nat) ≠ (0 : Nat) ∧ (8 : Nat) = (8 : Nat) ∧ true = true) ∧
     True ∧
     (true = true ∧
     Sk.st [Sk.arr (4 : Nat), Sk.arr (4 : Nat)] = Sk.st [Sk.arr (4 : Nat), Sk.arr (4 : Nat)] ∧
     Sk.st [Sk.arr (4 : Nat), Sk.arr (4 : Nat)] = Sk.st [Sk.arr (4 : Nat), Sk.arr (4 : Nat)] ∧
     true = true ∧
     true = true ∧
     (IntKind.u64 = IntKind.u64 ∧ IntKind.u64 = IntKind.u64 ∧ (4 : Nat) = (4 : Nat) ∧ (4 : Nat) = (4 : Nat) ∧ (1 : Nat) = (1 : Nat)) ∧
     true = true ∧ true = true ∧ (IntKind.u64 = IntKind.u64 ∧ IntKind.u64 = IntKind.u64 ∧ (4 : Nat) = (4 : Nat) ∧ (4 : Nat) = (4 : Nat) ∧ (1 : Nat) = (1 : Nat)) ∧ True) ∧
     True ∧
     match
     !(eqB (nB (18446744073709551616 : Nat) (4 : Nat) (ngX (vB (18446744073709551616 : Nat) l) (vB (18446744073709551616 : Nat) m))) [(0 : Int), (0 : Int), (0 : Int), (0 : Int)] &&
     (eqB (nB (18446744073709551616 : Nat) (4 : Nat) (ngY (vB (18446744073709551616 : Nat) l) (vB (18446744073709551616 : Nat) m))) [(0 : Int), (0 : Int), (0 : Int), (0 : Int)] && true)) with
     | true => True ∧ True ∧ True ∧ (false = false ∧ True) ∧ D.val (Value.bool false) = F
     | false =>
      True ∧
      True ∧
      True ∧
      True ∧
      match ngO (vB (18446744073709551616 : Nat) l) (vB (18446744073709551616 : Nat) m) != (1 : Int) with
      | true => True ∧ (false = false ∧ True) ∧ D.val (Value.bool false) = F
      | false =>
       True ∧
       True ∧
       match onB (vB (18446744073709551616 : Nat) l) (vB (18446744073709551616 : Nat) m) with
       | true =>
        True ∧
        True ∧
        True ∧
        match ngO (vB (18446744073709551616 : Nat) l) (vB (18446744073709551616 : Nat) m) != (0 : Int) with
        | true => True ∧ True ∧ True ∧ True ∧ True ∧ (false = false ∧ True) ∧ D.val (Value.bool false) = F
        | false =>
         (Sk.st [Sk.arr (4 : Nat), Sk.arr (4 : Nat)] = Sk.st [Sk.arr (4 : Nat), Sk.arr (4 : Nat)] ∧ (1 : Nat) < (2 : Nat)) ∧
         ((4 : Nat) ≠ (0 : Nat) ∧ (4 : Nat) = (4 : Nat) ∧ true = true) ∧
         (Sk.st [Sk.arr (4 : Nat), Sk.arr (4 : Nat)] = Sk.st [Sk.arr (4 : Nat), Sk.arr (4 : Nat)] ∧ (1 : Nat) < (2 : Nat)) ∧
         ((4 : Nat) ≠ (0 : Nat) ∧ (4 : Nat) = (4 : Nat) ∧ true = true) ∧
         (IntKind.u64 = IntKind.u64 ∧ IntKind.u64 = IntKind.u64 ∧ (4 : Nat) = (4 : Nat) ∧ (4 : Nat) = (4 : Nat) ∧ (1 : Nat) = (1 : Nat)) ∧
         True ∧
         True ∧
         match !eqB (nB (18446744073709551616 : Nat) (4 : Nat) (ngY (vB (18446744073709551616 : Nat) l) (vB (18446744073709551616 : Nat) m))) m with
         | true => True ∧ True ∧ True ∧ (false = false ∧ True) ∧ D.val (Value.bool false) = F
         | false =>
          (Sk.st [Sk.arr (4 : Nat), Sk.arr (4 : Nat)] = Sk.st [Sk.arr (4 : Nat), Sk.arr (4 : Nat)] ∧ (0 : Nat) < (2 : Nat)) ∧
          ((4 : Nat) ≠ (0 : Nat) ∧ (4 : Nat) = (4 : Nat) ∧ true = true) ∧
          ((1 : Nat) = (1 : Nat) ∧ True) ∧
          (Sk.st [Sk.arr (4 : Nat), Sk.arr (4 : Nat)] = Sk.st [Sk.arr (4 : Nat), Sk.arr (4 : Nat)] ∧ (0 : Nat) < (2 : Nat)) ∧
          ((4 : Nat) ≠ (0 : Nat) ∧ (4 : Nat) = (4 : Nat) ∧ true = true) ∧
          (∃ (l_1 : List Int), [D.arr IntKind.u64 (4 : Nat) l] = [D.arr IntKind.u64 (4 : Nat) l_1] ∧ isN l_1) ∧
          (∃ (l_1 : List Int),
          ∃ (m : List Int),
          [D.arr IntKind.i64 (16 : Nat) [(0 : Int), (0 : Int), (0 : Int), (0 : Int), (0 : Int), (0 : Int), (0 : Int), (0 : Int), (0 : Int), (0 : Int), (0 : Int), (0 : Int), (0 : Int), (0 : Int), (0 : Int), (0 : Int)],
          D.arr IntKind.i64 (16 : Nat) (nB (65536 : Nat) (16 : Nat) (vB (18446744073709551616 : Nat) l % FP))] =
          [D.arr IntKind.i64 (16 : Nat) l_1, D.arr IntKind.i64 (16 : Nat) m] ∧
          isF l_1 ∧ isF m) ∧
          (∃ (l_1 : List Int),
          [D.arr IntKind.i64 (16 : Nat)
          (nB (65536 : Nat) (16 : Nat)
          (fsb (vB (65536 : Nat) [(0 : Int), (0 : Int), (0 : Int), (0 : Int), (0 : Int), (0 : Int), (0 : Int), (0 : Int), (0 : Int), (0 : Int), (0 : Int), (0 : Int), (0 : Int), (0 : Int), (0 : Int), (0 : Int)])
          (vB (65536 : Nat) (nB (65536 : Nat) (16 : Nat) (vB (18446744073709551616 : Nat) l % FP)))))] =
          [D.arr IntKind.i64 (16 : Nat) l_1] ∧
          isF l_1) ∧
          (IntKind.u64 = IntKind.u64 ∧ IntKind.u64 = IntKind.u64 ∧ (4 : Nat) = (4 : Nat) ∧ (4 : Nat) = (4 : Nat) ∧ (1 : Nat) = (1 : Nat)) ∧
          True ∧
          True ∧
          match
          !eqB (nB (18446744073709551616 : Nat) (4 : Nat) (ngX (vB (18446744073709551616 : Nat) l) (vB (18446744073709551616 : Nat) m)))
          (nB (18446744073709551616 : Nat) (4 : Nat)
          (vB (65536 : Nat)
          (nB (65536 : Nat) (16 : Nat)
          (fsb (vB (65536 : Nat) [(0 : Int), (0 : Int), (0 : Int), (0 : Int), (0 : Int), (0 : Int), (0 : Int), (0 : Int), (0 : Int), (0 : Int), (0 : Int), (0 : Int), (0 : Int), (0 : Int), (0 : Int), (0 : Int)])
          (vB (65536 : Nat) (nB (65536 : Nat) (16 : Nat) (vB (18446744073709551616 : Nat) l % FP))))))) with
          | true => True ∧ (false = false ∧ True) ∧ D.val (Value.bool false) = F
          | false =>
           True ∧
           True ∧
           True ∧
           match !onB (vB (18446744073709551616 : Nat) l) (vB (18446744073709551616 : Nat) m) with
           | true =>
            True ∧
            ((8 : Nat) ≠ (0 : Nat) ∧ (8 : Nat) = (8 : Nat) ∧ true = true) ∧
            True ∧
            (true = true ∧
            Sk.st [Sk.arr (4 : Nat), Sk.arr (4 : Nat)] = Sk.st [Sk.arr (4 : Nat), Sk.arr (4 : Nat)] ∧
            Sk.st [Sk.arr (4 : Nat), Sk.arr (4 : Nat)] = Sk.st [Sk.arr (4 : Nat), Sk.arr (4 : Nat)] ∧
            true = true ∧
            true = true ∧
            (IntKind.u64 = IntKind.u64 ∧ IntKind.u64 = IntKind.u64 ∧ (4 : Nat) = (4 : Nat) ∧ (4 : Nat) = (4 : Nat) ∧ (1 : Nat) = (1 : Nat)) ∧
            true = true ∧ true = true ∧ (IntKind.u64 = IntKind.u64 ∧ IntKind.u64 = IntKind.u64 ∧ (4 : Nat) = (4 : Nat) ∧ (4 : Nat) = (4 : Nat) ∧ (1 : Nat) = (1 : Nat)) ∧ True) ∧
            True ∧
            match
            eqB (nB (18446744073709551616 : Nat) (4 : Nat) (adX (vB (18446744073709551616 : Nat) l) (vB (18446744073709551616 : Nat) m) (vB (18446744073709551616 : Nat) l') (vB (18446744073709551616 : Nat) m')))
            [(0 : Int), (0 : Int), (0 : Int), (0 : Int)] &&
            (eqB (nB (18446744073709551616 : Nat) (4 : Nat) (adY (vB (18446744073709551616 : Nat) l) (vB (18446744073709551616 : Nat) m) (vB (18446744073709551616 : Nat) l') (vB (18446744073709551616 : Nat) m')))
            [(0 : Int), (0 : Int), (0 : Int), (0 : Int)] &&
            true) with
            | true =>
             True ∧
             True ∧
             True ∧
             True ∧
             (false = false ∧ True) ∧
             D.val (Value.bool (adO (vB (18446744073709551616 : Nat) l) (vB (18446744073709551616 : Nat) m) (vB (18446744073709551616 : Nat) l') (vB (18446744073709551616 : Nat) m') == (1 : Int))) = F
            | false => True ∧ True ∧ (false = false ∧ True) ∧ D.val (Value.bool false) = F
           | false =>
            True ∧
            True ∧
            True ∧
            match !onB (vB (18446744073709551616 : Nat) l') (vB (18446744073709551616 : Nat) m') with
            | true =>
             ((8 : Nat) ≠ (0 : Nat) ∧ (8 : Nat) = (8 : Nat) ∧ true = true) ∧
             True ∧
             (true = true ∧
             Sk.st [Sk.arr (4 : Nat), Sk.arr (4 : Nat)] = Sk.st [Sk.arr (4 : Nat), Sk.arr (4 : Nat)] ∧
             Sk.st [Sk.arr (4 : Nat), Sk.arr (4 : Nat)] = Sk.st [Sk.arr (4 : Nat), Sk.arr (4 : Nat)] ∧
             true = true ∧
             true = true ∧
             (IntKind.u64 = IntKind.u64 ∧ IntKind.u64 = IntKind.u64 ∧ (4 : Nat) = (4 : Nat) ∧ (4 : Nat) = (4 : Nat) ∧ (1 : Nat) = (1 : Nat)) ∧
             true = true ∧ true = true ∧ (IntKind.u64 = IntKind.u64 ∧ IntKind.u64 = IntKind.u64 ∧ (4 : Nat) = (4 : Nat) ∧ (4 : Nat) = (4 : Nat) ∧ (1 : Nat) = (1 : Nat)) ∧ True) ∧
             True ∧
             match
             eqB (nB (18446744073709551616 : Nat) (4 : Nat) (adX (vB (18446744073709551616 : Nat) l) (vB (18446744073709551616 : Nat) m) (vB (18446744073709551616 : Nat) l') (vB (18446744073709551616 : Nat) m')))
             [(0 : Int), (0 : Int), (0 : Int), (0 : Int)] &&
             (eqB
             (nB (18446744073709551616 : Nat) (4 : Nat)
             (adY (vB (18446744073709551616 : Nat) l) (vB (18446744073709551616 : Nat) m) (vB (18446744073709551616 : Nat) l') (vB (18446744073709551616 : Nat) m')))
             [(0 : Int), (0 : Int), (0 : Int), (0 : Int)] &&
             true) with
             | true =>
              True ∧
              True ∧
              True ∧
              True ∧
              (false = false ∧ True) ∧
              D.val (Value.bool (adO (vB (18446744073709551616 : Nat) l) (vB (18446744073709551616 : Nat) m) (vB (18446744073709551616 : Nat) l') (vB (18446744073709551616 : Nat) m') == (1 : Int))) = F
             | false => True ∧ True ∧ (false = false ∧ True) ∧ D.val (Value.bool false) = F
            | false =>
             True ∧
             True ∧
             True ∧
             match adO (vB (18446744073709551616 : Nat) l) (vB (18446744073709551616 : Nat) m) (vB (18446744073709551616 : Nat) l') (vB (18446744073709551616 : Nat) m') == (0 : Int) with
             | true =>
              ((8 : Nat) ≠ (0 : Nat) ∧ (8 : Nat) = (8 : Nat) ∧ true = true) ∧
              ((8 : Nat) ≠ (0 : Nat) ∧ (8 : Nat) = (8 : Nat) ∧ true = true) ∧
              (∃ (l_1 : List Int),
              ∃ (m_1 : List Int), [D.st [D.arr IntKind.u64 (4 : Nat) l, D.arr IntKind.u64 (4 : Nat) m]] = [D.st [D.arr IntKind.u64 (4 : Nat) l_1, D.arr IntKind.u64 (4 : Nat) m_1]] ∧ isN l_1 ∧ isN m_1) ∧
              ((8 : Nat) ≠ (0 : Nat) ∧ (8 : Nat) = (8 : Nat) ∧ true = true) ∧
              (∃ (l : List Int),
              ∃ (m : List Int), [D.st [D.arr IntKind.u64 (4 : Nat) l', D.arr IntKind.u64 (4 : Nat) m']] = [D.st [D.arr IntKind.u64 (4 : Nat) l, D.arr IntKind.u64 (4 : Nat) m]] ∧ isN l ∧ isN m) ∧
              (∃ (a : List Int),
              ∃ (b : List Int),
              ∃ (c : List Int),
              ∃ (a' : List Int),
              ∃ (b' : List Int),
              ∃ (c' : List Int),
              [D.st
              [D.arr IntKind.i64 (16 : Nat) (nB (65536 : Nat) (16 : Nat) (vB (18446744073709551616 : Nat) l % FP)),
              D.arr IntKind.i64 (16 : Nat) (nB (65536 : Nat) (16 : Nat) (vB (18446744073709551616 : Nat) m % FP)), D.arr IntKind.i64 (16 : Nat) oneF],
              D.st
              [D.arr IntKind.i64 (16 : Nat) (nB (65536 : Nat) (16 : Nat) (vB (18446744073709551616 : Nat) l' % FP)),
              D.arr IntKind.i64 (16 : Nat) (nB (65536 : Nat) (16 : Nat) (vB (18446744073709551616 : Nat) m' % FP)), D.arr IntKind.i64 (16 : Nat) oneF]] =
              [D.st [D.arr IntKind.i64 (16 : Nat) a, D.arr IntKind.i64 (16 : Nat) b, D.arr IntKind.i64 (16 : Nat) c],
              D.st [D.arr IntKind.i64 (16 : Nat) a', D.arr IntKind.i64 (16 : Nat) b', D.arr IntKind.i64 (16 : Nat) c']] ∧
              (isF a ∧ isF b ∧ isF c) ∧ isF a' ∧ isF b' ∧ isF c') ∧
              (∃ (a : List Int),
              ∃ (b : List Int),
              ∃ (c : List Int),
              [D.st
              [D.arr IntKind.i64 (16 : Nat)
              (nB (65536 : Nat) (16 : Nat)
              (rX (vB (65536 : Nat) (nB (65536 : Nat) (16 : Nat) (vB (18446744073709551616 : Nat) l % FP)))
              (vB (65536 : Nat) (nB (65536 : Nat) (16 : Nat) (vB (18446744073709551616 : Nat) m % FP))) (vB (65536 : Nat) oneF)
              (vB (65536 : Nat) (nB (65536 : Nat) (16 : Nat) (vB (18446744073709551616 : Nat) l' % FP)))
              (vB (65536 : Nat) (nB (65536 : Nat) (16 : Nat) (vB (18446744073709551616 : Nat) m' % FP))) (vB (65536 : Nat) oneF))),
              D.arr IntKind.i64 (16 : Nat)
              (nB (65536 : Nat) (16 : Nat)
              (rY (vB (65536 : Nat) (nB (65536 : Nat) (16 : Nat) (vB (18446744073709551616 : Nat) l % FP)))
              (vB (65536 : Nat) (nB (65536 : Nat) (16 : Nat) (vB (18446744073709551616 : Nat) m % FP))) (vB (65536 : Nat) oneF)
              (vB (65536 : Nat) (nB (65536 : Nat) (16 : Nat) (vB (18446744073709551616 : Nat) l' % FP)))
              (vB (65536 : Nat) (nB (65536 : Nat) (16 : Nat) (vB (18446744073709551616 : Nat) m' % FP))) (vB (65536 : Nat) oneF))),
              D.arr IntKind.i64 (16 : Nat)
              (nB (65536 : Nat) (16 : Nat)
              (rZ (vB (65536 : Nat) (nB (65536 : Nat) (16 : Nat) (vB (18446744073709551616 : Nat) l % FP)))
              (vB (65536 : Nat) (nB (65536 : Nat) (16 : Nat) (vB (18446744073709551616 : Nat) m % FP))) (vB (65536 : Nat) oneF)
              (vB (65536 : Nat) (nB (65536 : Nat) (16 : Nat) (vB (18446744073709551616 : Nat) l' % FP)))
              (vB (65536 : Nat) (nB (65536 : Nat) (16 : Nat) (vB (18446744073709551616 : Nat) m' % FP))) (vB (65536 : Nat) oneF)))]] =
              [D.st [D.arr IntKind.i64 (16 : Nat) a, D.arr IntKind.i64 (16 : Nat) b, D.arr IntKind.i64 (16 : Nat) c]] ∧
              isF a ∧ isF b ∧ isF c) ∧
              (true = true ∧
              Sk.st [Sk.arr (4 : Nat), Sk.arr (4 : Nat)] = Sk.st [Sk.arr (4 : Nat), Sk.arr (4 : Nat)] ∧
              Sk.st [Sk.arr (4 : Nat), Sk.arr (4 : Nat)] = Sk.st [Sk.arr (4 : Nat), Sk.arr (4 : Nat)] ∧
              true = true ∧
              true = true ∧
              (IntKind.u64 = IntKind.u64 ∧ IntKind.u64 = IntKind.u64 ∧ (4 : Nat) = (4 : Nat) ∧ (4 : Nat) = (4 : Nat) ∧ (1 : Nat) = (1 : Nat)) ∧
              true = true ∧ true = true ∧ (IntKind.u64 = IntKind.u64 ∧ IntKind.u64 = IntKind.u64 ∧ (4 : Nat) = (4 : Nat) ∧ (4 : Nat) = (4 : Nat) ∧ (1 : Nat) = (1 : Nat)) ∧ True) ∧
              True ∧
              True ∧
              (false = false ∧ True) ∧
              D.val
              (Value.bool
              (eqB
              (nB (18446744073709551616 : Nat) (4 : Nat)
              (adX (vB (18446744073709551616 : Nat) l) (vB (18446744073709551616 : Nat) m) (vB (18446744073709551616 : Nat) l') (vB (18446744073709551616 : Nat) m')))
              (nB (18446744073709551616 : Nat) (4 : Nat)
              (aff
              (vB (65536 : Nat)
              (nB (65536 : Nat) (16 : Nat)
              (rX (vB (65536 : Nat) (nB (65536 : Nat) (16 : Nat) (vB (18446744073709551616 : Nat) l % FP)))
              (vB (65536 : Nat) (nB (65536 : Nat) (16 : Nat) (vB (18446744073709551616 : Nat) m % FP))) (vB (65536 : Nat) oneF)
              (vB (65536 : Nat) (nB (65536 : Nat) (16 : Nat) (vB (18446744073709551616 : Nat) l' % FP)))
              (vB (65536 : Nat) (nB (65536 : Nat) (16 : Nat) (vB (18446744073709551616 : Nat) m' % FP))) (vB (65536 : Nat) oneF))))
              (vB (65536 : Nat)
              (nB (65536 : Nat) (16 : Nat)
              (rZ (vB (65536 : Nat) (nB (65536 : Nat) (16 : Nat) (vB (18446744073709551616 : Nat) l % FP)))
              (vB (65536 : Nat) (nB (65536 : Nat) (16 : Nat) (vB (18446744073709551616 : Nat) m % FP))) (vB (65536 : Nat) oneF)
              (vB (65536 : Nat) (nB (65536 : Nat) (16 : Nat) (vB (18446744073709551616 : Nat) l' % FP)))
              (vB (65536 : Nat) (nB (65536 : Nat) (16 : Nat) (vB (18446744073709551616 : Nat) m' % FP))) (vB (65536 : Nat) oneF)))))) &&
              (eqB
              (nB (18446744073709551616 : Nat) (4 : Nat)
              (adY (vB (18446744073709551616 : Nat) l) (vB (18446744073709551616 : Nat) m) (vB (18446744073709551616 : Nat) l') (vB (18446744073709551616 : Nat) m')))
              (nB (18446744073709551616 : Nat) (4 : Nat)
              (aff
              (vB (65536 : Nat)
              (nB (65536 : Nat) (16 : Nat)
              (rY (vB (65536 : Nat) (nB (65536 : Nat) (16 : Nat) (vB (18446744073709551616 : Nat) l % FP)))
              (vB (65536 : Nat) (nB (65536 : Nat) (16 : Nat) (vB (18446744073709551616 : Nat) m % FP))) (vB (65536 : Nat) oneF)
              (vB (65536 : Nat) (nB (65536 : Nat) (16 : Nat) (vB (18446744073709551616 : Nat) l' % FP)))
              (vB (65536 : Nat) (nB (65536 : Nat) (16 : Nat) (vB (18446744073709551616 : Nat) m' % FP))) (vB (65536 : Nat) oneF))))
              (vB (65536 : Nat)
              (nB (65536 : Nat) (16 : Nat)
              (rZ (vB (65536 : Nat) (nB (65536 : Nat) (16 : Nat) (vB (18446744073709551616 : Nat) l % FP)))
              (vB (65536 : Nat) (nB (65536 : Nat) (16 : Nat) (vB (18446744073709551616 : Nat) m % FP))) (vB (65536 : Nat) oneF)
              (vB (65536 : Nat) (nB (65536 : Nat) (16 : Nat) (vB (18446744073709551616 : Nat) l' % FP)))
              (vB (65536 : Nat) (nB (65536 : Nat) (16 : Nat) (vB (18446744073709551616 : Nat) m' % FP))) (vB (65536 : Nat) oneF)))))) &&
              true))) =
              F
             | false => True ∧ True ∧ (false = false ∧ True) ∧ D.val (Value.bool false) = F
       | false =>
        True ∧
        True ∧
        True ∧
        True ∧
        match !onB (vB (18446744073709551616 : Nat) l) (vB (18446744073709551616 : Nat) m) with
        | true =>
         True ∧
         ((8 : Nat) ≠ (0 : Nat) ∧ (8 : Nat) = (8 : Nat) ∧ true = true) ∧
         True ∧
         (true = true ∧
         Sk.st [Sk.arr (4 : Nat), Sk.arr (4 : Nat)] = Sk.st [Sk.arr (4 : Nat), Sk.arr (4 : Nat)] ∧
         Sk.st [Sk.arr (4 : Nat), Sk.arr (4 : Nat)] = Sk.st [Sk.arr (4 : Nat), Sk.arr (4 : Nat)] ∧
         true = true ∧
         true = true ∧
         (IntKind.u64 = IntKind.u64 ∧ IntKind.u64 = IntKind.u64 ∧ (4 : Nat) = (4 : Nat) ∧ (4 : Nat) = (4 : Nat) ∧ (1 : Nat) = (1 : Nat)) ∧
         true = true ∧ true = true ∧ (IntKind.u64 = IntKind.u64 ∧ IntKind.u64 = IntKind.u64 ∧ (4 : Nat) = (4 : Nat) ∧ (4 : Nat) = (4 : Nat) ∧ (1 : Nat) = (1 : Nat)) ∧ True) ∧
         True ∧
         match
         eqB (nB (18446744073709551616 : Nat) (4 : Nat) (adX (vB (18446744073709551616 : Nat) l) (vB (18446744073709551616 : Nat) m) (vB (18446744073709551616 : Nat) l') (vB (18446744073709551616 : Nat) m'))) [(0 : Int), (0 : Int), (0 : Int), (0 : Int)] &&
         (eqB (nB (18446744073709551616 : Nat) (4 : Nat) (adY (vB (18446744073709551616 : Nat) l) (vB (18446744073709551616 : Nat) m) (vB (18446744073709551616 : Nat) l') (vB (18446744073709551616 : Nat) m'))) [(0 : Int), (0 : Int), (0 : Int), (0 : Int)] &&
         true) with
         | true => True ∧ True ∧ True ∧ True ∧ (false = false ∧ True) ∧ D.val (Value.bool (adO (vB (18446744073709551616 : Nat) l) (vB (18446744073709551616 : Nat) m) (vB (18446744073709551616 : Nat) l') (vB (18446744073709551616 : Nat) m') == (1 : Int))) = F
         | false => True ∧ True ∧ (false = false ∧ True) ∧ D.val (Value.bool false) = F
        | false =>
         True ∧
         True ∧
         True ∧
         match !onB (vB (18446744073709551616 : Nat) l') (vB (18446744073709551616 : Nat) m') with
         | true =>
          ((8 : Nat) ≠ (0 : Nat) ∧ (8 : Nat) = (8 : Nat) ∧ true = true) ∧
          True ∧
          (true = true ∧
          Sk.st [Sk.arr (4 : Nat), Sk.arr (4 : Nat)] = Sk.st [Sk.arr (4 : Nat), Sk.arr (4 : Nat)] ∧
          Sk.st [Sk.arr (4 : Nat), Sk.arr (4 : Nat)] = Sk.st [Sk.arr (4 : Nat), Sk.arr (4 : Nat)] ∧
          true = true ∧
          true = true ∧
          (IntKind.u64 = IntKind.u64 ∧ IntKind.u64 = IntKind.u64 ∧ (4 : Nat) = (4 : Nat) ∧ (4 : Nat) = (4 : Nat) ∧ (1 : Nat) = (1 : Nat)) ∧
          true = true ∧ true = true ∧ (IntKind.u64 = IntKind.u64 ∧ IntKind.u64 = IntKind.u64 ∧ (4 : Nat) = (4 : Nat) ∧ (4 : Nat) = (4 : Nat) ∧ (1 : Nat) = (1 : Nat)) ∧ True) ∧
          True ∧
          match
          eqB (nB (18446744073709551616 : Nat) (4 : Nat) (adX (vB (18446744073709551616 : Nat) l) (vB (18446744073709551616 : Nat) m) (vB (18446744073709551616 : Nat) l') (vB (18446744073709551616 : Nat) m')))
          [(0 : Int), (0 : Int), (0 : Int), (0 : Int)] &&
          (eqB (nB (18446744073709551616 : Nat) (4 : Nat) (adY (vB (18446744073709551616 : Nat) l) (vB (18446744073709551616 : Nat) m) (vB (18446744073709551616 : Nat) l') (vB (18446744073709551616 : Nat) m')))
          [(0 : Int), (0 : Int), (0 : Int), (0 : Int)] &&
          true) with
          | true =>
           True ∧ True ∧ True ∧ True ∧ (false = false ∧ True) ∧ D.val (Value.bool (adO (vB (18446744073709551616 : Nat) l) (vB (18446744073709551616 : Nat) m) (vB (18446744073709551616 : Nat) l') (vB (18446744073709551616 : Nat) m') == (1 : Int))) = F
          | false => True ∧ True ∧ (false = false ∧ True) ∧ D.val (Value.bool false) = F
         | false =>
          True ∧
          True ∧
          True ∧
          match adO (vB (18446744073709551616 : Nat) l) (vB (18446744073709551616 : Nat) m) (vB (18446744073709551616 : Nat) l') (vB (18446744073709551616 : Nat) m') == (0 : Int) with
          | true =>
           ((8 : Nat) ≠ (0 : Nat) ∧ (8 : Nat) = (8 : Nat) ∧ true = true) ∧
           ((8 : Nat) ≠ (0 : Nat) ∧ (8 : Nat) = (8 : Nat) ∧ true = true) ∧
           (∃ (l_1 : List Int), ∃ (m_1 : List Int), [D.st [D.arr IntKind.u64 (4 : Nat) l, D.arr IntKind.u64 (4 : Nat) m]] = [D.st [D.arr IntKind.u64 (4 : Nat) l_1, D.arr IntKind.u64 (4 : Nat) m_1]] ∧ isN l_1 ∧ isN m_1) ∧
           ((8 : Nat) ≠ (0 : Nat) ∧ (8 : Nat) = (8 : Nat) ∧ true = true) ∧
           (∃ (l : List Int), ∃ (m : List Int), [D.st [D.arr IntKind.u64 (4 : Nat) l', D.arr IntKind.u64 (4 : Nat) m']] = [D.st [D.arr IntKind.u64 (4 : Nat) l, D.arr IntKind.u64 (4 : Nat) m]] ∧ isN l ∧ isN m) ∧
           (∃ (a : List Int),
           ∃ (b : List Int),
           ∃ (c : List Int),
           ∃ (a' : List Int),
           ∃ (b' : List Int),
           ∃ (c' : List Int),
           [D.st
           [D.arr IntKind.i64 (16 : Nat) (nB (65536 : Nat) (16 : Nat) (vB (18446744073709551616 : Nat) l % FP)), D.arr IntKind.i64 (16 : Nat) (nB (65536 : Nat) (16 : Nat) (vB (18446744073709551616 : Nat) m % FP)),
           D.arr IntKind.i64 (16 : Nat) oneF],
           D.st
           [D.arr IntKind.i64 (16 : Nat) (nB (65536 : Nat) (16 : Nat) (vB (18446744073709551616 : Nat) l' % FP)), D.arr IntKind.i64 (16 : Nat) (nB (65536 : Nat) (16 : Nat) (vB (18446744073709551616 : Nat) m' % FP)),
           D.arr IntKind.i64 (16 : Nat) oneF]] =
           [D.st [D.arr IntKind.i64 (16 : Nat) a, D.arr IntKind.i64 (16 : Nat) b, D.arr IntKind.i64 (16 : Nat) c], D.st [D.arr IntKind.i64 (16 : Nat) a', D.arr IntKind.i64 (16 : Nat) b', D.arr IntKind.i64 (16 : Nat) c']] ∧
           (isF a ∧ isF b ∧ isF c) ∧ isF a' ∧ isF b' ∧ isF c') ∧
           (∃ (a : List Int),
           ∃ (b : List Int),
           ∃ (c : List Int),
           [D.st
           [D.arr IntKind.i64 (16 : Nat)
           (nB (65536 : Nat) (16 : Nat)
           (rX (vB (65536 : Nat) (nB (65536 : Nat) (16 : Nat) (vB (18446744073709551616 : Nat) l % FP))) (vB (65536 : Nat) (nB (65536 : Nat) (16 : Nat) (vB (18446744073709551616 : Nat) m % FP))) (vB (65536 : Nat) oneF)
           (vB (65536 : Nat) (nB (65536 : Nat) (16 : Nat) (vB (18446744073709551616 : Nat) l' % FP))) (vB (65536 : Nat) (nB (65536 : Nat) (16 : Nat) (vB (18446744073709551616 : Nat) m' % FP))) (vB (65536 : Nat) oneF))),
           D.arr IntKind.i64 (16 : Nat)
           (nB (65536 : Nat) (16 : Nat)
           (rY (vB (65536 : Nat) (nB (65536 : Nat) (16 : Nat) (vB (18446744073709551616 : Nat) l % FP))) (vB (65536 : Nat) (nB (65536 : Nat) (16 : Nat) (vB (18446744073709551616 : Nat) m % FP))) (vB (65536 : Nat) oneF)
           (vB (65536 : Nat) (nB (65536 : Nat) (16 : Nat) (vB (18446744073709551616 : Nat) l' % FP))) (vB (65536 : Nat) (nB (65536 : Nat) (16 : Nat) (vB (18446744073709551616 : Nat) m' % FP))) (vB (65536 : Nat) oneF))),
           D.arr IntKind.i64 (16 : Nat)
           (nB (65536 : Nat) (16 : Nat)
           (rZ (vB (65536 : Nat) (nB (65536 : Nat) (16 : Nat) (vB (18446744073709551616 : Nat) l % FP))) (vB (65536 : Nat) (nB (65536 : Nat) (16 : Nat) (vB (18446744073709551616 : Nat) m % FP))) (vB (65536 : Nat) oneF)
           (vB (65536 : Nat) (nB (65536 : Nat) (16 : Nat) (vB (18446744073709551616 : Nat) l' % FP))) (vB (65536 : Nat) (nB (65536 : Nat) (16 : Nat) (vB (18446744073709551616 : Nat) m' % FP))) (vB (65536 : Nat) oneF)))]] =
           [D.st [D.arr IntKind.i64 (16 : Nat) a, D.arr IntKind.i64 (16 : Nat) b, D.arr IntKind.i64 (16 : Nat) c]] ∧
           isF a ∧ isF b ∧ isF c) ∧
           (true = true ∧
           Sk.st [Sk.arr (4 : Nat), Sk.arr (4 : Nat)] = Sk.st [Sk.arr (4 : Nat), Sk.arr (4 : Nat)] ∧
           Sk.st [Sk.arr (4 : Nat), Sk.arr (4 : Nat)] = Sk.st [Sk.arr (4 : Nat), Sk.arr (4 : Nat)] ∧
           true = true ∧
           true = true ∧
           (IntKind.u64 = IntKind.u64 ∧ IntKind.u64 = IntKind.u64 ∧ (4 : Nat) = (4 : Nat) ∧ (4 : Nat) = (4 : Nat) ∧ (1 : Nat) = (1 : Nat)) ∧
           true = true ∧ true = true ∧ (IntKind.u64 = IntKind.u64 ∧ IntKind.u64 = IntKind.u64 ∧ (4 : Nat) = (4 : Nat) ∧ (4 : Nat) = (4 : Nat) ∧ (1 : Nat) = (1 : Nat)) ∧ True) ∧
           True ∧
           True ∧
           (false = false ∧ True) ∧
           D.val
           (Value.bool
           (eqB (nB (18446744073709551616 : Nat) (4 : Nat) (adX (vB (18446744073709551616 : Nat) l) (vB (18446744073709551616 : Nat) m) (vB (18446744073709551616 : Nat) l') (vB (18446744073709551616 : Nat) m')))
           (nB (18446744073709551616 : Nat) (4 : Nat)
           (aff
           (vB (65536 : Nat)
           (nB (65536 : Nat) (16 : Nat)
           (rX (vB (65536 : Nat) (nB (65536 : Nat) (16 : Nat) (vB (18446744073709551616 : Nat) l % FP))) (vB (65536 : Nat) (nB (65536 : Nat) (16 : Nat) (vB (18446744073709551616 : Nat) m % FP))) (vB (65536 : Nat) oneF)
           (vB (65536 : Nat) (nB (65536 : Nat) (16 : Nat) (vB (18446744073709551616 : Nat) l' % FP))) (vB (65536 : Nat) (nB (65536 : Nat) (16 : Nat) (vB (18446744073709551616 : Nat) m' % FP)))
           (vB (65536 : Nat) oneF))))
           (vB (65536 : Nat)
           (nB (65536 : Nat) (16 : Nat)
           (rZ (vB (65536 : Nat) (nB (65536 : Nat) (16 : Nat) (vB (18446744073709551616 : Nat) l % FP))) (vB (65536 : Nat) (nB (65536 : Nat) (16 : Nat) (vB (18446744073709551616 : Nat) m % FP))) (vB (65536 : Nat) oneF)
           (vB (65536 : Nat) (nB (65536 : Nat) (16 : Nat) (vB (18446744073709551616 : Nat) l' % FP))) (vB (65536 : Nat) (nB (65536 : Nat) (16 : Nat) (vB (18446744073709551616 : Nat) m' % FP)))
           (vB (65536 : Nat) oneF)))))) &&
           (eqB (nB (18446744073709551616 : Nat) (4 : Nat) (adY (vB (18446744073709551616 : Nat) l) (vB (18446744073709551616 : Nat) m) (vB (18446744073709551616 : Nat) l') (vB (18446744073709551616 : Nat) m')))
           (nB (18446744073709551616 : Nat) (4 : Nat)
           (aff
           (vB (65536 : Nat)
           (nB (65536 : Nat) (16 : Nat)
           (rY (vB (65536 : Nat) (nB (65536 : Nat) (16 : Nat) (vB (18446744073709551616 : Nat) l % FP))) (vB (65536 : Nat) (nB (65536 : Nat) (16 : Nat) (vB (18446744073709551616 : Nat) m % FP)))
           (vB (65536 : Nat) oneF) (vB (65536 : Nat) (nB (65536 : Nat) (16 : Nat) (vB (18446744073709551616 : Nat) l' % FP)))
           (vB (65536 : Nat) (nB (65536 : Nat) (16 : Nat) (vB (18446744073709551616 : Nat) m' % FP))) (vB (65536 : Nat) oneF))))
           (vB (65536 : Nat)
           (nB (65536 : Nat) (16 : Nat)
           (rZ (vB (65536 : Nat) (nB (65536 : Nat) (16 : Nat) (vB (18446744073709551616 : Nat) l % FP))) (vB (65536 : Nat) (nB (65536 : Nat) (16 : Nat) (vB (18446744073709551616 : Nat) m % FP)))
           (vB (65536 : Nat) oneF) (vB (65536 : Nat) (nB (65536 : Nat) (16 : Nat) (vB (18446744073709551616 : Nat) l' % FP)))
           (vB (65536 : Nat) (nB (65536 : Nat) (16 : Nat) (vB (18446744073709551616 : Nat) m' % FP))) (vB (65536 : Nat) oneF)))))) &&
           true))) =
           F
          | false => True ∧ True ∧ (false = false ∧ True) ∧ D.val (Value.bool false) = F
    | false =>
     True ∧
     True ∧
     True ∧
     match onB (vB (18446744073709551616 : Nat) l) (vB (18446744073709551616 : Nat) m) with
     | true =>
      True ∧
      True ∧
      True ∧
      match ngO (vB (18446744073709551616 : Nat) l) (vB (18446744073709551616 : Nat) m) != (0 : Int) with
      | true => True ∧ True ∧ True ∧ True ∧ True ∧ (false = false ∧ True) ∧ D.val (Value.bool false) = F
      | false =>
       (Sk.st [Sk.arr (4 : Nat), Sk.arr (4 : Nat)] = Sk.st [Sk.arr (4 : Nat), Sk.arr (4 : Nat)] ∧ (1 : Nat) < (2 : Nat)) ∧
       ((4 : Nat) ≠ (0 : Nat) ∧ (4 : Nat) = (4 : Nat) ∧ true = true) ∧
       (Sk.st [Sk.arr (4 : Nat), Sk.arr (4 : Nat)] = Sk.st [Sk.arr (4 : Nat), Sk.arr (4 : Nat)] ∧ (1 : Nat) < (2 : Nat)) ∧
       ((4 : Nat) ≠ (0 : Nat) ∧ (4 : Nat) = (4 : Nat) ∧ true = true) ∧
       (IntKind.u64 = IntKind.u64 ∧ IntKind.u64 = IntKind.u64 ∧ (4 : Nat) = (4 : Nat) ∧ (4 : Nat) = (4 : Nat) ∧ (1 : Nat) = (1 : Nat)) ∧
       True ∧
       True ∧
       match !eqB (nB (18446744073709551616 : Nat) (4 : Nat) (ngY (vB (18446744073709551616 : Nat) l) (vB (18446744073709551616 : Nat) m))) m with
       | true => True ∧ True ∧ True ∧ (false = false ∧ True) ∧ D.val (Value.bool false) = F
       | false =>
        (Sk.st [Sk.arr (4 : Nat), Sk.arr (4 : Nat)] = Sk.st [Sk.arr (4 : Nat), Sk.arr (4 : Nat)] ∧ (0 : Nat) < (2 : Nat)) ∧
        ((4 : Nat) ≠ (0 : Nat) ∧ (4 : Nat) = (4 : Nat) ∧ true = true) ∧
        ((1 : Nat) = (1 : Nat) ∧ True) ∧
        (Sk.st [Sk.arr (4 : Nat), Sk.arr (4 : Nat)] = Sk.st [Sk.arr (4 : Nat), Sk.arr (4 : Nat)] ∧ (0 : Nat) < (2 : Nat)) ∧
        ((4 : Nat) ≠ (0 : Nat) ∧ (4 : Nat) = (4 : Nat) ∧ true = true) ∧
        (∃ (l_1 : List Int), [D.arr IntKind.u64 (4 : Nat) l] = [D.arr IntKind.u64 (4 : Nat) l_1] ∧ isN l_1) ∧
        (∃ (l_1 : List Int),
        ∃ (m : List Int),
        [D.arr IntKind.i64 (16 : Nat) [(0 : Int), (0 : Int), (0 : Int), (0 : Int), (0 : Int), (0 : Int), (0 : Int), (0 : Int), (0 : Int), (0 : Int), (0 : Int), (0 : Int), (0 : Int), (0 : Int), (0 : Int), (0 : Int)],
        D.arr IntKind.i64 (16 : Nat) (nB (65536 : Nat) (16 : Nat) (vB (18446744073709551616 : Nat) l % FP))] =
        [D.arr IntKind.i64 (16 : Nat) l_1, D.arr IntKind.i64 (16 : Nat) m] ∧
        isF l_1 ∧ isF m) ∧
        (∃ (l_1 : List Int),
        [D.arr IntKind.i64 (16 : Nat)
        (nB (65536 : Nat) (16 : Nat)
        (fsb (vB (65536 : Nat) [(0 : Int), (0 : Int), (0 : Int), (0 : Int), (0 : Int), (0 : Int), (0 : Int), (0 : Int), (0 : Int), (0 : Int), (0 : Int), (0 : Int), (0 : Int), (0 : Int), (0 : Int), (0 : Int)])
        (vB (65536 : Nat) (nB (65536 : Nat) (16 : Nat) (vB (18446744073709551616 : Nat) l % FP)))))] =
        [D.arr IntKind.i64 (16 : Nat) l_1] ∧
        isF l_1) ∧
        (IntKind.u64 = IntKind.u64 ∧ IntKind.u64 = IntKind.u64 ∧ (4 : Nat) = (4 : Nat) ∧ (4 : Nat) = (4 : Nat) ∧ (1 : Nat) = (1 : Nat)) ∧
        True ∧
        True ∧
        match
        !eqB (nB (18446744073709551616 : Nat) (4 : Nat) (ngX (vB (18446744073709551616 : Nat) l) (vB (18446744073709551616 : Nat) m)))
        (nB (18446744073709551616 : Nat) (4 : Nat)
        (vB (65536 : Nat)
        (nB (65536 : Nat) (16 : Nat)
        (fsb (vB (65536 : Nat) [(0 : Int), (0 : Int), (0 : Int), (0 : Int), (0 : Int), (0 : Int), (0 : Int), (0 : Int), (0 : Int), (0 : Int), (0 : Int), (0 : Int), (0 : Int), (0 : Int), (0 : Int), (0 : Int)])
        (vB (65536 : Nat) (nB (65536 : Nat) (16 : Nat) (vB (18446744073709551616 : Nat) l % FP))))))) with
        | true => True ∧ (false = false ∧ True) ∧ D.val (Value.bool false) = F
        | false =>
         True ∧
         True ∧
         True ∧
         match !onB (vB (18446744073709551616 : Nat) l) (vB (18446744073709551616 : Nat) m) with
         | true =>
          True ∧
          ((8 : Nat) ≠ (0 : Nat) ∧ (8 : Nat) = (8 : Nat) ∧ true = true) ∧
          True ∧
          (true = true ∧
          Sk.st [Sk.arr (4 : Nat), Sk.arr (4 : Nat)] = Sk.st [Sk.arr (4 : Nat), Sk.arr (4 : Nat)] ∧
          Sk.st [Sk.arr (4 : Nat), Sk.arr (4 : Nat)] = Sk.st [Sk.arr (4 : Nat), Sk.arr (4 : Nat)] ∧
          true = true ∧
          true = true ∧
          (IntKind.u64 = IntKind.u64 ∧ IntKind.u64 = IntKind.u64 ∧ (4 : Nat) = (4 : Nat) ∧ (4 : Nat) = (4 : Nat) ∧ (1 : Nat) = (1 : Nat)) ∧
          true = true ∧ true = true ∧ (IntKind.u64 = IntKind.u64 ∧ IntKind.u64 = IntKind.u64 ∧ (4 : Nat) = (4 : Nat) ∧ (4 : Nat) = (4 : Nat) ∧ (1 : Nat) = (1 : Nat)) ∧ True) ∧
          True ∧
          match
          eqB (nB (18446744073709551616 : Nat) (4 : Nat) (adX (vB (18446744073709551616 : Nat) l) (vB (18446744073709551616 : Nat) m) (vB (18446744073709551616 : Nat) l') (vB (18446744073709551616 : Nat) m')))
          [(0 : Int), (0 : Int), (0 : Int), (0 : Int)] &&
          (eqB (nB (18446744073709551616 : Nat) (4 : Nat) (adY (vB (18446744073709551616 : Nat) l) (vB (18446744073709551616 : Nat) m) (vB (18446744073709551616 : Nat) l') (vB (18446744073709551616 : Nat) m')))
          [(0 : Int), (0 : Int), (0 : Int), (0 : Int)] &&
          true) with
          | true =>
           True ∧
           True ∧
           True ∧
           True ∧
           (false = false ∧ True) ∧ D.val (Value.bool (adO (vB (18446744073709551616 : Nat) l) (vB (18446744073709551616 : Nat) m) (vB (18446744073709551616 : Nat) l') (vB (18446744073709551616 : Nat) m') == (1 : Int))) = F
          | false => True ∧ True ∧ (false = false ∧ True) ∧ D.val (Value.bool false) = F
         | false =>
          True ∧
          True ∧
          True ∧
          match !onB (vB (18446744073709551616 : Nat) l') (vB (18446744073709551616 : Nat) m') with
          | true =>
           ((8 : Nat) ≠ (0 : Nat) ∧ (8 : Nat) = (8 : Nat) ∧ true = true) ∧
           True ∧
           (true = true ∧
           Sk.st [Sk.arr (4 : Nat), Sk.arr (4 : Nat)] = Sk.st [Sk.arr (4 : Nat), Sk.arr (4 : Nat)] ∧
           Sk.st [Sk.arr (4 : Nat), Sk.arr (4 : Nat)] = Sk.st [Sk.arr (4 : Nat), Sk.arr (4 : Nat)] ∧
           true = true ∧
           true = true ∧
           (IntKind.u64 = IntKind.u64 ∧ IntKind.u64 = IntKind.u64 ∧ (4 : Nat) = (4 : Nat) ∧ (4 : Nat) = (4 : Nat) ∧ (1 : Nat) = (1 : Nat)) ∧
           true = true ∧ true = true ∧ (IntKind.u64 = IntKind.u64 ∧ IntKind.u64 = IntKind.u64 ∧ (4 : Nat) = (4 : Nat) ∧ (4 : Nat) = (4 : Nat) ∧ (1 : Nat) = (1 : Nat)) ∧ True) ∧
           True ∧
           match
           eqB (nB (18446744073709551616 : Nat) (4 : Nat) (adX (vB (18446744073709551616 : Nat) l) (vB (18446744073709551616 : Nat) m) (vB (18446744073709551616 : Nat) l') (vB (18446744073709551616 : Nat) m')))
           [(0 : Int), (0 : Int), (0 : Int), (0 : Int)] &&
           (eqB (nB (18446744073709551616 : Nat) (4 : Nat) (adY (vB (18446744073709551616 : Nat) l) (vB (18446744073709551616 : Nat) m) (vB (18446744073709551616 : Nat) l') (vB (18446744073709551616 : Nat) m')))
           [(0 : Int), (0 : Int), (0 : Int), (0 : Int)] &&
           true) with
           | true =>
            True ∧
            True ∧
            True ∧
            True ∧
            (false = false ∧ True) ∧
            D.val (Value.bool (adO (vB (18446744073709551616 : Nat) l) (vB (18446744073709551616 : Nat) m) (vB (18446744073709551616 : Nat) l') (vB (18446744073709551616 : Nat) m') == (1 : Int))) = F
           | false => True ∧ True ∧ (false = false ∧ True) ∧ D.val (Value.bool false) = F
          | false =>
           True ∧
           True ∧
           True ∧
           match adO (vB (18446744073709551616 : Nat) l) (vB (18446744073709551616 : Nat) m) (vB (18446744073709551616 : Nat) l') (vB (18446744073709551616 : Nat) m') == (0 : Int) with
           | true =>
            ((8 : Nat) ≠ (0 : Nat) ∧ (8 : Nat) = (8 : Nat) ∧ true = true) ∧
            ((8 : Nat) ≠ (0 : Nat) ∧ (8 : Nat) = (8 : Nat) ∧ true = true) ∧
            (∃ (l_1 : List Int), ∃ (m_1 : List Int), [D.st [D.arr IntKind.u64 (4 : Nat) l, D.arr IntKind.u64 (4 : Nat) m]] = [D.st [D.arr IntKind.u64 (4 : Nat) l_1, D.arr IntKind.u64 (4 : Nat) m_1]] ∧ isN l_1 ∧ isN m_1) ∧
            ((8 : Nat) ≠ (0 : Nat) ∧ (8 : Nat) = (8 : Nat) ∧ true = true) ∧
            (∃ (l : List Int), ∃ (m : List Int), [D.st [D.arr IntKind.u64 (4 : Nat) l', D.arr IntKind.u64 (4 : Nat) m']] = [D.st [D.arr IntKind.u64 (4 : Nat) l, D.arr IntKind.u64 (4 : Nat) m]] ∧ isN l ∧ isN m) ∧
            (∃ (a : List Int),
            ∃ (b : List Int),
            ∃ (c : List Int),
            ∃ (a' : List Int),
            ∃ (b' : List Int),
            ∃ (c' : List Int),
            [D.st
            [D.arr IntKind.i64 (16 : Nat) (nB (65536 : Nat) (16 : Nat) (vB (18446744073709551616 : Nat) l % FP)),
            D.arr IntKind.i64 (16 : Nat) (nB (65536 : Nat) (16 : Nat) (vB (18446744073709551616 : Nat) m % FP)), D.arr IntKind.i64 (16 : Nat) oneF],
            D.st
            [D.arr IntKind.i64 (16 : Nat) (nB (65536 : Nat) (16 : Nat) (vB (18446744073709551616 : Nat) l' % FP)),
            D.arr IntKind.i64 (16 : Nat) (nB (65536 : Nat) (16 : Nat) (vB (18446744073709551616 : Nat) m' % FP)), D.arr IntKind.i64 (16 : Nat) oneF]] =
            [D.st [D.arr IntKind.i64 (16 : Nat) a, D.arr IntKind.i64 (16 : Nat) b, D.arr IntKind.i64 (16 : Nat) c],
            D.st [D.arr IntKind.i64 (16 : Nat) a', D.arr IntKind.i64 (16 : Nat) b', D.arr IntKind.i64 (16 : Nat) c']] ∧
            (isF a ∧ isF b ∧ isF c) ∧ isF a' ∧ isF b' ∧ isF c') ∧
            (∃ (a : List Int),
            ∃ (b : List Int),
            ∃ (c : List Int),
            [D.st
            [D.arr IntKind.i64 (16 : Nat)
            (nB (65536 : Nat) (16 : Nat)
            (rX (vB (65536 : Nat) (nB (65536 : Nat) (16 : Nat) (vB (18446744073709551616 : Nat) l % FP))) (vB (65536 : Nat) (nB (65536 : Nat) (16 : Nat) (vB (18446744073709551616 : Nat) m % FP)))
            (vB (65536 : Nat) oneF) (vB (65536 : Nat) (nB (65536 : Nat) (16 : Nat) (vB (18446744073709551616 : Nat) l' % FP)))
            (vB (65536 : Nat) (nB (65536 : Nat) (16 : Nat) (vB (18446744073709551616 : Nat) m' % FP))) (vB (65536 : Nat) oneF))),
            D.arr IntKind.i64 (16 : Nat)
            (nB (65536 : Nat) (16 : Nat)
            (rY (vB (65536 : Nat) (nB (65536 : Nat) (16 : Nat) (vB (18446744073709551616 : Nat) l % FP))) (vB (65536 : Nat) (nB (65536 : Nat) (16 : Nat) (vB (18446744073709551616 : Nat) m % FP)))
            (vB (65536 : Nat) oneF) (vB (65536 : Nat) (nB (65536 : Nat) (16 : Nat) (vB (18446744073709551616 : Nat) l' % FP)))
            (vB (65536 : Nat) (nB (65536 : Nat) (16 : Nat) (vB (18446744073709551616 : Nat) m' % FP))) (vB (65536 : Nat) oneF))),
            D.arr IntKind.i64 (16 : Nat)
            (nB (65536 : Nat) (16 : Nat)
            (rZ (vB (65536 : Nat) (nB (65536 : Nat) (16 : Nat) (vB (18446744073709551616 : Nat) l % FP))) (vB (65536 : Nat) (nB (65536 : Nat) (16 : Nat) (vB (18446744073709551616 : Nat) m % FP)))
            (vB (65536 : Nat) oneF) (vB (65536 : Nat) (nB (65536 : Nat) (16 : Nat) (vB (18446744073709551616 : Nat) l' % FP)))
            (vB (65536 : Nat) (nB (65536 : Nat) (16 : Nat) (vB (18446744073709551616 : Nat) m' % FP))) (vB (65536 : Nat) oneF)))]] =
            [D.st [D.arr IntKind.i64 (16 : Nat) a, D.arr IntKind.i64 (16 : Nat) b, D.arr IntKind.i64 (16 : Nat) c]] ∧
            isF a ∧ isF b ∧ isF c) ∧
            (true = true ∧
            Sk.st [Sk.arr (4 : Nat), Sk.arr (4 : Nat)] = Sk.st [Sk.arr (4 : Nat), Sk.arr (4 : Nat)] ∧
            Sk.st [Sk.arr (4 : Nat), Sk.arr (4 : Nat)] = Sk.st [Sk.arr (4 : Nat), Sk.arr (4 : Nat)] ∧
            true = true ∧
            true = true ∧
            (IntKind.u64 = IntKind.u64 ∧ IntKind.u64 = IntKind.u64 ∧ (4 : Nat) = (4 : Nat) ∧ (4 : Nat) = (4 : Nat) ∧ (1 : Nat) = (1 : Nat)) ∧
            true = true ∧ true = true ∧ (IntKind.u64 = IntKind.u64 ∧ IntKind.u64 = IntKind.u64 ∧ (4 : Nat) = (4 : Nat) ∧ (4 : Nat) = (4 : Nat) ∧ (1 : Nat) = (1 : Nat)) ∧ True) ∧
            True ∧
            True ∧
            (false = false ∧ True) ∧
            D.val
            (Value.bool
            (eqB
            (nB (18446744073709551616 : Nat) (4 : Nat)
            (adX (vB (18446744073709551616 : Nat) l) (vB (18446744073709551616 : Nat) m) (vB (18446744073709551616 : Nat) l') (vB (18446744073709551616 : Nat) m')))
            (nB (18446744073709551616 : Nat) (4 : Nat)
            (aff
            (vB (65536 : Nat)
            (nB (65536 : Nat) (16 : Nat)
            (rX (vB (65536 : Nat) (nB (65536 : Nat) (16 : Nat) (vB (18446744073709551616 : Nat) l % FP)))
            (vB (65536 : Nat) (nB (65536 : Nat) (16 : Nat) (vB (18446744073709551616 : Nat) m % FP))) (vB (65536 : Nat) oneF)
            (vB (65536 : Nat) (nB (65536 : Nat) (16 : Nat) (vB (18446744073709551616 : Nat) l' % FP)))
            (vB (65536 : Nat) (nB (65536 : Nat) (16 : Nat) (vB (18446744073709551616 : Nat) m' % FP))) (vB (65536 : Nat) oneF))))
            (vB (65536 : Nat)
            (nB (65536 : Nat) (16 : Nat)
            (rZ (vB (65536 : Nat) (nB (65536 : Nat) (16 : Nat) (vB (18446744073709551616 : Nat) l % FP)))
            (vB (65536 : Nat) (nB (65536 : Nat) (16 : Nat) (vB (18446744073709551616 : Nat) m % FP))) (vB (65536 : Nat) oneF)
            (vB (65536 : Nat) (nB (65536 : Nat) (16 : Nat) (vB (18446744073709551616 : Nat) l' % FP)))
            (vB (65536 : Nat) (nB (65536 : Nat) (16 : Nat) (vB (18446744073709551616 : Nat) m' % FP))) (vB (65536 : Nat) oneF)))))) &&
            (eqB
            (nB (18446744073709551616 : Nat) (4 : Nat)
            (adY (vB (18446744073709551616 : Nat) l) (vB (18446744073709551616 : Nat) m) (vB (18446744073709551616 : Nat) l') (vB (18446744073709551616 : Nat) m')))
            (nB (18446744073709551616 : Nat) (4 : Nat)
            (aff
            (vB (65536 : Nat)
            (nB (65536 : Nat) (16 : Nat)
            (rY (vB (65536 : Nat) (nB (65536 : Nat) (16 : Nat) (vB (18446744073709551616 : Nat) l % FP)))
            (vB (65536 : Nat) (nB (65536 : Nat) (16 : Nat) (vB (18446744073709551616 : Nat) m % FP))) (vB (65536 : Nat) oneF)
            (vB (65536 : Nat) (nB (65536 : Nat) (16 : Nat) (vB (18446744073709551616 : Nat) l' % FP)))
            (vB (65536 : Nat) (nB (65536 : Nat) (16 : Nat) (vB (18446744073709551616 : Nat) m' % FP))) (vB (65536 : Nat) oneF))))
            (vB (65536 : Nat)
            (nB (65536 : Nat) (16 : Nat)
            (rZ (vB (65536 : Nat) (nB (65536 : Nat) (16 : Nat) (vB (18446744073709551616 : Nat) l % FP)))
            (vB (65536 : Nat) (nB (65536 : Nat) (16 : Nat) (vB (18446744073709551616 : Nat) m % FP))) (vB (65536 : Nat) oneF)
            (vB (65536 : Nat) (nB (65536 : Nat) (16 : Nat) (vB (18446744073709551616 : Nat) l' % FP)))
            (vB (65536 : Nat) (nB (65536 : Nat) (16 : Nat) (vB (18446744073709551616 : Nat) m' % FP))) (vB (65536 : Nat) oneF)))))) &&
            true))) =
            F
           | false => True ∧ True ∧ (false = false ∧ True) ∧ D.val (Value.bool false) = F
     | false =>
      True ∧
      True ∧
      True ∧
      True ∧
      match !onB (vB (18446744073709551616 : Nat) l) (vB (18446744073709551616 : Nat) m) with
      | true =>
       True ∧
       ((8 : Nat) ≠ (0 : Nat) ∧ (8 : Nat) = (8 : Nat) ∧ true = true) ∧
       True ∧
       (true = true ∧
       Sk.st [Sk.arr (4 : Nat), Sk.arr (4 : Nat)] = Sk.st [Sk.arr (4 : Nat), Sk.arr (4 : Nat)] ∧
       Sk.st [Sk.arr (4 : Nat), Sk.arr (4 : Nat)] = Sk.st [Sk.arr (4 : Nat), Sk.arr (4 : Nat)] ∧
       true = true ∧
       true = true ∧
       (IntKind.u64 = IntKind.u64 ∧ IntKind.u64 = IntKind.u64 ∧ (4 : Nat) = (4 : Nat) ∧ (4 : Nat) = (4 : Nat) ∧ (1 : Nat) = (1 : Nat)) ∧
       true = true ∧ true = true ∧ (IntKind.u64 = IntKind.u64 ∧ IntKind.u64 = IntKind.u64 ∧ (4 : Nat) = (4 : Nat) ∧ (4 : Nat) = (4 : Nat) ∧ (1 : Nat) = (1 : Nat)) ∧ True) ∧
       True ∧
       match
       eqB (nB (18446744073709551616 : Nat) (4 : Nat) (adX (vB (18446744073709551616 : Nat) l) (vB (18446744073709551616 : Nat) m) (vB (18446744073709551616 : Nat) l') (vB (18446744073709551616 : Nat) m'))) [(0 : Int), (0 : Int), (0 : Int), (0 : Int)] &&
       (eqB (nB (18446744073709551616 : Nat) (4 : Nat) (adY (vB (18446744073709551616 : Nat) l) (vB (18446744073709551616 : Nat) m) (vB (18446744073709551616 : Nat) l') (vB (18446744073709551616 : Nat) m'))) [(0 : Int), (0 : Int), (0 : Int), (0 : Int)] && true) with
       | true => True ∧ True ∧ True ∧ True ∧ (false = false ∧ True) ∧ D.val (Value.bool (adO (vB (18446744073709551616 : Nat) l) (vB (18446744073709551616 : Nat) m) (vB (18446744073709551616 : Nat) l') (vB (18446744073709551616 : Nat) m') == (1 : Int))) = F
       | false => True ∧ True ∧ (false = false ∧ True) ∧ D.val (Value.bool false) = F
      | false =>
       True ∧
       True ∧
       True ∧
       match !onB (vB (18446744073709551616 : Nat) l') (vB (18446744073709551616 : Nat) m') with
       | true =>
        ((8 : Nat) ≠ (0 : Nat) ∧ (8 : Nat) = (8 : Nat) ∧ true = true) ∧
        True ∧
        (true = true ∧
        Sk.st [Sk.arr (4 : Nat), Sk.arr (4 : Nat)] = Sk.st [Sk.arr (4 : Nat), Sk.arr (4 : Nat)] ∧
        Sk.st [Sk.arr (4 : Nat), Sk.arr (4 : Nat)] = Sk.st [Sk.arr (4 : Nat), Sk.arr (4 : Nat)] ∧
        true = true ∧
        true = true ∧
        (IntKind.u64 = IntKind.u64 ∧ IntKind.u64 = IntKind.u64 ∧ (4 : Nat) = (4 : Nat) ∧ (4 : Nat) = (4 : Nat) ∧ (1 : Nat) = (1 : Nat)) ∧
        true = true ∧ true = true ∧ (IntKind.u64 = IntKind.u64 ∧ IntKind.u64 = IntKind.u64 ∧ (4 : Nat) = (4 : Nat) ∧ (4 : Nat) = (4 : Nat) ∧ (1 : Nat) = (1 : Nat)) ∧ True) ∧
        True ∧
        match
        eqB (nB (18446744073709551616 : Nat) (4 : Nat) (adX (vB (18446744073709551616 : Nat) l) (vB (18446744073709551616 : Nat) m) (vB (18446744073709551616 : Nat) l') (vB (18446744073709551616 : Nat) m'))) [(0 : Int), (0 : Int), (0 : Int), (0 : Int)] &&
        (eqB (nB (18446744073709551616 : Nat) (4 : Nat) (adY (vB (18446744073709551616 : Nat) l) (vB (18446744073709551616 : Nat) m) (vB (18446744073709551616 : Nat) l') (vB (18446744073709551616 : Nat) m'))) [(0 : Int), (0 : Int), (0 : Int), (0 : Int)] && true) with
        | true => True ∧ True ∧ True ∧ True ∧ (false = false ∧ True) ∧ D.val (Value.bool (adO (vB (18446744073709551616 : Nat) l) (vB (18446744073709551616 : Nat) m) (vB (18446744073709551616 : Nat) l') (vB (18446744073709551616 : Nat) m') == (1 : Int))) = F
        | false => True ∧ True ∧ (false = false ∧ True) ∧ D.val (Value.bool false) = F
       | false =>
        True ∧
        True ∧
        True ∧
        match adO (vB (18446744073709551616 : Nat) l) (vB (18446744073709551616 : Nat) m) (vB (18446744073709551616 : Nat) l') (vB (18446744073709551616 : Nat) m') == (0 : Int) with
        | true =>
         ((8 : Nat) ≠ (0 : Nat) ∧ (8 : Nat) = (8 : Nat) ∧ true = true) ∧
         ((8 : Nat) ≠ (0 : Nat) ∧ (8 : Nat) = (8 : Nat) ∧ true = true) ∧
         (∃ (l_1 : List Int), ∃ (m_1 : List Int), [D.st [D.arr IntKind.u64 (4 : Nat) l, D.arr IntKind.u64 (4 : Nat) m]] = [D.st [D.arr IntKind.u64 (4 : Nat) l_1, D.arr IntKind.u64 (4 : Nat) m_1]] ∧ isN l_1 ∧ isN m_1) ∧
         ((8 : Nat) ≠ (0 : Nat) ∧ (8 : Nat) = (8 : Nat) ∧ true = true) ∧
         (∃ (l : List Int), ∃ (m : List Int), [D.st [D.arr IntKind.u64 (4 : Nat) l', D.arr IntKind.u64 (4 : Nat) m']] = [D.st [D.arr IntKind.u64 (4 : Nat) l, D.arr IntKind.u64 (4 : Nat) m]] ∧ isN l ∧ isN m) ∧
         (∃ (a : List Int),
         ∃ (b : List Int),
         ∃ (c : List Int),
         ∃ (a' : List Int),
         ∃ (b' : List Int),
         ∃ (c' : List Int),
         [D.st
         [D.arr IntKind.i64 (16 : Nat) (nB (65536 : Nat) (16 : Nat) (vB (18446744073709551616 : Nat) l % FP)), D.arr IntKind.i64 (16 : Nat) (nB (65536 : Nat) (16 : Nat) (vB (18446744073709551616 : Nat) m % FP)),
         D.arr IntKind.i64 (16 : Nat) oneF],
         D.st
         [D.arr IntKind.i64 (16 : Nat) (nB (65536 : Nat) (16 : Nat) (vB (18446744073709551616 : Nat) l' % FP)), D.arr IntKind.i64 (16 : Nat) (nB (65536 : Nat) (16 : Nat) (vB (18446744073709551616 : Nat) m' % FP)),
         D.arr IntKind.i64 (16 : Nat) oneF]] =
         [D.st [D.arr IntKind.i64 (16 : Nat) a, D.arr IntKind.i64 (16 : Nat) b, D.arr IntKind.i64 (16 : Nat) c], D.st [D.arr IntKind.i64 (16 : Nat) a', D.arr IntKind.i64 (16 : Nat) b', D.arr IntKind.i64 (16 : Nat) c']] ∧
         (isF a ∧ isF b ∧ isF c) ∧ isF a' ∧ isF b' ∧ isF c') ∧
         (∃ (a : List Int),
         ∃ (b : List Int),
         ∃ (c : List Int),
         [D.st
         [D.arr IntKind.i64 (16 : Nat)
         (nB (65536 : Nat) (16 : Nat)
         (rX (vB (65536 : Nat) (nB (65536 : Nat) (16 : Nat) (vB (18446744073709551616 : Nat) l % FP))) (vB (65536 : Nat) (nB (65536 : Nat) (16 : Nat) (vB (18446744073709551616 : Nat) m % FP))) (vB (65536 : Nat) oneF)
         (vB (65536 : Nat) (nB (65536 : Nat) (16 : Nat) (vB (18446744073709551616 : Nat) l' % FP))) (vB (65536 : Nat) (nB (65536 : Nat) (16 : Nat) (vB (18446744073709551616 : Nat) m' % FP))) (vB (65536 : Nat) oneF))),
         D.arr IntKind.i64 (16 : Nat)
         (nB (65536 : Nat) (16 : Nat)
         (rY (vB (65536 : Nat) (nB (65536 : Nat) (16 : Nat) (vB (18446744073709551616 : Nat) l % FP))) (vB (65536 : Nat) (nB (65536 : Nat) (16 : Nat) (vB (18446744073709551616 : Nat) m % FP))) (vB (65536 : Nat) oneF)
         (vB (65536 : Nat) (nB (65536 : Nat) (16 : Nat) (vB (18446744073709551616 : Nat) l' % FP))) (vB (65536 : Nat) (nB (65536 : Nat) (16 : Nat) (vB (18446744073709551616 : Nat) m' % FP))) (vB (65536 : Nat) oneF))),
         D.arr IntKind.i64 (16 : Nat)
         (nB (65536 : Nat) (16 : Nat)
         (rZ (vB (65536 : Nat) (nB (65536 : Nat) (16 : Nat) (vB (18446744073709551616 : Nat) l % FP))) (vB (65536 : Nat) (nB (65536 : Nat) (16 : Nat) (vB (18446744073709551616 : Nat) m % FP))) (vB (65536 : Nat) oneF)
         (vB (65536 : Nat) (nB (65536 : Nat) (16 : Nat) (vB (18446744073709551616 : Nat) l' % FP))) (vB (65536 : Nat) (nB (65536 : Nat) (16 : Nat) (vB (18446744073709551616 : Nat) m' % FP))) (vB (65536 : Nat) oneF)))]] =
         [D.st [D.arr IntKind.i64 (16 : Nat) a, D.arr IntKind.i64 (16 : Nat) b, D.arr IntKind.i64 (16 : Nat) c]] ∧
         isF a ∧ isF b ∧ isF c) ∧
         (true = true ∧
         Sk.st [Sk.arr (4 : Nat), Sk.arr (4 : Nat)] = Sk.st [Sk.arr (4 : Nat), Sk.arr (4 : Nat)] ∧
         Sk.st [Sk.arr (4 : Nat), Sk.arr (4 : Nat)] = Sk.st [Sk.arr (4 : Nat), Sk.arr (4 : Nat)] ∧
         true = true ∧
         true = true ∧
         (IntKind.u64 = IntKind.u64 ∧ IntKind.u64 = IntKind.u64 ∧ (4 : Nat) = (4 : Nat) ∧ (4 : Nat) = (4 : Nat) ∧ (1 : Nat) = (1 : Nat)) ∧
         true = true ∧ true = true ∧ (IntKind.u64 = IntKind.u64 ∧ IntKind.u64 = IntKind.u64 ∧ (4 : Nat) = (4 : Nat) ∧ (4 : Nat) = (4 : Nat) ∧ (1 : Nat) = (1 : Nat)) ∧ True) ∧
         True ∧
         True ∧
         (false = false ∧ True) ∧
         D.val
         (Value.bool
         (eqB (nB (18446744073709551616 : Nat) (4 : Nat) (adX (vB (18446744073709551616 : Nat) l) (vB (18446744073709551616 : Nat) m) (vB (18446744073709551616 : Nat) l') (vB (18446744073709551616 : Nat) m')))
         (nB (18446744073709551616 : Nat) (4 : Nat)
         (aff
         (vB (65536 : Nat)
         (nB (65536 : Nat) (16 : Nat)
         (rX (vB (65536 : Nat) (nB (65536 : Nat) (16 : Nat) (vB (18446744073709551616 : Nat) l % FP))) (vB (65536 : Nat) (nB (65536 : Nat) (16 : Nat) (vB (18446744073709551616 : Nat) m % FP))) (vB (65536 : Nat) oneF)
         (vB (65536 : Nat) (nB (65536 : Nat) (16 : Nat) (vB (18446744073709551616 : Nat) l' % FP))) (vB (65536 : Nat) (nB (65536 : Nat) (16 : Nat) (vB (18446744073709551616 : Nat) m' % FP))) (vB (65536 : Nat) oneF))))
         (vB (65536 : Nat)
         (nB (65536 : Nat) (16 : Nat)
         (rZ (vB (65536 : Nat) (nB (65536 : Nat) (16 : Nat) (vB (18446744073709551616 : Nat) l % FP))) (vB (65536 : Nat) (nB (65536 : Nat) (16 : Nat) (vB (18446744073709551616 : Nat) m % FP))) (vB (65536 : Nat) oneF)
         (vB (65536 : Nat) (nB (65536 : Nat) (16 : Nat) (vB (18446744073709551616 : Nat) l' % FP))) (vB (65536 : Nat) (nB (65536 : Nat) (16 : Nat) (vB (18446744073709551616 : Nat) m' % FP))) (vB (65536 : Nat) oneF)))))) &&
         (eqB (nB (18446744073709551616 : Nat) (4 : Nat) (adY (vB (18446744073709551616 : Nat) l) (vB (18446744073709551616 : Nat) m) (vB (18446744073709551616 : Nat) l') (vB (18446744073709551616 : Nat) m')))
         (nB (18446744073709551616 : Nat) (4 : Nat)
         (aff
         (vB (65536 : Nat)
         (nB (65536 : Nat) (16 : Nat)
         (rY (vB (65536 : Nat) (nB (65536 : Nat) (16 : Nat) (vB (18446744073709551616 : Nat) l % FP))) (vB (65536 : Nat) (nB (65536 : Nat) (16 : Nat) (vB (18446744073709551616 : Nat) m % FP))) (vB (65536 : Nat) oneF)
         (vB (65536 : Nat) (nB (65536 : Nat) (16 : Nat) (vB (18446744073709551616 : Nat) l' % FP))) (vB (65536 : Nat) (nB (65536 : Nat) (16 : Nat) (vB (18446744073709551616 : Nat) m' % FP))) (vB (65536 : Nat) oneF))))
         (vB (65536 : Nat)
         (nB (65536 : Nat) (16 : Nat)
         (rZ (vB (65536 : Nat) (nB (65536 : Nat) (16 : Nat) (vB (18446744073709551616 : Nat) l % FP))) (vB (65536 : Nat) (nB (65536 : Nat) (16 : Nat) (vB (18446744073709551616 : Nat) m % FP))) (vB (65536 : Nat) oneF)
         (vB (65536 : Nat) (nB (65536 : Nat) (16 : Nat) (vB (18446744073709551616 : Nat) l' % FP))) (vB (65536 : Nat) (nB (65536 : Nat) (16 : Nat) (vB (18446744073709551616 : Nat) m' % FP))) (vB (65536 : Nat) oneF)))))) &&
         true))) =
         F
        | false => True ∧ True ∧ (false = false ∧ True) ∧ D.val (Value.bool false) = F) := by kernel_rfl


theorem num_of7 {d : D} (h : OkT tab 7 24 d) : ∃ l, d = num4 l ∧ okw l ∧ l.length = 4 := by
  rw [ok247] at h
  obtain ⟨l, rfl, h1, h2⟩ := h
  exact ⟨l, rfl, fun x hx => ⟨(h2 x hx).1, Int.lt_of_le_of_lt (h2 x hx).2 (by decide)⟩, h1⟩
theorem pt_of {d : D} (h : OkT tab 8 67 d) : ∃ l m, d = ptD l m ∧ isN l ∧ isN m := by
  rw [ok67] at h
  obtain ⟨ds, rfl, h⟩ := h
  match ds, h with
  | [x, y], h =>
    have h1 : OkT tab 7 24 x := h.1
    have h2 : OkT tab 7 24 y := h.2.1
    obtain ⟨l, rfl, a1, a2⟩ := num_of7 h1
    obtain ⟨m, rfl, b1, b2⟩ := num_of7 h2
    exact ⟨l, m, rfl, ⟨a1, a2⟩, b1, b2⟩
  | _ :: _ :: _ :: _, h => cases h.2.2
  | [_], h => cases h.2
  | [], h => cases h
theorem args8 {ds : List D} (h : (lawSpec tab Try.f8.params.toList).pre ds) : ∃ l m l' m', ds = [ptD l m, ptD l' m'] ∧ (isN l ∧ isN m) ∧ isN l' ∧ isN m' := by
  have h : OkAll tab 8 [67, 67] ds := h
  match ds, h with
  | [x, y], h =>
    obtain ⟨l, m, rfl, h1⟩ := pt_of h.1
    obtain ⟨l', m', rfl, h2⟩ := pt_of h.2.1
    exact ⟨l, m, l', m', rfl, h1, h2⟩
  | _ :: _ :: _ :: _, h => cases h.2.2
  | [_], h => cases h.2

theorem eqB_refl (l : List Int) : eqB l l = true := by rw [eqB_iff]
theorem fpw_one (n : Nat) : fpw 1 n = 1 := by rw [fpw_eq, Nat.one_pow]; rfl
theorem aff_one {x : Nat} (h : x < FP) : aff x 1 = x := by
  unfold aff
  rw [fpw_one, Nat.mul_one, Nat.mod_eq_of_lt h]
theorem base_x : eqB bxL (nB 18446744073709551616 4 (aff (vB 65536 bxF) (vB 65536 oneF))) = true := by
  rw [f1, aff_one (by rw [FP_eq]; decide), eqB_iff]
  decide
theorem base_y : eqB byL (nB 18446744073709551616 4 (aff (vB 65536 byF) (vB 65536 oneF))) = true := by
  rw [f1, aff_one (by rw [FP_eq]; decide), eqB_iff]
  decide
theorem base_x1 : eqB bxL (nB 18446744073709551616 4 (aff (vB 65536 bxF) 1)) = true := by
  have := base_x
  rwa [f1] at this
theorem base_y1 : eqB byL (nB 18446744073709551616 4 (aff (vB 65536 byF) 1)) = true := by
  have := base_y
  rwa [f1] at this
theorem frX (x y z x' y' z' : Nat) : vB 65536 (nB 65536 16 (rX x y z x' y' z')) = rX x y z x' y' z' := fn (flt _)
theorem frY (x y z x' y' z' : Nat) : vB 65536 (nB 65536 16 (rY x y z x' y' z')) = rY x y z x' y' z' := fn (flt _)
theorem frZ (x y z x' y' z' : Nat) : vB 65536 (nB 65536 16 (rZ x y z x' y' z')) = rZ x y z x' y' z' := fn (flt _)
theorem f0' : vB 65536 [0, 0, 0, 0, 0, 0, 0, 0, 0, 0, 0, 0, 0, 0, 0, 0] = 0 := rfl
theorem F_0' : isF [0, 0, 0, 0, 0, 0, 0, 0, 0, 0, 0, 0, 0, 0, 0, 0] := ⟨okd_dec (by decide), rfl⟩
theorem fsb_mod (x : Nat) : fsb 0 (x % FP) = fsb 0 x := by
  unfold fsb
  rw [Nat.mod_mod]
theorem nB_zero : nB 18446744073709551616 4 0 = [0, 0, 0, 0] := rfl

theorem adX_eq {x y x' y' : Nat} (h : (onB x y && onB x' y') = true) : adX x y x' y' = aff (rX (x % FP) (y % FP) 1 (x' % FP) (y' % FP) 1) (rZ (x % FP) (y % FP) 1 (x' % FP) (y' % FP) 1) := by
  unfold adX
  rw [h]
  exact (if_pos rfl).trans (add_eq x y x' y').1
theorem adY_eq {x y x' y' : Nat} (h : (onB x y && onB x' y') = true) : adY x y x' y' = aff (rY (x % FP) (y % FP) 1 (x' % FP) (y' % FP) 1) (rZ (x % FP) (y % FP) 1 (x' % FP) (y' % FP) 1) := by
  unfold adY
  rw [h]
  exact (if_pos rfl).trans (add_eq x y x' y').2
theorem m8 : Meets Try.prog 8 (lawSpec tab Try.f8.params.toList) := by
  refine meets_of_owed (C := c8) ⟨tab_ok, lkS_ok ⟨m37, m38, m39, m40, m41, m42, m43, m44, m45, m46, m47, m48, m49, trivial⟩⟩ (by kernel_rfl) (by kernel_rfl : Try.prog.funcs[8]? = some Try.f8) (by kernel_rfl) (by kernel_rfl) (by kernel_rfl) _ ?_
  intro ds hds
  obtain ⟨l, m, l', m', rfl, ⟨hl, hm⟩, hl', hm'⟩ := args8 hds
  refine ⟨fun _ => rfl, fun _ => none, ?_⟩
  show owed c8 (fun _ => none) Try.f8 [ptD l m, ptD l' m'] (.val (.bool true))
  rw [vc8]
  have hbx := F_bx
  have hby := F_by
  have ho := F_1
  have hz := F_0'
  have hv := num_nB hm
  have hv : nB 18446744073709551616 4 (vB 18446744073709551616 m) = m := hv
  cases hp : onB (vB 18446744073709551616 l) (vB 18446744073709551616 m) with
  | false =>
    have e1 : ngX (vB 18446744073709551616 l) (vB 18446744073709551616 m) = 0 := by unfold ngX; rw [hp]; exact if_neg (by decide)
    have e2 : ngY (vB 18446744073709551616 l) (vB 18446744073709551616 m) = 0 := by unfold ngY; rw [hp]; exact if_neg (by decide)
    have e3 : ngO (vB 18446744073709551616 l) (vB 18446744073709551616 m) = 1 := by unfold ngO; rw [hp]; exact if_neg (by decide)
    have e4 : adX (vB 18446744073709551616 l) (vB 18446744073709551616 m) (vB 18446744073709551616 l') (vB 18446744073709551616 m') = 0 := by unfold adX; rw [hp, Bool.false_and]; exact if_neg (by decide)
    have e5 : adY (vB 18446744073709551616 l) (vB 18446744073709551616 m) (vB 18446744073709551616 l') (vB 18446744073709551616 m') = 0 := by unfold adY; rw [hp, Bool.false_and]; exact if_neg (by decide)
    have e6 : adO (vB 18446744073709551616 l) (vB 18446744073709551616 m) (vB 18446744073709551616 l') (vB 18446744073709551616 m') = 1 := by unfold adO; rw [hp, Bool.false_and]; exact if_neg (by decide)
    simp (decide := true) only [eq_self, true_and, and_true, ne_eq, not_false_eq_true, e1, e2, e3, e4, e5, e6, nB_zero, eqB_refl, base_x, base_y, Bool.true_and, Bool.and_true, Bool.not_true, Bool.not_false, beq_self_eq_true, bne_self_eq_false]
    and_intros <;> first | exact True.intro | exact ⟨_, _, rfl, hl, hm⟩ | exact ⟨_, _, rfl, hl', hm'⟩ | exact ⟨_, _, _, _, rfl, ⟨hl, hm⟩, hl', hm'⟩ | exact ⟨_, _, _, rfl, hbx, hby, ho⟩ | rfl
  | true =>
    have e1 : ngX (vB 18446744073709551616 l) (vB 18446744073709551616 m) = fsb 0 (vB 18446744073709551616 l) := by unfold ngX; rw [hp]; exact if_pos rfl
    have e2 : ngY (vB 18446744073709551616 l) (vB 18446744073709551616 m) = vB 18446744073709551616 m := by unfold ngY; rw [hp]; exact if_pos rfl
    have e3 : ngO (vB 18446744073709551616 l) (vB 18446744073709551616 m) = 0 := by unfold ngO; rw [hp]; exact if_pos rfl
    cases hq : onB (vB 18446744073709551616 l') (vB 18446744073709551616 m') with
    | false =>
      have e4 : adX (vB 18446744073709551616 l) (vB 18446744073709551616 m) (vB 18446744073709551616 l') (vB 18446744073709551616 m') = 0 := by unfold adX; rw [hq, Bool.and_false]; exact if_neg (by decide)
      have e5 : adY (vB 18446744073709551616 l) (vB 18446744073709551616 m) (vB 18446744073709551616 l') (vB 18446744073709551616 m') = 0 := by unfold adY; rw [hq, Bool.and_false]; exact if_neg (by decide)
      have e6 : adO (vB 18446744073709551616 l) (vB 18446744073709551616 m) (vB 18446744073709551616 l') (vB 18446744073709551616 m') = 1 := by unfold adO; rw [hq, Bool.and_false]; exact if_neg (by decide)
      simp (decide := true) only [eq_self, true_and, and_true, ne_eq, not_false_eq_true, e1, e2, e3, e4, e5, e6, hv, fnm, fns, f0', fsb_mod, nB_zero, eqB_refl, base_x, base_y, Bool.true_and, Bool.and_true, Bool.not_true, Bool.not_false, beq_self_eq_true, bne_self_eq_false]
      and_intros <;> first | exact True.intro | exact ⟨_, _, rfl, hl, hm⟩ | exact ⟨_, _, rfl, hl', hm'⟩ | exact ⟨_, _, _, _, rfl, ⟨hl, hm⟩, hl', hm'⟩ | exact ⟨_, _, _, rfl, hbx, hby, ho⟩ | exact ⟨_, rfl, hl⟩ | exact ⟨_, _, rfl, hz, nF _⟩ | exact ⟨_, rfl, nF _⟩ | rfl
    | true =>
      have hpq : (onB (vB 18446744073709551616 l) (vB 18446744073709551616 m) && onB (vB 18446744073709551616 l') (vB 18446744073709551616 m')) = true := by rw [hp, hq]; rfl
      have e5 := adX_eq hpq
      have e6 := adY_eq hpq
      have e7 : adO (vB 18446744073709551616 l) (vB 18446744073709551616 m) (vB 18446744073709551616 l') (vB 18446744073709551616 m') = 0 := by unfold adO; rw [hpq]; exact if_pos rfl
      simp (decide := true) only [eq_self, true_and, and_true, ne_eq, not_false_eq_true, e1, e2, e3, e5, e6, e7, hv, fnm, fns, f0', f1, frX, frY, frZ, fsb_mod, nB_zero, eqB_refl, base_x1, base_y1, Bool.true_and, Bool.and_true, Bool.not_true, Bool.not_false, beq_self_eq_true, bne_self_eq_false]
      and_intros <;> first | exact True.intro | exact ⟨_, _, rfl, hl, hm⟩ | exact ⟨_, _, rfl, hl', hm'⟩ | exact ⟨_, _, _, _, rfl, ⟨hl, hm⟩, hl', hm'⟩ | exact ⟨_, _, _, rfl, hbx, hby, ho⟩ | exact ⟨_, rfl, hl⟩ | exact ⟨_, _, rfl, hz, nF _⟩ | exact ⟨_, rfl, nF _⟩ | exact ⟨_, _, _, _, _, _, rfl, ⟨nF _, nF _, ho⟩, nF _, nF _, ho⟩ | exact ⟨_, _, _, rfl, nF _, nF _, nF _⟩ | rfl
end Go.Proofs.Ytnadggcfdakpoaa
