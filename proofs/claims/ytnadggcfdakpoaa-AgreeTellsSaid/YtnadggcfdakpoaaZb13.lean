/- Package ladder, and the reference's Ladder: specs. -/
import Derived.Test.YtnadggcfdakpoaaZb12
namespace Go.Proofs.Ytnadggcfdakpoaa
open Go Go.Vg
abbrev prD (x z : List Int) : D := .st [num4 x, num4 z]
abbrev f2 (l : List Int) : D := .arr .i64 32 l
def f2L (x z : Nat) : List Int := nB 65536 16 x ++ nB 65536 16 z
def fX (d : D) : Nat := vB 65536 ((arrOf d).take 16)
def fZ (d : D) : Nat := vB 65536 (((arrOf d).drop 16).take 16)
def isF2 (l : List Int) : Prop := okd l ∧ l.length = 32
def lS (x z : Nat) : Nat := (x + z) % FP * ((x + z) % FP) % FP
def lT (x z : Nat) : Nat := fsb x z * fsb x z % FP
def lE (x z : Nat) : Nat := fsb (lS x z) (lT x z)
def tX (x z : Nat) : Nat := lS x z * lT x z % FP
def tZ (x z : Nat) : Nat := lE x z * ((lS x z + 121665 * lE x z % FP) % FP) % FP
def jA (x z x' z' : Nat) : Nat := (x' + z') % FP * fsb x z % FP
def jB (x z x' z' : Nat) : Nat := fsb x' z' * ((x + z) % FP) % FP
def jX (x z x' z' : Nat) : Nat := (jA x z x' z' + jB x z x' z') % FP * ((jA x z x' z' + jB x z x' z') % FP) % FP
def jZ (x z x' z' u : Nat) : Nat := u * (fsb (jA x z x' z') (jB x z x' z') * fsb (jA x z x' z') (jB x z x' z') % FP) % FP
structure Q4 where
  a : Nat
  b : Nat
  c : Nat
  d : Nat
def ldN (u b : Nat) (q : Q4) : Q4 := if b = 0 then ⟨tX q.a q.b, tZ q.a q.b, jX q.a q.b q.c q.d, jZ q.a q.b q.c q.d u⟩ else ⟨jX q.c q.d q.a q.b, jZ q.c q.d q.a q.b u, tX q.c q.d, tZ q.c q.d⟩
def ldS (k u : Nat) : Nat → Q4
  | 0 => ⟨1, 0, u, 1⟩
  | i + 1 => ldN u (bitN k ((255 : Int) - (i : Int))) (ldS k u i)
noncomputable def ladM (k u : Nat) : Nat := aff (ldS k u 256).a (ldS k u 256).b
def dD (x z : Nat) : Nat := fsb (x * x % FP) (z * z % FP)
def dX (x z : Nat) : Nat := dD x z * dD x z % FP
def dSm (x z : Nat) : Nat := ((x * x % FP + 486662 * (x * z % FP) % FP) % FP + z * z % FP) % FP
def dZ (x z : Nat) : Nat := 4 * (x * z % FP) % FP * dSm x z % FP
def bS (x z x' z' : Nat) : Nat := fsb (x * x' % FP) (z * z' % FP)
def bT (x z x' z' : Nat) : Nat := fsb (x * z' % FP) (z * x' % FP)
def bX (x z x' z' : Nat) : Nat := bS x z x' z' * bS x z x' z' % FP
def bZ (x z x' z' u : Nat) : Nat := u * (bT x z x' z' * bT x z x' z' % FP) % FP
def rgN (u b : Nat) (q : Q4) : Q4 := if b = 0 then ⟨dX q.a q.b, dZ q.a q.b, bX q.a q.b q.c q.d, bZ q.a q.b q.c q.d u⟩ else ⟨bX q.a q.b q.c q.d, bZ q.a q.b q.c q.d u, dX q.c q.d, dZ q.c q.d⟩
def rgS (u : Nat) : Nat → Nat → Q4
  | 0, _ => ⟨1, 0, u, 1⟩
  | k + 1, n => if n = 0 then ⟨1, 0, u, 1⟩ else rgN u (n % 2) (rgS u k (n / 2))
noncomputable def ladR (k u : Nat) : Nat := aff (rgS (u % FP) 256 k).a (rgS (u % FP) 256 k).b
noncomputable def ofN (x y : Nat) : Nat := if onB x y then aff ((1 + y) % FP) (fsb 1 y) else 0
def sp143 : Go.Vg.Spec := ⟨fun ds => ∃ l, ds = [num4 l] ∧ isN l, fun ds => n4 (wA ds * wA ds % FP), true, [24]⟩
def sp115 : Go.Vg.Spec := ⟨fun ds => ∃ c a b a' b', ds = [u64n c, prD a b, prD a' b'] ∧ c < B64 ∧ (isN a ∧ isN b) ∧ isN a' ∧ isN b',
  fun ds => .tup [prD (pkL (nn (ds.headD default)) (arrOf (fldOf (ds.getD 1 default) 0)) (arrOf (fldOf (ds.getD 2 default) 0))) (pkL (nn (ds.headD default)) (arrOf (fldOf (ds.getD 1 default) 1)) (arrOf (fldOf (ds.getD 2 default) 1))),
    prD (pkL (nn (ds.headD default)) (arrOf (fldOf (ds.getD 2 default) 0)) (arrOf (fldOf (ds.getD 1 default) 0))) (pkL (nn (ds.headD default)) (arrOf (fldOf (ds.getD 2 default) 1)) (arrOf (fldOf (ds.getD 1 default) 1)))], true, [22, 148, 148]⟩
def sp116 : Go.Vg.Spec := ⟨fun ds => ∃ a b, ds = [prD a b] ∧ isN a ∧ isN b, fun ds => .st [n4 (tX (wF (ds.headD default) 0) (wF (ds.headD default) 1)), n4 (tZ (wF (ds.headD default) 0) (wF (ds.headD default) 1))], true, [148]⟩
def sp117 : Go.Vg.Spec := ⟨fun ds => ∃ a b a' b' u, ds = [prD a b, prD a' b', num4 u] ∧ (isN a ∧ isN b) ∧ (isN a' ∧ isN b') ∧ isN u,
  fun ds => .st [n4 (jX (wF (ds.headD default) 0) (wF (ds.headD default) 1) (wF (ds.getD 1 default) 0) (wF (ds.getD 1 default) 1)), n4 (jZ (wF (ds.headD default) 0) (wF (ds.headD default) 1) (wF (ds.getD 1 default) 0) (wF (ds.getD 1 default) 1) (wv (arrOf (ds.getD 2 default))))], true, [148, 148, 24]⟩
noncomputable def sp51 : Go.Vg.Spec := ⟨fun ds => ∃ l m, ds = [num4 l, num4 m] ∧ isN l ∧ isN m, fun ds => n4 (ladM (wA ds) (wB2 ds)), true, [24, 24]⟩
noncomputable def sp50 : Go.Vg.Spec := ⟨fun ds => ∃ l m, ds = [ptD l m] ∧ isN l ∧ isN m, fun ds => .tup [n4 (ofN (wF (ds.headD default) 0) (wF (ds.headD default) 1)), i64 (ngO (wF (ds.headD default) 0) (wF (ds.headD default) 1))], true, [67]⟩
def sp144 : Go.Vg.Spec := ⟨fun ds => ∃ l, ds = [f2 l] ∧ isF2 l, fun ds => f2 (f2L (dX (fX (ds.headD default)) (fZ (ds.headD default))) (dZ (fX (ds.headD default)) (fZ (ds.headD default)))), true, [154]⟩
def sp118 (k : Nat) : Go.Vg.Spec := ⟨fun ds => ∃ n l, ds = [dgs (dg n), fel l] ∧ (1 ≤ k ∧ n < 2 ^ (k - 1)) ∧ k ≤ 257 ∧ isF l,
  fun ds => .tup [f2 (f2L (rgS (fB ds) (k - 1) (vB 65536 (intsOf (ds.headD default)))).a (rgS (fB ds) (k - 1) (vB 65536 (intsOf (ds.headD default)))).b), f2 (f2L (rgS (fB ds) (k - 1) (vB 65536 (intsOf (ds.headD default)))).c (rgS (fB ds) (k - 1) (vB 65536 (intsOf (ds.headD default)))).d)], true, [94, 74]⟩
noncomputable def sp52 : Go.Vg.Spec := ⟨fun ds => ∃ l m, ds = [num4 l, num4 m] ∧ isN l ∧ isN m, fun ds => n4 (ladR (wA ds) (wB2 ds)), true, [24, 24]⟩
noncomputable def dgW (l : List Int) : List Int := opq (dg (vB 18446744073709551616 l))
noncomputable def smF (n : Nat) : List Int := opq (nB 65536 16 n)
noncomputable def sp83o : Go.Vg.Spec := ⟨sp83.pre, fun ds => dgs (dgW (intsOf (ds.headD default))), false, [161]⟩
noncomputable def sp100o : Go.Vg.Spec := ⟨sp100.pre, fun ds => fel (smF (numOf (ds.headD default)).toNat), true, [3]⟩
def c115 : Ctx := ⟨tab, lkS [(142, sp142)], [], []⟩
def c143 : Ctx := ⟨tab, lkS [(107, sp107)], [], []⟩
def c116 : Ctx := ⟨tab, lkS [(108, sp108), (105, sp105), (107, sp107), (143, sp143)], [], []⟩
noncomputable def c51 : Ctx := ⟨tab, lkS [(114, sp114), (115, sp115), (116, sp116), (117, sp117), (113, sp113), (107, sp107)], [], [200003, 200005, 200006]⟩
noncomputable def c50 : Ctx := ⟨tab, lkS [(40, sp40), (108, sp108), (105, sp105), (113, sp113), (107, sp107)], [], []⟩
noncomputable def c144 : Ctx := ⟨tab, lkS [(54, sp54), (45, sp45), (53, sp53), (83, sp83o), (111, sp111), (100, sp100o)], [], []⟩
noncomputable def c118 (k : Nat) : Ctx := ⟨tab, lkS [(100, sp100), (73, sp73), (118, sp118 k), (54, sp54), (45, sp45), (144, sp144)], [], [200003, 200004, 200005, 200016]⟩
noncomputable def c52 : Ctx := ⟨tab, lkS [(46, sp46), (72, sp72), (118, sp118 257), (55, sp55), (54, sp54), (47, sp47)], [], []⟩
def inv51 (k u : Nat) : Nat → Option Inv
  | 3 => some ⟨Nat, fun i => [(7, .d (i64 ((255 : Int) - (i : Int))))], fun i => [(5, .fix (.st [n4 (ldS k u i).a, n4 (ldS k u i).b])), (6, .fix (.st [n4 (ldS k u i).c, n4 (ldS k u i).d]))], fun s => (255 - slotN s 7).toNat, fun _ i => i ≤ 256, fun i => 256 - i⟩
  | _ => none
--KEEP Go.Vg.spl List.replicate Nat.gcd Go.Vg.eqB Go.Vg.vB Go.Vg.nB Go.Vg.okd Go.Vg.okw Go.Vg.dg Go.Vg.dig Go.Vg.trimL okb lenOk lenS len1 sbd sbb dif bor cmpN shf i64ok subL sbD adl adc mulL mulH stL stH smN smC addL addK isN bl2 bitN pkL pkI isBits FP fsb fpw dNum isF okL dgF dFe dgP onB dN oneF aff ngO f2L isF2 lS lT lE tX tZ jA jB jX jZ Q4.a Q4.b Q4.c Q4.d ldN ldS ladM dD dX dSm dZ bS bT bX bZ rgN rgS ladR ofN dgW smF
set_option maxRecDepth 100000 in
theorem vc143  (l : List Int) (F : D)  :
    (owed c143 (fun _ => none) Try.f143 [num4 l] F) = (
 (True ∧ false = false) ∧
 (True ∧ (4 : Nat) ≠ (0 : Nat)) ∧
 ((4 : Nat) ≠ (0 : Nat) ∧ (4 : Nat) = (4 : Nat) ∧ true = true) ∧
 ((4 : Nat) ≠ (0 : Nat) ∧ (4 : Nat) = (4 : Nat) ∧ true = true) ∧
 (∃ (l_1 : List Int), ∃ (m : List Int), [D.arr IntKind.u64 (4 : Nat) l, D.arr IntKind.u64 (4 : Nat) l] = [D.arr IntKind.u64 (4 : Nat) l_1, D.arr IntKind.u64 (4 : Nat) m] ∧ isN l_1 ∧ isN m) ∧
 (Sk.arr (4 : Nat) = Sk.arr (4 : Nat) ∧ (4 : Nat) ≠ (0 : Nat) ∧ (4 : Nat) = (4 : Nat) ∧ false = false) ∧ (((4 : Nat) ≠ (0 : Nat) ∧ (4 : Nat) = (4 : Nat) ∧ true = true) ∧ True) ∧ D.arr IntKind.u64 (4 : Nat) (nB (18446744073709551616 : Nat) (4 : Nat) (vB (18446744073709551616 : Nat) l * vB (18446744073709551616 : Nat) l % FP)) = F) := by kernel_rfl
set_option maxRecDepth 100000 in
theorem vc115  (c : Nat) (a b a' b' : List Int) (F : D)  :
    (owed c115 (fun _ => none) Try.f115 [u64n c, prD a b, prD a' b'] F) = (
 (True ∧ false = false) ∧
 (True ∧ false = false) ∧
 (True ∧ (8 : Nat) ≠ (0 : Nat)) ∧
 (True ∧ (8 : Nat) ≠ (0 : Nat)) ∧
 True ∧
 (Sk.st [Sk.arr (4 : Nat), Sk.arr (4 : Nat)] = Sk.st [Sk.arr (4 : Nat), Sk.arr (4 : Nat)] ∧ (0 : Nat) < (2 : Nat)) ∧
 ((4 : Nat) ≠ (0 : Nat) ∧ (4 : Nat) = (4 : Nat) ∧ true = true) ∧
 (Sk.st [Sk.arr (4 : Nat), Sk.arr (4 : Nat)] = Sk.st [Sk.arr (4 : Nat), Sk.arr (4 : Nat)] ∧ (0 : Nat) < (2 : Nat)) ∧
 ((4 : Nat) ≠ (0 : Nat) ∧ (4 : Nat) = (4 : Nat) ∧ true = true) ∧
 (∃ (c_1 : Nat), ∃ (l : List Int), ∃ (m : List Int), [D.val (Value.int IntKind.u64 (↑c : Int)), D.arr IntKind.u64 (4 : Nat) a, D.arr IntKind.u64 (4 : Nat) a'] = [D.val (Value.int IntKind.u64 (↑c_1 : Int)), D.arr IntKind.u64 (4 : Nat) l, D.arr IntKind.u64 (4 : Nat) m] ∧ c_1 < (18446744073709551616 : Nat) ∧ isN l ∧ isN m) ∧
 True ∧
 (Sk.st [Sk.arr (4 : Nat), Sk.arr (4 : Nat)] = Sk.st [Sk.arr (4 : Nat), Sk.arr (4 : Nat)] ∧ (1 : Nat) < (2 : Nat)) ∧
 ((4 : Nat) ≠ (0 : Nat) ∧ (4 : Nat) = (4 : Nat) ∧ true = true) ∧
 (Sk.st [Sk.arr (4 : Nat), Sk.arr (4 : Nat)] = Sk.st [Sk.arr (4 : Nat), Sk.arr (4 : Nat)] ∧ (1 : Nat) < (2 : Nat)) ∧
 ((4 : Nat) ≠ (0 : Nat) ∧ (4 : Nat) = (4 : Nat) ∧ true = true) ∧
 (∃ (c_1 : Nat), ∃ (l : List Int), ∃ (m : List Int), [D.val (Value.int IntKind.u64 (↑c : Int)), D.arr IntKind.u64 (4 : Nat) b, D.arr IntKind.u64 (4 : Nat) b'] = [D.val (Value.int IntKind.u64 (↑c_1 : Int)), D.arr IntKind.u64 (4 : Nat) l, D.arr IntKind.u64 (4 : Nat) m] ∧ c_1 < (18446744073709551616 : Nat) ∧ isN l ∧ isN m) ∧
 (false = false ∧ ((0 : Nat) < (2 : Nat) ∧ Sk.arr (4 : Nat) = Sk.arr (4 : Nat)) ∧ false = false ∧ ((1 : Nat) < (2 : Nat) ∧ Sk.arr (4 : Nat) = Sk.arr (4 : Nat)) ∧ True) ∧
 True ∧
 (Sk.st [Sk.arr (4 : Nat), Sk.arr (4 : Nat)] = Sk.st [Sk.arr (4 : Nat), Sk.arr (4 : Nat)] ∧ (0 : Nat) < (2 : Nat)) ∧
 ((4 : Nat) ≠ (0 : Nat) ∧ (4 : Nat) = (4 : Nat) ∧ true = true) ∧
 (Sk.st [Sk.arr (4 : Nat), Sk.arr (4 : Nat)] = Sk.st [Sk.arr (4 : Nat), Sk.arr (4 : Nat)] ∧ (0 : Nat) < (2 : Nat)) ∧
 ((4 : Nat) ≠ (0 : Nat) ∧ (4 : Nat) = (4 : Nat) ∧ true = true) ∧
 (∃ (c_1 : Nat), ∃ (l : List Int), ∃ (m : List Int), [D.val (Value.int IntKind.u64 (↑c : Int)), D.arr IntKind.u64 (4 : Nat) a', D.arr IntKind.u64 (4 : Nat) a] = [D.val (Value.int IntKind.u64 (↑c_1 : Int)), D.arr IntKind.u64 (4 : Nat) l, D.arr IntKind.u64 (4 : Nat) m] ∧ c_1 < (18446744073709551616 : Nat) ∧ isN l ∧ isN m) ∧
 True ∧
 (Sk.st [Sk.arr (4 : Nat), Sk.arr (4 : Nat)] = Sk.st [Sk.arr (4 : Nat), Sk.arr (4 : Nat)] ∧ (1 : Nat) < (2 : Nat)) ∧
 ((4 : Nat) ≠ (0 : Nat) ∧ (4 : Nat) = (4 : Nat) ∧ true = true) ∧
 (Sk.st [Sk.arr (4 : Nat), Sk.arr (4 : Nat)] = Sk.st [Sk.arr (4 : Nat), Sk.arr (4 : Nat)] ∧ (1 : Nat) < (2 : Nat)) ∧
 ((4 : Nat) ≠ (0 : Nat) ∧ (4 : Nat) = (4 : Nat) ∧ true = true) ∧
 (∃ (c_1 : Nat), ∃ (l : List Int), ∃ (m : List Int), [D.val (Value.int IntKind.u64 (↑c : Int)), D.arr IntKind.u64 (4 : Nat) b', D.arr IntKind.u64 (4 : Nat) b] = [D.val (Value.int IntKind.u64 (↑c_1 : Int)), D.arr IntKind.u64 (4 : Nat) l, D.arr IntKind.u64 (4 : Nat) m] ∧ c_1 < (18446744073709551616 : Nat) ∧ isN l ∧ isN m) ∧
 (false = false ∧ ((0 : Nat) < (2 : Nat) ∧ Sk.arr (4 : Nat) = Sk.arr (4 : Nat)) ∧ false = false ∧ ((1 : Nat) < (2 : Nat) ∧ Sk.arr (4 : Nat) = Sk.arr (4 : Nat)) ∧ True) ∧
 (Sk.st [Sk.arr (4 : Nat), Sk.arr (4 : Nat)] = Sk.st [Sk.arr (4 : Nat), Sk.arr (4 : Nat)] ∧ (8 : Nat) ≠ (0 : Nat) ∧ (8 : Nat) = (8 : Nat) ∧ false = false) ∧
 (Sk.st [Sk.arr (4 : Nat), Sk.arr (4 : Nat)] = Sk.st [Sk.arr (4 : Nat), Sk.arr (4 : Nat)] ∧ (8 : Nat) ≠ (0 : Nat) ∧ (8 : Nat) = (8 : Nat) ∧ false = false) ∧
 (((8 : Nat) ≠ (0 : Nat) ∧ (8 : Nat) = (8 : Nat) ∧ true = true) ∧ ((8 : Nat) ≠ (0 : Nat) ∧ (8 : Nat) = (8 : Nat) ∧ true = true) ∧ True) ∧
 D.tup [D.st [D.arr IntKind.u64 (4 : Nat) (pkL (↑c : Int).toNat a a'), D.arr IntKind.u64 (4 : Nat) (pkL (↑c : Int).toNat b b')], D.st [D.arr IntKind.u64 (4 : Nat) (pkL (↑c : Int).toNat a' a), D.arr IntKind.u64 (4 : Nat) (pkL (↑c : Int).toNat b' b)]] = F) := by kernel_rfl
set_option maxRecDepth 100000 in
theorem vc116  (a b : List Int) (F : D)  :
    (owed c116 (fun _ => none) Try.f116 [prD a b] F) = (
 (True ∧ false = false) ∧
 (True ∧ (8 : Nat) ≠ (0 : Nat)) ∧
 (Sk.st [Sk.arr (4 : Nat), Sk.arr (4 : Nat)] = Sk.st [Sk.arr (4 : Nat), Sk.arr (4 : Nat)] ∧ (0 : Nat) < (2 : Nat)) ∧
 ((4 : Nat) ≠ (0 : Nat) ∧ (4 : Nat) = (4 : Nat) ∧ true = true) ∧
 (Sk.st [Sk.arr (4 : Nat), Sk.arr (4 : Nat)] = Sk.st [Sk.arr (4 : Nat), Sk.arr (4 : Nat)] ∧ (1 : Nat) < (2 : Nat)) ∧
 ((4 : Nat) ≠ (0 : Nat) ∧ (4 : Nat) = (4 : Nat) ∧ true = true) ∧
 (∃ (l : List Int), ∃ (m : List Int), [D.arr IntKind.u64 (4 : Nat) a, D.arr IntKind.u64 (4 : Nat) b] = [D.arr IntKind.u64 (4 : Nat) l, D.arr IntKind.u64 (4 : Nat) m] ∧ isN l ∧ isN m) ∧
 (∃ (l : List Int), [D.arr IntKind.u64 (4 : Nat) (nB (18446744073709551616 : Nat) (4 : Nat) ((vB (18446744073709551616 : Nat) a + vB (18446744073709551616 : Nat) b) % FP))] = [D.arr IntKind.u64 (4 : Nat) l] ∧ isN l) ∧
 (Sk.st [Sk.arr (4 : Nat), Sk.arr (4 : Nat)] = Sk.st [Sk.arr (4 : Nat), Sk.arr (4 : Nat)] ∧ (0 : Nat) < (2 : Nat)) ∧
 ((4 : Nat) ≠ (0 : Nat) ∧ (4 : Nat) = (4 : Nat) ∧ true = true) ∧
 (Sk.st [Sk.arr (4 : Nat), Sk.arr (4 : Nat)] = Sk.st [Sk.arr (4 : Nat), Sk.arr (4 : Nat)] ∧ (1 : Nat) < (2 : Nat)) ∧
 ((4 : Nat) ≠ (0 : Nat) ∧ (4 : Nat) = (4 : Nat) ∧ true = true) ∧
 (∃ (l : List Int), ∃ (m : List Int), [D.arr IntKind.u64 (4 : Nat) a, D.arr IntKind.u64 (4 : Nat) b] = [D.arr IntKind.u64 (4 : Nat) l, D.arr IntKind.u64 (4 : Nat) m] ∧ isN l ∧ isN m) ∧
 (∃ (l : List Int), [D.arr IntKind.u64 (4 : Nat) (nB (18446744073709551616 : Nat) (4 : Nat) (fsb (vB (18446744073709551616 : Nat) a) (vB (18446744073709551616 : Nat) b)))] = [D.arr IntKind.u64 (4 : Nat) l] ∧ isN l) ∧
 (True ∧ (4 : Nat) ≠ (0 : Nat)) ∧
 (True ∧ (4 : Nat) ≠ (0 : Nat)) ∧
 (Sk.arr (4 : Nat) = Sk.arr (4 : Nat) ∧ (4 : Nat) ≠ (0 : Nat) ∧ (4 : Nat) = (4 : Nat) ∧ false = false) ∧
 (Sk.arr (4 : Nat) = Sk.arr (4 : Nat) ∧ (4 : Nat) ≠ (0 : Nat) ∧ (4 : Nat) = (4 : Nat) ∧ false = false) ∧
 ((4 : Nat) ≠ (0 : Nat) ∧ (4 : Nat) = (4 : Nat) ∧ true = true) ∧
 ((4 : Nat) ≠ (0 : Nat) ∧ (4 : Nat) = (4 : Nat) ∧ true = true) ∧
 (∃ (l : List Int),
 ∃ (m : List Int),
 [D.arr IntKind.u64 (4 : Nat)
 (nB (18446744073709551616 : Nat) (4 : Nat)
 (vB (18446744073709551616 : Nat) (nB (18446744073709551616 : Nat) (4 : Nat) ((vB (18446744073709551616 : Nat) a + vB (18446744073709551616 : Nat) b) % FP)) * vB (18446744073709551616 : Nat) (nB (18446744073709551616 : Nat) (4 : Nat) ((vB (18446744073709551616 : Nat) a + vB (18446744073709551616 : Nat) b) % FP)) % FP)),
 D.arr IntKind.u64 (4 : Nat)
 (nB (18446744073709551616 : Nat) (4 : Nat)
 (vB (18446744073709551616 : Nat) (nB (18446744073709551616 : Nat) (4 : Nat) (fsb (vB (18446744073709551616 : Nat) a) (vB (18446744073709551616 : Nat) b))) * vB (18446744073709551616 : Nat) (nB (18446744073709551616 : Nat) (4 : Nat) (fsb (vB (18446744073709551616 : Nat) a) (vB (18446744073709551616 : Nat) b))) % FP))] =
 [D.arr IntKind.u64 (4 : Nat) l, D.arr IntKind.u64 (4 : Nat) m] ∧
 isN l ∧ isN m) ∧
 (True ∧ (4 : Nat) ≠ (0 : Nat)) ∧
 (Sk.arr (4 : Nat) = Sk.arr (4 : Nat) ∧ (4 : Nat) ≠ (0 : Nat) ∧ (4 : Nat) = (4 : Nat) ∧ false = false) ∧
 ((4 : Nat) ≠ (0 : Nat) ∧ (4 : Nat) = (4 : Nat) ∧ true = true) ∧
 ((4 : Nat) ≠ (0 : Nat) ∧ (4 : Nat) = (4 : Nat) ∧ true = true) ∧
 (∃ (l : List Int),
 ∃ (m : List Int),
 [D.arr IntKind.u64 (4 : Nat)
 (nB (18446744073709551616 : Nat) (4 : Nat)
 (vB (18446744073709551616 : Nat) (nB (18446744073709551616 : Nat) (4 : Nat) ((vB (18446744073709551616 : Nat) a + vB (18446744073709551616 : Nat) b) % FP)) * vB (18446744073709551616 : Nat) (nB (18446744073709551616 : Nat) (4 : Nat) ((vB (18446744073709551616 : Nat) a + vB (18446744073709551616 : Nat) b) % FP)) % FP)),
 D.arr IntKind.u64 (4 : Nat)
 (nB (18446744073709551616 : Nat) (4 : Nat)
 (vB (18446744073709551616 : Nat) (nB (18446744073709551616 : Nat) (4 : Nat) (fsb (vB (18446744073709551616 : Nat) a) (vB (18446744073709551616 : Nat) b))) * vB (18446744073709551616 : Nat) (nB (18446744073709551616 : Nat) (4 : Nat) (fsb (vB (18446744073709551616 : Nat) a) (vB (18446744073709551616 : Nat) b))) % FP))] =
 [D.arr IntKind.u64 (4 : Nat) l, D.arr IntKind.u64 (4 : Nat) m] ∧
 isN l ∧ isN m) ∧
 ((4 : Nat) ≠ (0 : Nat) ∧ (4 : Nat) = (4 : Nat) ∧ true = true) ∧
 ((4 : Nat) ≠ (0 : Nat) ∧ (4 : Nat) = (4 : Nat) ∧ true = true) ∧
 ((1 : Nat) = (1 : Nat) ∧ false = false ∧ ((0 : Nat) < (4 : Nat) ∧ ([] : List Nat) = [] ∧ true = true) ∧ True) ∧
 ((4 : Nat) ≠ (0 : Nat) ∧ (4 : Nat) = (4 : Nat) ∧ true = true) ∧
 (∃ (l : List Int),
 ∃ (m : List Int),
 [D.arr IntKind.u64 (4 : Nat) [(121665 : Int), (0 : Int), (0 : Int), (0 : Int)],
 D.arr IntKind.u64 (4 : Nat)
 (nB (18446744073709551616 : Nat) (4 : Nat)
 (fsb
 (vB (18446744073709551616 : Nat)
 (nB (18446744073709551616 : Nat) (4 : Nat)
 (vB (18446744073709551616 : Nat) (nB (18446744073709551616 : Nat) (4 : Nat) ((vB (18446744073709551616 : Nat) a + vB (18446744073709551616 : Nat) b) % FP)) * vB (18446744073709551616 : Nat) (nB (18446744073709551616 : Nat) (4 : Nat) ((vB (18446744073709551616 : Nat) a + vB (18446744073709551616 : Nat) b) % FP)) %
 FP)))
 (vB (18446744073709551616 : Nat)
 (nB (18446744073709551616 : Nat) (4 : Nat)
 (vB (18446744073709551616 : Nat) (nB (18446744073709551616 : Nat) (4 : Nat) (fsb (vB (18446744073709551616 : Nat) a) (vB (18446744073709551616 : Nat) b))) * vB (18446744073709551616 : Nat) (nB (18446744073709551616 : Nat) (4 : Nat) (fsb (vB (18446744073709551616 : Nat) a) (vB (18446744073709551616 : Nat) b))) %
 FP)))))] =
 [D.arr IntKind.u64 (4 : Nat) l, D.arr IntKind.u64 (4 : Nat) m] ∧
 isN l ∧ isN m) ∧
 (∃ (l : List Int),
 ∃ (m : List Int),
 [D.arr IntKind.u64 (4 : Nat)
 (nB (18446744073709551616 : Nat) (4 : Nat)
 (vB (18446744073709551616 : Nat) (nB (18446744073709551616 : Nat) (4 : Nat) ((vB (18446744073709551616 : Nat) a + vB (18446744073709551616 : Nat) b) % FP)) * vB (18446744073709551616 : Nat) (nB (18446744073709551616 : Nat) (4 : Nat) ((vB (18446744073709551616 : Nat) a + vB (18446744073709551616 : Nat) b) % FP)) % FP)),
 D.arr IntKind.u64 (4 : Nat)
 (nB (18446744073709551616 : Nat) (4 : Nat)
 (vB (18446744073709551616 : Nat) [(121665 : Int), (0 : Int), (0 : Int), (0 : Int)] *
 vB (18446744073709551616 : Nat)
 (nB (18446744073709551616 : Nat) (4 : Nat)
 (fsb
 (vB (18446744073709551616 : Nat)
 (nB (18446744073709551616 : Nat) (4 : Nat)
 (vB (18446744073709551616 : Nat) (nB (18446744073709551616 : Nat) (4 : Nat) ((vB (18446744073709551616 : Nat) a + vB (18446744073709551616 : Nat) b) % FP)) *
 vB (18446744073709551616 : Nat) (nB (18446744073709551616 : Nat) (4 : Nat) ((vB (18446744073709551616 : Nat) a + vB (18446744073709551616 : Nat) b) % FP)) %
 FP)))
 (vB (18446744073709551616 : Nat)
 (nB (18446744073709551616 : Nat) (4 : Nat)
 (vB (18446744073709551616 : Nat) (nB (18446744073709551616 : Nat) (4 : Nat) (fsb (vB (18446744073709551616 : Nat) a) (vB (18446744073709551616 : Nat) b))) *
 vB (18446744073709551616 : Nat) (nB (18446744073709551616 : Nat) (4 : Nat) (fsb (vB (18446744073709551616 : Nat) a) (vB (18446744073709551616 : Nat) b))) %
 FP))))) %
 FP))] =
 [D.arr IntKind.u64 (4 : Nat) l, D.arr IntKind.u64 (4 : Nat) m] ∧
 isN l ∧ isN m) ∧
 (∃ (l : List Int),
 ∃ (m : List Int),
 [D.arr IntKind.u64 (4 : Nat)
 (nB (18446744073709551616 : Nat) (4 : Nat)
 (fsb
 (vB (18446744073709551616 : Nat)
 (nB (18446744073709551616 : Nat) (4 : Nat)
 (vB (18446744073709551616 : Nat) (nB (18446744073709551616 : Nat) (4 : Nat) ((vB (18446744073709551616 : Nat) a + vB (18446744073709551616 : Nat) b) % FP)) *
 vB (18446744073709551616 : Nat) (nB (18446744073709551616 : Nat) (4 : Nat) ((vB (18446744073709551616 : Nat) a + vB (18446744073709551616 : Nat) b) % FP)) %
 FP)))
 (vB (18446744073709551616 : Nat)
 (nB (18446744073709551616 : Nat) (4 : Nat)
 (vB (18446744073709551616 : Nat) (nB (18446744073709551616 : Nat) (4 : Nat) (fsb (vB (18446744073709551616 : Nat) a) (vB (18446744073709551616 : Nat) b))) * vB (18446744073709551616 : Nat) (nB (18446744073709551616 : Nat) (4 : Nat) (fsb (vB (18446744073709551616 : Nat) a) (vB (18446744073709551616 : Nat) b))) %
 FP))))),
 D.arr IntKind.u64 (4 : Nat)
 (nB (18446744073709551616 : Nat) (4 : Nat)
 ((vB (18446744073709551616 : Nat)
 (nB (18446744073709551616 : Nat) (4 : Nat)
 (vB (18446744073709551616 : Nat) (nB (18446744073709551616 : Nat) (4 : Nat) ((vB (18446744073709551616 : Nat) a + vB (18446744073709551616 : Nat) b) % FP)) *
 vB (18446744073709551616 : Nat) (nB (18446744073709551616 : Nat) (4 : Nat) ((vB (18446744073709551616 : Nat) a + vB (18446744073709551616 : Nat) b) % FP)) %
 FP)) +
 vB (18446744073709551616 : Nat)
 (nB (18446744073709551616 : Nat) (4 : Nat)
 (vB (18446744073709551616 : Nat) [(121665 : Int), (0 : Int), (0 : Int), (0 : Int)] *
 vB (18446744073709551616 : Nat)
 (nB (18446744073709551616 : Nat) (4 : Nat)
 (fsb
 (vB (18446744073709551616 : Nat)
 (nB (18446744073709551616 : Nat) (4 : Nat)
 (vB (18446744073709551616 : Nat) (nB (18446744073709551616 : Nat) (4 : Nat) ((vB (18446744073709551616 : Nat) a + vB (18446744073709551616 : Nat) b) % FP)) *
 vB (18446744073709551616 : Nat) (nB (18446744073709551616 : Nat) (4 : Nat) ((vB (18446744073709551616 : Nat) a + vB (18446744073709551616 : Nat) b) % FP)) %
 FP)))
 (vB (18446744073709551616 : Nat)
 (nB (18446744073709551616 : Nat) (4 : Nat)
 (vB (18446744073709551616 : Nat) (nB (18446744073709551616 : Nat) (4 : Nat) (fsb (vB (18446744073709551616 : Nat) a) (vB (18446744073709551616 : Nat) b))) *
 vB (18446744073709551616 : Nat) (nB (18446744073709551616 : Nat) (4 : Nat) (fsb (vB (18446744073709551616 : Nat) a) (vB (18446744073709551616 : Nat) b))) %
 FP))))) %
 FP))) %
 FP))] =
 [D.arr IntKind.u64 (4 : Nat) l, D.arr IntKind.u64 (4 : Nat) m] ∧
 isN l ∧ isN m) ∧
 (false = false ∧ ((0 : Nat) < (2 : Nat) ∧ Sk.arr (4 : Nat) = Sk.arr (4 : Nat)) ∧ false = false ∧ ((1 : Nat) < (2 : Nat) ∧ Sk.arr (4 : Nat) = Sk.arr (4 : Nat)) ∧ True) ∧
 (Sk.st [Sk.arr (4 : Nat), Sk.arr (4 : Nat)] = Sk.st [Sk.arr (4 : Nat), Sk.arr (4 : Nat)] ∧ (8 : Nat) ≠ (0 : Nat) ∧ (8 : Nat) = (8 : Nat) ∧ false = false) ∧
 (((8 : Nat) ≠ (0 : Nat) ∧ (8 : Nat) = (8 : Nat) ∧ true = true) ∧ True) ∧
 D.st
 [D.arr IntKind.u64 (4 : Nat)
 (nB (18446744073709551616 : Nat) (4 : Nat)
 (vB (18446744073709551616 : Nat)
 (nB (18446744073709551616 : Nat) (4 : Nat)
 (vB (18446744073709551616 : Nat) (nB (18446744073709551616 : Nat) (4 : Nat) ((vB (18446744073709551616 : Nat) a + vB (18446744073709551616 : Nat) b) % FP)) *
 vB (18446744073709551616 : Nat) (nB (18446744073709551616 : Nat) (4 : Nat) ((vB (18446744073709551616 : Nat) a + vB (18446744073709551616 : Nat) b) % FP)) %
 FP)) *
 vB (18446744073709551616 : Nat)
 (nB (18446744073709551616 : Nat) (4 : Nat)
 (vB (18446744073709551616 : Nat) (nB (18446744073709551616 : Nat) (4 : Nat) (fsb (vB (18446744073709551616 : Nat) a) (vB (18446744073709551616 : Nat) b))) *
 vB (18446744073709551616 : Nat) (nB (18446744073709551616 : Nat) (4 : Nat) (fsb (vB (18446744073709551616 : Nat) a) (vB (18446744073709551616 : Nat) b))) %
 FP)) %
 FP)),
 D.arr IntKind.u64 (4 : Nat)
 (nB (18446744073709551616 : Nat) (4 : Nat)
 (vB (18446744073709551616 : Nat)
 (nB (18446744073709551616 : Nat) (4 : Nat)
 (fsb
 (vB (18446744073709551616 : Nat)
 (nB (18446744073709551616 : Nat) (4 : Nat)
 (vB (18446744073709551616 : Nat) (nB (18446744073709551616 : Nat) (4 : Nat) ((vB (18446744073709551616 : Nat) a + vB (18446744073709551616 : Nat) b) % FP)) *
 vB (18446744073709551616 : Nat) (nB (18446744073709551616 : Nat) (4 : Nat) ((vB (18446744073709551616 : Nat) a + vB (18446744073709551616 : Nat) b) % FP)) %
 FP)))
 (vB (18446744073709551616 : Nat)
 (nB (18446744073709551616 : Nat) (4 : Nat)
 (vB (18446744073709551616 : Nat) (nB (18446744073709551616 : Nat) (4 : Nat) (fsb (vB (18446744073709551616 : Nat) a) (vB (18446744073709551616 : Nat) b))) *
 vB (18446744073709551616 : Nat) (nB (18446744073709551616 : Nat) (4 : Nat) (fsb (vB (18446744073709551616 : Nat) a) (vB (18446744073709551616 : Nat) b))) %
 FP))))) *
 vB (18446744073709551616 : Nat)
 (nB (18446744073709551616 : Nat) (4 : Nat)
 ((vB (18446744073709551616 : Nat)
 (nB (18446744073709551616 : Nat) (4 : Nat)
 (vB (18446744073709551616 : Nat) (nB (18446744073709551616 : Nat) (4 : Nat) ((vB (18446744073709551616 : Nat) a + vB (18446744073709551616 : Nat) b) % FP)) *
 vB (18446744073709551616 : Nat) (nB (18446744073709551616 : Nat) (4 : Nat) ((vB (18446744073709551616 : Nat) a + vB (18446744073709551616 : Nat) b) % FP)) %
 FP)) +
 vB (18446744073709551616 : Nat)
 (nB (18446744073709551616 : Nat) (4 : Nat)
 (vB (18446744073709551616 : Nat) [(121665 : Int), (0 : Int), (0 : Int), (0 : Int)] *
 vB (18446744073709551616 : Nat)
 (nB (18446744073709551616 : Nat) (4 : Nat)
 (fsb
 (vB (18446744073709551616 : Nat)
 (nB (18446744073709551616 : Nat) (4 : Nat)
 (vB (18446744073709551616 : Nat) (nB (18446744073709551616 : Nat) (4 : Nat) ((vB (18446744073709551616 : Nat) a + vB (18446744073709551616 : Nat) b) % FP)) *
 vB (18446744073709551616 : Nat) (nB (18446744073709551616 : Nat) (4 : Nat) ((vB (18446744073709551616 : Nat) a + vB (18446744073709551616 : Nat) b) % FP)) %
 FP)))
 (vB (18446744073709551616 : Nat)
 (nB (18446744073709551616 : Nat) (4 : Nat)
 (vB (18446744073709551616 : Nat) (nB (18446744073709551616 : Nat) (4 : Nat) (fsb (vB (18446744073709551616 : Nat) a) (vB (18446744073709551616 : Nat) b))) *
 vB (18446744073709551616 : Nat) (nB (18446744073709551616 : Nat) (4 : Nat) (fsb (vB (18446744073709551616 : Nat) a) (vB (18446744073709551616 : Nat) b))) %
 FP))))) %
 FP))) %
 FP)) %
 FP))] =
 F) := by kernel_rfl
set_option maxRecDepth 100000 in
theorem vc117  (a b a' b' u : List Int) (F : D)  :
    (owed c116 (fun _ => none) Try.f117 [prD a b, prD a' b', num4 u] F) = (
 (True ∧ false = false) ∧
 (True ∧ false = false) ∧
 (True ∧ false = false) ∧
 (True ∧ (8 : Nat) ≠ (0 : Nat)) ∧
 (Sk.st [Sk.arr (4 : Nat), Sk.arr (4 : Nat)] = Sk.st [Sk.arr (4 : Nat), Sk.arr (4 : Nat)] ∧ (0 : Nat) < (2 : Nat)) ∧
 ((4 : Nat) ≠ (0 : Nat) ∧ (4 : Nat) = (4 : Nat) ∧ true = true) ∧
 (Sk.st [Sk.arr (4 : Nat), Sk.arr (4 : Nat)] = Sk.st [Sk.arr (4 : Nat), Sk.arr (4 : Nat)] ∧ (1 : Nat) < (2 : Nat)) ∧
 ((4 : Nat) ≠ (0 : Nat) ∧ (4 : Nat) = (4 : Nat) ∧ true = true) ∧
 (∃ (l : List Int), ∃ (m : List Int), [D.arr IntKind.u64 (4 : Nat) a', D.arr IntKind.u64 (4 : Nat) b'] = [D.arr IntKind.u64 (4 : Nat) l, D.arr IntKind.u64 (4 : Nat) m] ∧ isN l ∧ isN m) ∧
 (Sk.st [Sk.arr (4 : Nat), Sk.arr (4 : Nat)] = Sk.st [Sk.arr (4 : Nat), Sk.arr (4 : Nat)] ∧ (0 : Nat) < (2 : Nat)) ∧
 ((4 : Nat) ≠ (0 : Nat) ∧ (4 : Nat) = (4 : Nat) ∧ true = true) ∧
 (Sk.st [Sk.arr (4 : Nat), Sk.arr (4 : Nat)] = Sk.st [Sk.arr (4 : Nat), Sk.arr (4 : Nat)] ∧ (1 : Nat) < (2 : Nat)) ∧
 ((4 : Nat) ≠ (0 : Nat) ∧ (4 : Nat) = (4 : Nat) ∧ true = true) ∧
 (∃ (l : List Int), ∃ (m : List Int), [D.arr IntKind.u64 (4 : Nat) a, D.arr IntKind.u64 (4 : Nat) b] = [D.arr IntKind.u64 (4 : Nat) l, D.arr IntKind.u64 (4 : Nat) m] ∧ isN l ∧ isN m) ∧
 (∃ (l : List Int),
 ∃ (m : List Int),
 [D.arr IntKind.u64 (4 : Nat) (nB (18446744073709551616 : Nat) (4 : Nat) ((vB (18446744073709551616 : Nat) a' + vB (18446744073709551616 : Nat) b') % FP)), D.arr IntKind.u64 (4 : Nat) (nB (18446744073709551616 : Nat) (4 : Nat) (fsb (vB (18446744073709551616 : Nat) a) (vB (18446744073709551616 : Nat) b)))] =
 [D.arr IntKind.u64 (4 : Nat) l, D.arr IntKind.u64 (4 : Nat) m] ∧
 isN l ∧ isN m) ∧
 (True ∧ (4 : Nat) ≠ (0 : Nat)) ∧
 (Sk.arr (4 : Nat) = Sk.arr (4 : Nat) ∧ (4 : Nat) ≠ (0 : Nat) ∧ (4 : Nat) = (4 : Nat) ∧ false = false) ∧
 (Sk.st [Sk.arr (4 : Nat), Sk.arr (4 : Nat)] = Sk.st [Sk.arr (4 : Nat), Sk.arr (4 : Nat)] ∧ (0 : Nat) < (2 : Nat)) ∧
 ((4 : Nat) ≠ (0 : Nat) ∧ (4 : Nat) = (4 : Nat) ∧ true = true) ∧
 (Sk.st [Sk.arr (4 : Nat), Sk.arr (4 : Nat)] = Sk.st [Sk.arr (4 : Nat), Sk.arr (4 : Nat)] ∧ (1 : Nat) < (2 : Nat)) ∧
 ((4 : Nat) ≠ (0 : Nat) ∧ (4 : Nat) = (4 : Nat) ∧ true = true) ∧
 (∃ (l : List Int), ∃ (m : List Int), [D.arr IntKind.u64 (4 : Nat) a', D.arr IntKind.u64 (4 : Nat) b'] = [D.arr IntKind.u64 (4 : Nat) l, D.arr IntKind.u64 (4 : Nat) m] ∧ isN l ∧ isN m) ∧
 (Sk.st [Sk.arr (4 : Nat), Sk.arr (4 : Nat)] = Sk.st [Sk.arr (4 : Nat), Sk.arr (4 : Nat)] ∧ (0 : Nat) < (2 : Nat)) ∧
 ((4 : Nat) ≠ (0 : Nat) ∧ (4 : Nat) = (4 : Nat) ∧ true = true) ∧
 (Sk.st [Sk.arr (4 : Nat), Sk.arr (4 : Nat)] = Sk.st [Sk.arr (4 : Nat), Sk.arr (4 : Nat)] ∧ (1 : Nat) < (2 : Nat)) ∧
 ((4 : Nat) ≠ (0 : Nat) ∧ (4 : Nat) = (4 : Nat) ∧ true = true) ∧
 (∃ (l : List Int), ∃ (m : List Int), [D.arr IntKind.u64 (4 : Nat) a, D.arr IntKind.u64 (4 : Nat) b] = [D.arr IntKind.u64 (4 : Nat) l, D.arr IntKind.u64 (4 : Nat) m] ∧ isN l ∧ isN m) ∧
 (∃ (l : List Int),
 ∃ (m : List Int),
 [D.arr IntKind.u64 (4 : Nat) (nB (18446744073709551616 : Nat) (4 : Nat) (fsb (vB (18446744073709551616 : Nat) a') (vB (18446744073709551616 : Nat) b'))), D.arr IntKind.u64 (4 : Nat) (nB (18446744073709551616 : Nat) (4 : Nat) ((vB (18446744073709551616 : Nat) a + vB (18446744073709551616 : Nat) b) % FP))] =
 [D.arr IntKind.u64 (4 : Nat) l, D.arr IntKind.u64 (4 : Nat) m] ∧
 isN l ∧ isN m) ∧
 (True ∧ (4 : Nat) ≠ (0 : Nat)) ∧
 (Sk.arr (4 : Nat) = Sk.arr (4 : Nat) ∧ (4 : Nat) ≠ (0 : Nat) ∧ (4 : Nat) = (4 : Nat) ∧ false = false) ∧
 ((4 : Nat) ≠ (0 : Nat) ∧ (4 : Nat) = (4 : Nat) ∧ true = true) ∧
 ((4 : Nat) ≠ (0 : Nat) ∧ (4 : Nat) = (4 : Nat) ∧ true = true) ∧
 (∃ (l : List Int),
 ∃ (m : List Int),
 [D.arr IntKind.u64 (4 : Nat)
 (nB (18446744073709551616 : Nat) (4 : Nat)
 (vB (18446744073709551616 : Nat) (nB (18446744073709551616 : Nat) (4 : Nat) ((vB (18446744073709551616 : Nat) a' + vB (18446744073709551616 : Nat) b') % FP)) * vB (18446744073709551616 : Nat) (nB (18446744073709551616 : Nat) (4 : Nat) (fsb (vB (18446744073709551616 : Nat) a) (vB (18446744073709551616 : Nat) b))) %
 FP)),
 D.arr IntKind.u64 (4 : Nat)
 (nB (18446744073709551616 : Nat) (4 : Nat)
 (vB (18446744073709551616 : Nat) (nB (18446744073709551616 : Nat) (4 : Nat) (fsb (vB (18446744073709551616 : Nat) a') (vB (18446744073709551616 : Nat) b'))) * vB (18446744073709551616 : Nat) (nB (18446744073709551616 : Nat) (4 : Nat) ((vB (18446744073709551616 : Nat) a + vB (18446744073709551616 : Nat) b) % FP)) %
 FP))] =
 [D.arr IntKind.u64 (4 : Nat) l, D.arr IntKind.u64 (4 : Nat) m] ∧
 isN l ∧ isN m) ∧
 (∃ (l : List Int),
 [D.arr IntKind.u64 (4 : Nat)
 (nB (18446744073709551616 : Nat) (4 : Nat)
 ((vB (18446744073709551616 : Nat)
 (nB (18446744073709551616 : Nat) (4 : Nat)
 (vB (18446744073709551616 : Nat) (nB (18446744073709551616 : Nat) (4 : Nat) ((vB (18446744073709551616 : Nat) a' + vB (18446744073709551616 : Nat) b') % FP)) *
 vB (18446744073709551616 : Nat) (nB (18446744073709551616 : Nat) (4 : Nat) (fsb (vB (18446744073709551616 : Nat) a) (vB (18446744073709551616 : Nat) b))) %
 FP)) +
 vB (18446744073709551616 : Nat)
 (nB (18446744073709551616 : Nat) (4 : Nat)
 (vB (18446744073709551616 : Nat) (nB (18446744073709551616 : Nat) (4 : Nat) (fsb (vB (18446744073709551616 : Nat) a') (vB (18446744073709551616 : Nat) b'))) *
 vB (18446744073709551616 : Nat) (nB (18446744073709551616 : Nat) (4 : Nat) ((vB (18446744073709551616 : Nat) a + vB (18446744073709551616 : Nat) b) % FP)) %
 FP))) %
 FP))] =
 [D.arr IntKind.u64 (4 : Nat) l] ∧
 isN l) ∧
 ((4 : Nat) ≠ (0 : Nat) ∧ (4 : Nat) = (4 : Nat) ∧ true = true) ∧
 ((4 : Nat) ≠ (0 : Nat) ∧ (4 : Nat) = (4 : Nat) ∧ true = true) ∧
 ((4 : Nat) ≠ (0 : Nat) ∧ (4 : Nat) = (4 : Nat) ∧ true = true) ∧
 (∃ (l : List Int),
 ∃ (m : List Int),
 [D.arr IntKind.u64 (4 : Nat)
 (nB (18446744073709551616 : Nat) (4 : Nat)
 (vB (18446744073709551616 : Nat) (nB (18446744073709551616 : Nat) (4 : Nat) ((vB (18446744073709551616 : Nat) a' + vB (18446744073709551616 : Nat) b') % FP)) *
 vB (18446744073709551616 : Nat) (nB (18446744073709551616 : Nat) (4 : Nat) (fsb (vB (18446744073709551616 : Nat) a) (vB (18446744073709551616 : Nat) b))) %
 FP)),
 D.arr IntKind.u64 (4 : Nat)
 (nB (18446744073709551616 : Nat) (4 : Nat)
 (vB (18446744073709551616 : Nat) (nB (18446744073709551616 : Nat) (4 : Nat) (fsb (vB (18446744073709551616 : Nat) a') (vB (18446744073709551616 : Nat) b'))) *
 vB (18446744073709551616 : Nat) (nB (18446744073709551616 : Nat) (4 : Nat) ((vB (18446744073709551616 : Nat) a + vB (18446744073709551616 : Nat) b) % FP)) %
 FP))] =
 [D.arr IntKind.u64 (4 : Nat) l, D.arr IntKind.u64 (4 : Nat) m] ∧
 isN l ∧ isN m) ∧
 (∃ (l : List Int),
 [D.arr IntKind.u64 (4 : Nat)
 (nB (18446744073709551616 : Nat) (4 : Nat)
 (fsb
 (vB (18446744073709551616 : Nat)
 (nB (18446744073709551616 : Nat) (4 : Nat)
 (vB (18446744073709551616 : Nat) (nB (18446744073709551616 : Nat) (4 : Nat) ((vB (18446744073709551616 : Nat) a' + vB (18446744073709551616 : Nat) b') % FP)) *
 vB (18446744073709551616 : Nat) (nB (18446744073709551616 : Nat) (4 : Nat) (fsb (vB (18446744073709551616 : Nat) a) (vB (18446744073709551616 : Nat) b))) %
 FP)))
 (vB (18446744073709551616 : Nat)
 (nB (18446744073709551616 : Nat) (4 : Nat)
 (vB (18446744073709551616 : Nat) (nB (18446744073709551616 : Nat) (4 : Nat) (fsb (vB (18446744073709551616 : Nat) a') (vB (18446744073709551616 : Nat) b'))) *
 vB (18446744073709551616 : Nat) (nB (18446744073709551616 : Nat) (4 : Nat) ((vB (18446744073709551616 : Nat) a + vB (18446744073709551616 : Nat) b) % FP)) %
 FP)))))] =
 [D.arr IntKind.u64 (4 : Nat) l] ∧
 isN l) ∧
 (∃ (l : List Int),
 ∃ (m : List Int),
 [D.arr IntKind.u64 (4 : Nat) u,
 D.arr IntKind.u64 (4 : Nat)
 (nB (18446744073709551616 : Nat) (4 : Nat)
 (vB (18446744073709551616 : Nat)
 (nB (18446744073709551616 : Nat) (4 : Nat)
 (fsb
 (vB (18446744073709551616 : Nat)
 (nB (18446744073709551616 : Nat) (4 : Nat)
 (vB (18446744073709551616 : Nat) (nB (18446744073709551616 : Nat) (4 : Nat) ((vB (18446744073709551616 : Nat) a' + vB (18446744073709551616 : Nat) b') % FP)) *
 vB (18446744073709551616 : Nat) (nB (18446744073709551616 : Nat) (4 : Nat) (fsb (vB (18446744073709551616 : Nat) a) (vB (18446744073709551616 : Nat) b))) %
 FP)))
 (vB (18446744073709551616 : Nat)
 (nB (18446744073709551616 : Nat) (4 : Nat)
 (vB (18446744073709551616 : Nat) (nB (18446744073709551616 : Nat) (4 : Nat) (fsb (vB (18446744073709551616 : Nat) a') (vB (18446744073709551616 : Nat) b'))) *
 vB (18446744073709551616 : Nat) (nB (18446744073709551616 : Nat) (4 : Nat) ((vB (18446744073709551616 : Nat) a + vB (18446744073709551616 : Nat) b) % FP)) %
 FP))))) *
 vB (18446744073709551616 : Nat)
 (nB (18446744073709551616 : Nat) (4 : Nat)
 (fsb
 (vB (18446744073709551616 : Nat)
 (nB (18446744073709551616 : Nat) (4 : Nat)
 (vB (18446744073709551616 : Nat) (nB (18446744073709551616 : Nat) (4 : Nat) ((vB (18446744073709551616 : Nat) a' + vB (18446744073709551616 : Nat) b') % FP)) *
 vB (18446744073709551616 : Nat) (nB (18446744073709551616 : Nat) (4 : Nat) (fsb (vB (18446744073709551616 : Nat) a) (vB (18446744073709551616 : Nat) b))) %
 FP)))
 (vB (18446744073709551616 : Nat)
 (nB (18446744073709551616 : Nat) (4 : Nat)
 (vB (18446744073709551616 : Nat) (nB (18446744073709551616 : Nat) (4 : Nat) (fsb (vB (18446744073709551616 : Nat) a') (vB (18446744073709551616 : Nat) b'))) *
 vB (18446744073709551616 : Nat) (nB (18446744073709551616 : Nat) (4 : Nat) ((vB (18446744073709551616 : Nat) a + vB (18446744073709551616 : Nat) b) % FP)) %
 FP))))) %
 FP))] =
 [D.arr IntKind.u64 (4 : Nat) l, D.arr IntKind.u64 (4 : Nat) m] ∧
 isN l ∧ isN m) ∧
 (false = false ∧ ((0 : Nat) < (2 : Nat) ∧ Sk.arr (4 : Nat) = Sk.arr (4 : Nat)) ∧ false = false ∧ ((1 : Nat) < (2 : Nat) ∧ Sk.arr (4 : Nat) = Sk.arr (4 : Nat)) ∧ True) ∧
 (Sk.st [Sk.arr (4 : Nat), Sk.arr (4 : Nat)] = Sk.st [Sk.arr (4 : Nat), Sk.arr (4 : Nat)] ∧ (8 : Nat) ≠ (0 : Nat) ∧ (8 : Nat) = (8 : Nat) ∧ false = false) ∧
 (((8 : Nat) ≠ (0 : Nat) ∧ (8 : Nat) = (8 : Nat) ∧ true = true) ∧ True) ∧
 D.st
 [D.arr IntKind.u64 (4 : Nat)
 (nB (18446744073709551616 : Nat) (4 : Nat)
 (vB (18446744073709551616 : Nat)
 (nB (18446744073709551616 : Nat) (4 : Nat)
 ((vB (18446744073709551616 : Nat)
 (nB (18446744073709551616 : Nat) (4 : Nat)
 (vB (18446744073709551616 : Nat) (nB (18446744073709551616 : Nat) (4 : Nat) ((vB (18446744073709551616 : Nat) a' + vB (18446744073709551616 : Nat) b') % FP)) *
 vB (18446744073709551616 : Nat) (nB (18446744073709551616 : Nat) (4 : Nat) (fsb (vB (18446744073709551616 : Nat) a) (vB (18446744073709551616 : Nat) b))) %
 FP)) +
 vB (18446744073709551616 : Nat)
 (nB (18446744073709551616 : Nat) (4 : Nat)
 (vB (18446744073709551616 : Nat) (nB (18446744073709551616 : Nat) (4 : Nat) (fsb (vB (18446744073709551616 : Nat) a') (vB (18446744073709551616 : Nat) b'))) *
 vB (18446744073709551616 : Nat) (nB (18446744073709551616 : Nat) (4 : Nat) ((vB (18446744073709551616 : Nat) a + vB (18446744073709551616 : Nat) b) % FP)) %
 FP))) %
 FP)) *
 vB (18446744073709551616 : Nat)
 (nB (18446744073709551616 : Nat) (4 : Nat)
 ((vB (18446744073709551616 : Nat)
 (nB (18446744073709551616 : Nat) (4 : Nat)
 (vB (18446744073709551616 : Nat) (nB (18446744073709551616 : Nat) (4 : Nat) ((vB (18446744073709551616 : Nat) a' + vB (18446744073709551616 : Nat) b') % FP)) *
 vB (18446744073709551616 : Nat) (nB (18446744073709551616 : Nat) (4 : Nat) (fsb (vB (18446744073709551616 : Nat) a) (vB (18446744073709551616 : Nat) b))) %
 FP)) +
 vB (18446744073709551616 : Nat)
 (nB (18446744073709551616 : Nat) (4 : Nat)
 (vB (18446744073709551616 : Nat) (nB (18446744073709551616 : Nat) (4 : Nat) (fsb (vB (18446744073709551616 : Nat) a') (vB (18446744073709551616 : Nat) b'))) *
 vB (18446744073709551616 : Nat) (nB (18446744073709551616 : Nat) (4 : Nat) ((vB (18446744073709551616 : Nat) a + vB (18446744073709551616 : Nat) b) % FP)) %
 FP))) %
 FP)) %
 FP)),
 D.arr IntKind.u64 (4 : Nat)
 (nB (18446744073709551616 : Nat) (4 : Nat)
 (vB (18446744073709551616 : Nat) u *
 vB (18446744073709551616 : Nat)
 (nB (18446744073709551616 : Nat) (4 : Nat)
 (vB (18446744073709551616 : Nat)
 (nB (18446744073709551616 : Nat) (4 : Nat)
 (fsb
 (vB (18446744073709551616 : Nat)
 (nB (18446744073709551616 : Nat) (4 : Nat)
 (vB (18446744073709551616 : Nat) (nB (18446744073709551616 : Nat) (4 : Nat) ((vB (18446744073709551616 : Nat) a' + vB (18446744073709551616 : Nat) b') % FP)) *
 vB (18446744073709551616 : Nat) (nB (18446744073709551616 : Nat) (4 : Nat) (fsb (vB (18446744073709551616 : Nat) a) (vB (18446744073709551616 : Nat) b))) %
 FP)))
 (vB (18446744073709551616 : Nat)
 (nB (18446744073709551616 : Nat) (4 : Nat)
 (vB (18446744073709551616 : Nat) (nB (18446744073709551616 : Nat) (4 : Nat) (fsb (vB (18446744073709551616 : Nat) a') (vB (18446744073709551616 : Nat) b'))) *
 vB (18446744073709551616 : Nat) (nB (18446744073709551616 : Nat) (4 : Nat) ((vB (18446744073709551616 : Nat) a + vB (18446744073709551616 : Nat) b) % FP)) %
 FP))))) *
 vB (18446744073709551616 : Nat)
 (nB (18446744073709551616 : Nat) (4 : Nat)
 (fsb
 (vB (18446744073709551616 : Nat)
 (nB (18446744073709551616 : Nat) (4 : Nat)
 (vB (18446744073709551616 : Nat) (nB (18446744073709551616 : Nat) (4 : Nat) ((vB (18446744073709551616 : Nat) a' + vB (18446744073709551616 : Nat) b') % FP)) *
 vB (18446744073709551616 : Nat) (nB (18446744073709551616 : Nat) (4 : Nat) (fsb (vB (18446744073709551616 : Nat) a) (vB (18446744073709551616 : Nat) b))) %
 FP)))
 (vB (18446744073709551616 : Nat)
 (nB (18446744073709551616 : Nat) (4 : Nat)
 (vB (18446744073709551616 : Nat) (nB (18446744073709551616 : Nat) (4 : Nat) (fsb (vB (18446744073709551616 : Nat) a') (vB (18446744073709551616 : Nat) b'))) *
 vB (18446744073709551616 : Nat) (nB (18446744073709551616 : Nat) (4 : Nat) ((vB (18446744073709551616 : Nat) a + vB (18446744073709551616 : Nat) b) % FP)) %
 FP))))) %
 FP)) %
 FP))] =
 F) := by kernel_rfl
set_option maxRecDepth 100000 in
theorem vc51  (l m : List Int) (F : D)  :
    (owed c51 (inv51 (wv l) (wv m)) Try.f51 [num4 l, num4 m] F) = (
 (True ∧ false = false) ∧
 (True ∧ false = false) ∧
 (True ∧ (4 : Nat) ≠ (0 : Nat)) ∧
 ((1 : Nat) = (1 : Nat) ∧ false = false ∧ ((0 : Nat) < (4 : Nat) ∧ ([] : List Nat) = [] ∧ true = true) ∧ True) ∧
 (false = false ∧ ((0 : Nat) < (2 : Nat) ∧ Sk.arr (4 : Nat) = Sk.arr (4 : Nat)) ∧ True) ∧
 (true = true ∧ (4 : Nat) ≠ (0 : Nat) ∧ (4 : Nat) = (4 : Nat) ∧ true = true) ∧
 ((1 : Nat) = (1 : Nat) ∧ false = false ∧ ((0 : Nat) < (4 : Nat) ∧ ([] : List Nat) = [] ∧ true = true) ∧ True) ∧
 (false = false ∧ ((0 : Nat) < (2 : Nat) ∧ Sk.arr (4 : Nat) = Sk.arr (4 : Nat)) ∧ false = false ∧ ((1 : Nat) < (2 : Nat) ∧ Sk.arr (4 : Nat) = Sk.arr (4 : Nat)) ∧ True) ∧
 (True ∧ (8 : Nat) ≠ (0 : Nat)) ∧
 (True ∧ (8 : Nat) ≠ (0 : Nat)) ∧
 (true = true ∧ Sk.st [Sk.arr (4 : Nat), Sk.arr (4 : Nat)] = Sk.st [Sk.arr (4 : Nat), Sk.arr (4 : Nat)] ∧ (8 : Nat) ≠ (0 : Nat) ∧ (8 : Nat) = (8 : Nat) ∧ false = false) ∧
 (true = true ∧ Sk.st [Sk.arr (4 : Nat), Sk.arr (4 : Nat)] = Sk.st [Sk.arr (4 : Nat), Sk.arr (4 : Nat)] ∧ (8 : Nat) ≠ (0 : Nat) ∧ (8 : Nat) = (8 : Nat) ∧ false = false) ∧
 True ∧
 (((AV.d (D.val (Value.int IntKind.i64 (255 : Int))) = AV.d (D.val (Value.int IntKind.i64 ((255 : Int) - (↑((255 : Int) - (255 : Int)).toNat : Int)))) ∧ True) ∧
 (some (Blk.fix (D.arr IntKind.u64 (4 : Nat) l)) = some (Blk.fix (D.arr IntKind.u64 (4 : Nat) l)) ∧
 some (Blk.fix (D.arr IntKind.u64 (4 : Nat) m)) = some (Blk.fix (D.arr IntKind.u64 (4 : Nat) m)) ∧
 some (Blk.fix (D.arr IntKind.u64 (4 : Nat) [(0 : Int), (0 : Int), (0 : Int), (0 : Int)])) = some (Blk.fix (D.arr IntKind.u64 (4 : Nat) [(0 : Int), (0 : Int), (0 : Int), (0 : Int)])) ∧
 some (Blk.fix (D.st [D.arr IntKind.u64 (4 : Nat) [(1 : Int), (0 : Int), (0 : Int), (0 : Int)], D.arr IntKind.u64 (4 : Nat) [(0 : Int), (0 : Int), (0 : Int), (0 : Int)]])) =
 some
 (Blk.fix
 (D.st
 [D.arr IntKind.u64 (4 : Nat) (nB (18446744073709551616 : Nat) (4 : Nat) (ldS (vB (18446744073709551616 : Nat) l) (vB (18446744073709551616 : Nat) m) ((255 : Int) - (255 : Int)).toNat).a),
 D.arr IntKind.u64 (4 : Nat) (nB (18446744073709551616 : Nat) (4 : Nat) (ldS (vB (18446744073709551616 : Nat) l) (vB (18446744073709551616 : Nat) m) ((255 : Int) - (255 : Int)).toNat).b)])) ∧
 some (Blk.fix (D.st [D.arr IntKind.u64 (4 : Nat) m, D.arr IntKind.u64 (4 : Nat) [(1 : Int), (0 : Int), (0 : Int), (0 : Int)]])) =
 some
 (Blk.fix
 (D.st
 [D.arr IntKind.u64 (4 : Nat) (nB (18446744073709551616 : Nat) (4 : Nat) (ldS (vB (18446744073709551616 : Nat) l) (vB (18446744073709551616 : Nat) m) ((255 : Int) - (255 : Int)).toNat).c),
 D.arr IntKind.u64 (4 : Nat) (nB (18446744073709551616 : Nat) (4 : Nat) (ldS (vB (18446744073709551616 : Nat) l) (vB (18446744073709551616 : Nat) m) ((255 : Int) - (255 : Int)).toNat).d)])) ∧
 True) ∧
 true = true) ∧
 ((255 : Int) - (255 : Int)).toNat ≤ (256 : Nat)) ∧
 ∀ (x : Nat),
 x ≤ (256 : Nat) →
 true = true ∧
 True ∧
 True ∧
 match decide ((255 : Int) - (↑x : Int) ≥ (0 : Int)) with
 | true =>
  ((4 : Nat) ≠ (0 : Nat) ∧ (4 : Nat) = (4 : Nat) ∧ true = true) ∧
  True ∧
  (∃ (l_1 : List Int), ∃ (i : Int), [D.arr IntKind.u64 (4 : Nat) l, D.val (Value.int IntKind.i64 ((255 : Int) - (↑x : Int)))] = [D.arr IntKind.u64 (4 : Nat) l_1, D.val (Value.int IntKind.i64 i)] ∧ isN l_1 ∧ i64ok i) ∧
  True ∧
  True ∧
  (true = true ∧ (8 : Nat) ≠ (0 : Nat) ∧ (8 : Nat) = (8 : Nat) ∧ true = true) ∧
  (true = true ∧ (8 : Nat) ≠ (0 : Nat) ∧ (8 : Nat) = (8 : Nat) ∧ true = true) ∧
  (∃ (c : Nat),
  ∃ (a : List Int),
  ∃ (b : List Int),
  ∃ (a' : List Int),
  ∃ (b' : List Int),
  [D.val (Value.int IntKind.u64 (↑(bitN (vB (18446744073709551616 : Nat) l) ((255 : Int) - (↑x : Int))) : Int)),
  D.st [D.arr IntKind.u64 (4 : Nat) (nB (18446744073709551616 : Nat) (4 : Nat) (ldS (vB (18446744073709551616 : Nat) l) (vB (18446744073709551616 : Nat) m) x).a), D.arr IntKind.u64 (4 : Nat) (nB (18446744073709551616 : Nat) (4 : Nat) (ldS (vB (18446744073709551616 : Nat) l) (vB (18446744073709551616 : Nat) m) x).b)],
  D.st [D.arr IntKind.u64 (4 : Nat) (nB (18446744073709551616 : Nat) (4 : Nat) (ldS (vB (18446744073709551616 : Nat) l) (vB (18446744073709551616 : Nat) m) x).c), D.arr IntKind.u64 (4 : Nat) (nB (18446744073709551616 : Nat) (4 : Nat) (ldS (vB (18446744073709551616 : Nat) l) (vB (18446744073709551616 : Nat) m) x).d)]] =
  [D.val (Value.int IntKind.u64 (↑c : Int)), D.st [D.arr IntKind.u64 (4 : Nat) a, D.arr IntKind.u64 (4 : Nat) b], D.st [D.arr IntKind.u64 (4 : Nat) a', D.arr IntKind.u64 (4 : Nat) b']] ∧
  c < (18446744073709551616 : Nat) ∧ (isN a ∧ isN b) ∧ isN a' ∧ isN b') ∧
  True ∧
  ((0 : Nat) < (2 : Nat) ∧ false = false) ∧
  ((1 : Nat) < (2 : Nat) ∧ false = false) ∧
  (true = true ∧ Sk.st [Sk.arr (4 : Nat), Sk.arr (4 : Nat)] = Sk.st [Sk.arr (4 : Nat), Sk.arr (4 : Nat)] ∧ (8 : Nat) ≠ (0 : Nat) ∧ (8 : Nat) = (8 : Nat) ∧ false = false) ∧
  (true = true ∧ Sk.st [Sk.arr (4 : Nat), Sk.arr (4 : Nat)] = Sk.st [Sk.arr (4 : Nat), Sk.arr (4 : Nat)] ∧ (8 : Nat) ≠ (0 : Nat) ∧ (8 : Nat) = (8 : Nat) ∧ false = false) ∧
  (true = true ∧ (8 : Nat) ≠ (0 : Nat) ∧ (8 : Nat) = (8 : Nat) ∧ true = true) ∧
  (∃ (a : List Int),
  ∃ (b : List Int),
  [D.st
  [D.arr IntKind.u64 (4 : Nat)
  (pkL (↑(bitN (vB (18446744073709551616 : Nat) l) ((255 : Int) - (↑x : Int))) : Int).toNat (nB (18446744073709551616 : Nat) (4 : Nat) (ldS (vB (18446744073709551616 : Nat) l) (vB (18446744073709551616 : Nat) m) x).a)
  (nB (18446744073709551616 : Nat) (4 : Nat) (ldS (vB (18446744073709551616 : Nat) l) (vB (18446744073709551616 : Nat) m) x).c)),
  D.arr IntKind.u64 (4 : Nat)
  (pkL (↑(bitN (vB (18446744073709551616 : Nat) l) ((255 : Int) - (↑x : Int))) : Int).toNat (nB (18446744073709551616 : Nat) (4 : Nat) (ldS (vB (18446744073709551616 : Nat) l) (vB (18446744073709551616 : Nat) m) x).b)
  (nB (18446744073709551616 : Nat) (4 : Nat) (ldS (vB (18446744073709551616 : Nat) l) (vB (18446744073709551616 : Nat) m) x).d))]] =
  [D.st [D.arr IntKind.u64 (4 : Nat) a, D.arr IntKind.u64 (4 : Nat) b]] ∧
  isN a ∧ isN b) ∧
  (true = true ∧ (8 : Nat) ≠ (0 : Nat) ∧ (8 : Nat) = (8 : Nat) ∧ true = true) ∧
  (true = true ∧ (8 : Nat) ≠ (0 : Nat) ∧ (8 : Nat) = (8 : Nat) ∧ true = true) ∧
  (true = true ∧ (4 : Nat) ≠ (0 : Nat) ∧ (4 : Nat) = (4 : Nat) ∧ true = true) ∧
  (∃ (a : List Int),
  ∃ (b : List Int),
  ∃ (a' : List Int),
  ∃ (b' : List Int),
  ∃ (u : List Int),
  [D.st
  [D.arr IntKind.u64 (4 : Nat)
  (pkL (↑(bitN (vB (18446744073709551616 : Nat) l) ((255 : Int) - (↑x : Int))) : Int).toNat (nB (18446744073709551616 : Nat) (4 : Nat) (ldS (vB (18446744073709551616 : Nat) l) (vB (18446744073709551616 : Nat) m) x).a)
  (nB (18446744073709551616 : Nat) (4 : Nat) (ldS (vB (18446744073709551616 : Nat) l) (vB (18446744073709551616 : Nat) m) x).c)),
  D.arr IntKind.u64 (4 : Nat)
  (pkL (↑(bitN (vB (18446744073709551616 : Nat) l) ((255 : Int) - (↑x : Int))) : Int).toNat (nB (18446744073709551616 : Nat) (4 : Nat) (ldS (vB (18446744073709551616 : Nat) l) (vB (18446744073709551616 : Nat) m) x).b)
  (nB (18446744073709551616 : Nat) (4 : Nat) (ldS (vB (18446744073709551616 : Nat) l) (vB (18446744073709551616 : Nat) m) x).d))],
  D.st
  [D.arr IntKind.u64 (4 : Nat)
  (pkL (↑(bitN (vB (18446744073709551616 : Nat) l) ((255 : Int) - (↑x : Int))) : Int).toNat (nB (18446744073709551616 : Nat) (4 : Nat) (ldS (vB (18446744073709551616 : Nat) l) (vB (18446744073709551616 : Nat) m) x).c)
  (nB (18446744073709551616 : Nat) (4 : Nat) (ldS (vB (18446744073709551616 : Nat) l) (vB (18446744073709551616 : Nat) m) x).a)),
  D.arr IntKind.u64 (4 : Nat)
  (pkL (↑(bitN (vB (18446744073709551616 : Nat) l) ((255 : Int) - (↑x : Int))) : Int).toNat (nB (18446744073709551616 : Nat) (4 : Nat) (ldS (vB (18446744073709551616 : Nat) l) (vB (18446744073709551616 : Nat) m) x).d)
  (nB (18446744073709551616 : Nat) (4 : Nat) (ldS (vB (18446744073709551616 : Nat) l) (vB (18446744073709551616 : Nat) m) x).b))],
  D.arr IntKind.u64 (4 : Nat) m] =
  [D.st [D.arr IntKind.u64 (4 : Nat) a, D.arr IntKind.u64 (4 : Nat) b], D.st [D.arr IntKind.u64 (4 : Nat) a', D.arr IntKind.u64 (4 : Nat) b'], D.arr IntKind.u64 (4 : Nat) u] ∧
  (isN a ∧ isN b) ∧ (isN a' ∧ isN b') ∧ isN u) ∧
  (true = true ∧ Sk.st [Sk.arr (4 : Nat), Sk.arr (4 : Nat)] = Sk.st [Sk.arr (4 : Nat), Sk.arr (4 : Nat)] ∧ (8 : Nat) ≠ (0 : Nat) ∧ (8 : Nat) = (8 : Nat) ∧ false = false) ∧
  (true = true ∧ Sk.st [Sk.arr (4 : Nat), Sk.arr (4 : Nat)] = Sk.st [Sk.arr (4 : Nat), Sk.arr (4 : Nat)] ∧ (8 : Nat) ≠ (0 : Nat) ∧ (8 : Nat) = (8 : Nat) ∧ false = false) ∧
  True ∧
  (true = true ∧ (8 : Nat) ≠ (0 : Nat) ∧ (8 : Nat) = (8 : Nat) ∧ true = true) ∧
  (true = true ∧ (8 : Nat) ≠ (0 : Nat) ∧ (8 : Nat) = (8 : Nat) ∧ true = true) ∧
  (∃ (c : Nat),
  ∃ (a : List Int),
  ∃ (b : List Int),
  ∃ (a' : List Int),
  ∃ (b' : List Int),
  [D.val (Value.int IntKind.u64 (↑(bitN (vB (18446744073709551616 : Nat) l) ((255 : Int) - (↑x : Int))) : Int)),
  D.st
  [D.arr IntKind.u64 (4 : Nat)
  (nB (18446744073709551616 : Nat) (4 : Nat)
  (tX
  (vB (18446744073709551616 : Nat)
  (pkL (↑(bitN (vB (18446744073709551616 : Nat) l) ((255 : Int) - (↑x : Int))) : Int).toNat (nB (18446744073709551616 : Nat) (4 : Nat) (ldS (vB (18446744073709551616 : Nat) l) (vB (18446744073709551616 : Nat) m) x).a)
  (nB (18446744073709551616 : Nat) (4 : Nat) (ldS (vB (18446744073709551616 : Nat) l) (vB (18446744073709551616 : Nat) m) x).c)))
  (vB (18446744073709551616 : Nat)
  (pkL (↑(bitN (vB (18446744073709551616 : Nat) l) ((255 : Int) - (↑x : Int))) : Int).toNat (nB (18446744073709551616 : Nat) (4 : Nat) (ldS (vB (18446744073709551616 : Nat) l) (vB (18446744073709551616 : Nat) m) x).b)
  (nB (18446744073709551616 : Nat) (4 : Nat) (ldS (vB (18446744073709551616 : Nat) l) (vB (18446744073709551616 : Nat) m) x).d))))),
  D.arr IntKind.u64 (4 : Nat)
  (nB (18446744073709551616 : Nat) (4 : Nat)
  (tZ
  (vB (18446744073709551616 : Nat)
  (pkL (↑(bitN (vB (18446744073709551616 : Nat) l) ((255 : Int) - (↑x : Int))) : Int).toNat (nB (18446744073709551616 : Nat) (4 : Nat) (ldS (vB (18446744073709551616 : Nat) l) (vB (18446744073709551616 : Nat) m) x).a)
  (nB (18446744073709551616 : Nat) (4 : Nat) (ldS (vB (18446744073709551616 : Nat) l) (vB (18446744073709551616 : Nat) m) x).c)))
  (vB (18446744073709551616 : Nat)
  (pkL (↑(bitN (vB (18446744073709551616 : Nat) l) ((255 : Int) - (↑x : Int))) : Int).toNat (nB (18446744073709551616 : Nat) (4 : Nat) (ldS (vB (18446744073709551616 : Nat) l) (vB (18446744073709551616 : Nat) m) x).b)
  (nB (18446744073709551616 : Nat) (4 : Nat) (ldS (vB (18446744073709551616 : Nat) l) (vB (18446744073709551616 : Nat) m) x).d)))))],
  D.st
  [D.arr IntKind.u64 (4 : Nat)
  (nB (18446744073709551616 : Nat) (4 : Nat)
  (jX
  (vB (18446744073709551616 : Nat)
  (pkL (↑(bitN (vB (18446744073709551616 : Nat) l) ((255 : Int) - (↑x : Int))) : Int).toNat (nB (18446744073709551616 : Nat) (4 : Nat) (ldS (vB (18446744073709551616 : Nat) l) (vB (18446744073709551616 : Nat) m) x).a)
  (nB (18446744073709551616 : Nat) (4 : Nat) (ldS (vB (18446744073709551616 : Nat) l) (vB (18446744073709551616 : Nat) m) x).c)))
  (vB (18446744073709551616 : Nat)
  (pkL (↑(bitN (vB (18446744073709551616 : Nat) l) ((255 : Int) - (↑x : Int))) : Int).toNat (nB (18446744073709551616 : Nat) (4 : Nat) (ldS (vB (18446744073709551616 : Nat) l) (vB (18446744073709551616 : Nat) m) x).b)
  (nB (18446744073709551616 : Nat) (4 : Nat) (ldS (vB (18446744073709551616 : Nat) l) (vB (18446744073709551616 : Nat) m) x).d)))
  (vB (18446744073709551616 : Nat)
  (pkL (↑(bitN (vB (18446744073709551616 : Nat) l) ((255 : Int) - (↑x : Int))) : Int).toNat (nB (18446744073709551616 : Nat) (4 : Nat) (ldS (vB (18446744073709551616 : Nat) l) (vB (18446744073709551616 : Nat) m) x).c)
  (nB (18446744073709551616 : Nat) (4 : Nat) (ldS (vB (18446744073709551616 : Nat) l) (vB (18446744073709551616 : Nat) m) x).a)))
  (vB (18446744073709551616 : Nat)
  (pkL (↑(bitN (vB (18446744073709551616 : Nat) l) ((255 : Int) - (↑x : Int))) : Int).toNat (nB (18446744073709551616 : Nat) (4 : Nat) (ldS (vB (18446744073709551616 : Nat) l) (vB (18446744073709551616 : Nat) m) x).d)
  (nB (18446744073709551616 : Nat) (4 : Nat) (ldS (vB (18446744073709551616 : Nat) l) (vB (18446744073709551616 : Nat) m) x).b))))),
  D.arr IntKind.u64 (4 : Nat)
  (nB (18446744073709551616 : Nat) (4 : Nat)
  (jZ
  (vB (18446744073709551616 : Nat)
  (pkL (↑(bitN (vB (18446744073709551616 : Nat) l) ((255 : Int) - (↑x : Int))) : Int).toNat (nB (18446744073709551616 : Nat) (4 : Nat) (ldS (vB (18446744073709551616 : Nat) l) (vB (18446744073709551616 : Nat) m) x).a)
  (nB (18446744073709551616 : Nat) (4 : Nat) (ldS (vB (18446744073709551616 : Nat) l) (vB (18446744073709551616 : Nat) m) x).c)))
  (vB (18446744073709551616 : Nat)
  (pkL (↑(bitN (vB (18446744073709551616 : Nat) l) ((255 : Int) - (↑x : Int))) : Int).toNat (nB (18446744073709551616 : Nat) (4 : Nat) (ldS (vB (18446744073709551616 : Nat) l) (vB (18446744073709551616 : Nat) m) x).b)
  (nB (18446744073709551616 : Nat) (4 : Nat) (ldS (vB (18446744073709551616 : Nat) l) (vB (18446744073709551616 : Nat) m) x).d)))
  (vB (18446744073709551616 : Nat)
  (pkL (↑(bitN (vB (18446744073709551616 : Nat) l) ((255 : Int) - (↑x : Int))) : Int).toNat (nB (18446744073709551616 : Nat) (4 : Nat) (ldS (vB (18446744073709551616 : Nat) l) (vB (18446744073709551616 : Nat) m) x).c)
  (nB (18446744073709551616 : Nat) (4 : Nat) (ldS (vB (18446744073709551616 : Nat) l) (vB (18446744073709551616 : Nat) m) x).a)))
  (vB (18446744073709551616 : Nat)
  (pkL (↑(bitN (vB (18446744073709551616 : Nat) l) ((255 : Int) - (↑x : Int))) : Int).toNat (nB (18446744073709551616 : Nat) (4 : Nat) (ldS (vB (18446744073709551616 : Nat) l) (vB (18446744073709551616 : Nat) m) x).d)
  (nB (18446744073709551616 : Nat) (4 : Nat) (ldS (vB (18446744073709551616 : Nat) l) (vB (18446744073709551616 : Nat) m) x).b)))
  (vB (18446744073709551616 : Nat) m)))]] =
  [D.val (Value.int IntKind.u64 (↑c : Int)), D.st [D.arr IntKind.u64 (4 : Nat) a, D.arr IntKind.u64 (4 : Nat) b], D.st [D.arr IntKind.u64 (4 : Nat) a', D.arr IntKind.u64 (4 : Nat) b']] ∧
  c < (18446744073709551616 : Nat) ∧ (isN a ∧ isN b) ∧ isN a' ∧ isN b') ∧
  True ∧
  ((0 : Nat) < (2 : Nat) ∧ false = false) ∧
  ((1 : Nat) < (2 : Nat) ∧ false = false) ∧
  (true = true ∧ Sk.st [Sk.arr (4 : Nat), Sk.arr (4 : Nat)] = Sk.st [Sk.arr (4 : Nat), Sk.arr (4 : Nat)] ∧ (8 : Nat) ≠ (0 : Nat) ∧ (8 : Nat) = (8 : Nat) ∧ false = false) ∧
  (true = true ∧ Sk.st [Sk.arr (4 : Nat), Sk.arr (4 : Nat)] = Sk.st [Sk.arr (4 : Nat), Sk.arr (4 : Nat)] ∧ (8 : Nat) ≠ (0 : Nat) ∧ (8 : Nat) = (8 : Nat) ∧ false = false) ∧
  True ∧
  True ∧
  True ∧
  ((AV.d (D.val (Value.int IntKind.i64 (IntKind.i64.wrap ((255 : Int) - (↑x : Int) - (1 : Int))))) = AV.d (D.val (Value.int IntKind.i64 ((255 : Int) - (↑((255 : Int) - IntKind.i64.wrap ((255 : Int) - (↑x : Int) - (1 : Int))).toNat : Int)))) ∧ True) ∧
  (some (Blk.fix (D.arr IntKind.u64 (4 : Nat) l)) = some (Blk.fix (D.arr IntKind.u64 (4 : Nat) l)) ∧
  some (Blk.fix (D.arr IntKind.u64 (4 : Nat) m)) = some (Blk.fix (D.arr IntKind.u64 (4 : Nat) m)) ∧
  some (Blk.fix (D.arr IntKind.u64 (4 : Nat) [(0 : Int), (0 : Int), (0 : Int), (0 : Int)])) = some (Blk.fix (D.arr IntKind.u64 (4 : Nat) [(0 : Int), (0 : Int), (0 : Int), (0 : Int)])) ∧
  some
  (Blk.fix
  (D.st
  [D.arr IntKind.u64 (4 : Nat)
  (pkL (↑(bitN (vB (18446744073709551616 : Nat) l) ((255 : Int) - (↑x : Int))) : Int).toNat
  (nB (18446744073709551616 : Nat) (4 : Nat)
  (tX
  (vB (18446744073709551616 : Nat)
  (pkL (↑(bitN (vB (18446744073709551616 : Nat) l) ((255 : Int) - (↑x : Int))) : Int).toNat (nB (18446744073709551616 : Nat) (4 : Nat) (ldS (vB (18446744073709551616 : Nat) l) (vB (18446744073709551616 : Nat) m) x).a)
  (nB (18446744073709551616 : Nat) (4 : Nat) (ldS (vB (18446744073709551616 : Nat) l) (vB (18446744073709551616 : Nat) m) x).c)))
  (vB (18446744073709551616 : Nat)
  (pkL (↑(bitN (vB (18446744073709551616 : Nat) l) ((255 : Int) - (↑x : Int))) : Int).toNat (nB (18446744073709551616 : Nat) (4 : Nat) (ldS (vB (18446744073709551616 : Nat) l) (vB (18446744073709551616 : Nat) m) x).b)
  (nB (18446744073709551616 : Nat) (4 : Nat) (ldS (vB (18446744073709551616 : Nat) l) (vB (18446744073709551616 : Nat) m) x).d)))))
  (nB (18446744073709551616 : Nat) (4 : Nat)
  (jX
  (vB (18446744073709551616 : Nat)
  (pkL (↑(bitN (vB (18446744073709551616 : Nat) l) ((255 : Int) - (↑x : Int))) : Int).toNat (nB (18446744073709551616 : Nat) (4 : Nat) (ldS (vB (18446744073709551616 : Nat) l) (vB (18446744073709551616 : Nat) m) x).a)
  (nB (18446744073709551616 : Nat) (4 : Nat) (ldS (vB (18446744073709551616 : Nat) l) (vB (18446744073709551616 : Nat) m) x).c)))
  (vB (18446744073709551616 : Nat)
  (pkL (↑(bitN (vB (18446744073709551616 : Nat) l) ((255 : Int) - (↑x : Int))) : Int).toNat (nB (18446744073709551616 : Nat) (4 : Nat) (ldS (vB (18446744073709551616 : Nat) l) (vB (18446744073709551616 : Nat) m) x).b)
  (nB (18446744073709551616 : Nat) (4 : Nat) (ldS (vB (18446744073709551616 : Nat) l) (vB (18446744073709551616 : Nat) m) x).d)))
  (vB (18446744073709551616 : Nat)
  (pkL (↑(bitN (vB (18446744073709551616 : Nat) l) ((255 : Int) - (↑x : Int))) : Int).toNat (nB (18446744073709551616 : Nat) (4 : Nat) (ldS (vB (18446744073709551616 : Nat) l) (vB (18446744073709551616 : Nat) m) x).c)
  (nB (18446744073709551616 : Nat) (4 : Nat) (ldS (vB (18446744073709551616 : Nat) l) (vB (18446744073709551616 : Nat) m) x).a)))
  (vB (18446744073709551616 : Nat)
  (pkL (↑(bitN (vB (18446744073709551616 : Nat) l) ((255 : Int) - (↑x : Int))) : Int).toNat (nB (18446744073709551616 : Nat) (4 : Nat) (ldS (vB (18446744073709551616 : Nat) l) (vB (18446744073709551616 : Nat) m) x).d)
  (nB (18446744073709551616 : Nat) (4 : Nat) (ldS (vB (18446744073709551616 : Nat) l) (vB (18446744073709551616 : Nat) m) x).b)))))),
  D.arr IntKind.u64 (4 : Nat)
  (pkL (↑(bitN (vB (18446744073709551616 : Nat) l) ((255 : Int) - (↑x : Int))) : Int).toNat
  (nB (18446744073709551616 : Nat) (4 : Nat)
  (tZ
  (vB (18446744073709551616 : Nat)
  (pkL (↑(bitN (vB (18446744073709551616 : Nat) l) ((255 : Int) - (↑x : Int))) : Int).toNat (nB (18446744073709551616 : Nat) (4 : Nat) (ldS (vB (18446744073709551616 : Nat) l) (vB (18446744073709551616 : Nat) m) x).a)
  (nB (18446744073709551616 : Nat) (4 : Nat) (ldS (vB (18446744073709551616 : Nat) l) (vB (18446744073709551616 : Nat) m) x).c)))
  (vB (18446744073709551616 : Nat)
  (pkL (↑(bitN (vB (18446744073709551616 : Nat) l) ((255 : Int) - (↑x : Int))) : Int).toNat (nB (18446744073709551616 : Nat) (4 : Nat) (ldS (vB (18446744073709551616 : Nat) l) (vB (18446744073709551616 : Nat) m) x).b)
  (nB (18446744073709551616 : Nat) (4 : Nat) (ldS (vB (18446744073709551616 : Nat) l) (vB (18446744073709551616 : Nat) m) x).d)))))
  (nB (18446744073709551616 : Nat) (4 : Nat)
  (jZ
  (vB (18446744073709551616 : Nat)
  (pkL (↑(bitN (vB (18446744073709551616 : Nat) l) ((255 : Int) - (↑x : Int))) : Int).toNat (nB (18446744073709551616 : Nat) (4 : Nat) (ldS (vB (18446744073709551616 : Nat) l) (vB (18446744073709551616 : Nat) m) x).a)
  (nB (18446744073709551616 : Nat) (4 : Nat) (ldS (vB (18446744073709551616 : Nat) l) (vB (18446744073709551616 : Nat) m) x).c)))
  (vB (18446744073709551616 : Nat)
  (pkL (↑(bitN (vB (18446744073709551616 : Nat) l) ((255 : Int) - (↑x : Int))) : Int).toNat (nB (18446744073709551616 : Nat) (4 : Nat) (ldS (vB (18446744073709551616 : Nat) l) (vB (18446744073709551616 : Nat) m) x).b)
  (nB (18446744073709551616 : Nat) (4 : Nat) (ldS (vB (18446744073709551616 : Nat) l) (vB (18446744073709551616 : Nat) m) x).d)))
  (vB (18446744073709551616 : Nat)
  (pkL (↑(bitN (vB (18446744073709551616 : Nat) l) ((255 : Int) - (↑x : Int))) : Int).toNat (nB (18446744073709551616 : Nat) (4 : Nat) (ldS (vB (18446744073709551616 : Nat) l) (vB (18446744073709551616 : Nat) m) x).c)
  (nB (18446744073709551616 : Nat) (4 : Nat) (ldS (vB (18446744073709551616 : Nat) l) (vB (18446744073709551616 : Nat) m) x).a)))
  (vB (18446744073709551616 : Nat)
  (pkL (↑(bitN (vB (18446744073709551616 : Nat) l) ((255 : Int) - (↑x : Int))) : Int).toNat (nB (18446744073709551616 : Nat) (4 : Nat) (ldS (vB (18446744073709551616 : Nat) l) (vB (18446744073709551616 : Nat) m) x).d)
  (nB (18446744073709551616 : Nat) (4 : Nat) (ldS (vB (18446744073709551616 : Nat) l) (vB (18446744073709551616 : Nat) m) x).b)))
  (vB (18446744073709551616 : Nat) m))))])) =
  some
  (Blk.fix
  (D.st
  [D.arr IntKind.u64 (4 : Nat) (nB (18446744073709551616 : Nat) (4 : Nat) (ldS (vB (18446744073709551616 : Nat) l) (vB (18446744073709551616 : Nat) m) ((255 : Int) - IntKind.i64.wrap ((255 : Int) - (↑x : Int) - (1 : Int))).toNat).a),
  D.arr IntKind.u64 (4 : Nat) (nB (18446744073709551616 : Nat) (4 : Nat) (ldS (vB (18446744073709551616 : Nat) l) (vB (18446744073709551616 : Nat) m) ((255 : Int) - IntKind.i64.wrap ((255 : Int) - (↑x : Int) - (1 : Int))).toNat).b)])) ∧
  some
  (Blk.fix
  (D.st
  [D.arr IntKind.u64 (4 : Nat)
  (pkL (↑(bitN (vB (18446744073709551616 : Nat) l) ((255 : Int) - (↑x : Int))) : Int).toNat
  (nB (18446744073709551616 : Nat) (4 : Nat)
  (jX
  (vB (18446744073709551616 : Nat)
  (pkL (↑(bitN (vB (18446744073709551616 : Nat) l) ((255 : Int) - (↑x : Int))) : Int).toNat (nB (18446744073709551616 : Nat) (4 : Nat) (ldS (vB (18446744073709551616 : Nat) l) (vB (18446744073709551616 : Nat) m) x).a)
  (nB (18446744073709551616 : Nat) (4 : Nat) (ldS (vB (18446744073709551616 : Nat) l) (vB (18446744073709551616 : Nat) m) x).c)))
  (vB (18446744073709551616 : Nat)
  (pkL (↑(bitN (vB (18446744073709551616 : Nat) l) ((255 : Int) - (↑x : Int))) : Int).toNat (nB (18446744073709551616 : Nat) (4 : Nat) (ldS (vB (18446744073709551616 : Nat) l) (vB (18446744073709551616 : Nat) m) x).b)
  (nB (18446744073709551616 : Nat) (4 : Nat) (ldS (vB (18446744073709551616 : Nat) l) (vB (18446744073709551616 : Nat) m) x).d)))
  (vB (18446744073709551616 : Nat)
  (pkL (↑(bitN (vB (18446744073709551616 : Nat) l) ((255 : Int) - (↑x : Int))) : Int).toNat (nB (18446744073709551616 : Nat) (4 : Nat) (ldS (vB (18446744073709551616 : Nat) l) (vB (18446744073709551616 : Nat) m) x).c)
  (nB (18446744073709551616 : Nat) (4 : Nat) (ldS (vB (18446744073709551616 : Nat) l) (vB (18446744073709551616 : Nat) m) x).a)))
  (vB (18446744073709551616 : Nat)
  (pkL (↑(bitN (vB (18446744073709551616 : Nat) l) ((255 : Int) - (↑x : Int))) : Int).toNat (nB (18446744073709551616 : Nat) (4 : Nat) (ldS (vB (18446744073709551616 : Nat) l) (vB (18446744073709551616 : Nat) m) x).d)
  (nB (18446744073709551616 : Nat) (4 : Nat) (ldS (vB (18446744073709551616 : Nat) l) (vB (18446744073709551616 : Nat) m) x).b)))))
  (nB (18446744073709551616 : Nat) (4 : Nat)
  (tX
  (vB (18446744073709551616 : Nat)
  (pkL (↑(bitN (vB (18446744073709551616 : Nat) l) ((255 : Int) - (↑x : Int))) : Int).toNat (nB (18446744073709551616 : Nat) (4 : Nat) (ldS (vB (18446744073709551616 : Nat) l) (vB (18446744073709551616 : Nat) m) x).a)
  (nB (18446744073709551616 : Nat) (4 : Nat) (ldS (vB (18446744073709551616 : Nat) l) (vB (18446744073709551616 : Nat) m) x).c)))
  (vB (18446744073709551616 : Nat)
  (pkL (↑(bitN (vB (18446744073709551616 : Nat) l) ((255 : Int) - (↑x : Int))) : Int).toNat (nB (18446744073709551616 : Nat) (4 : Nat) (ldS (vB (18446744073709551616 : Nat) l) (vB (18446744073709551616 : Nat) m) x).b)
  (nB (18446744073709551616 : Nat) (4 : Nat) (ldS (vB (18446744073709551616 : Nat) l) (vB (18446744073709551616 : Nat) m) x).d)))))),
  D.arr IntKind.u64 (4 : Nat)
  (pkL (↑(bitN (vB (18446744073709551616 : Nat) l) ((255 : Int) - (↑x : Int))) : Int).toNat
  (nB (18446744073709551616 : Nat) (4 : Nat)
  (jZ
  (vB (18446744073709551616 : Nat)
  (pkL (↑(bitN (vB (18446744073709551616 : Nat) l) ((255 : Int) - (↑x : Int))) : Int).toNat (nB (18446744073709551616 : Nat) (4 : Nat) (ldS (vB (18446744073709551616 : Nat) l) (vB (18446744073709551616 : Nat) m) x).a)
  (nB (18446744073709551616 : Nat) (4 : Nat) (ldS (vB (18446744073709551616 : Nat) l) (vB (18446744073709551616 : Nat) m) x).c)))
  (vB (18446744073709551616 : Nat)
  (pkL (↑(bitN (vB (18446744073709551616 : Nat) l) ((255 : Int) - (↑x : Int))) : Int).toNat (nB (18446744073709551616 : Nat) (4 : Nat) (ldS (vB (18446744073709551616 : Nat) l) (vB (18446744073709551616 : Nat) m) x).b)
  (nB (18446744073709551616 : Nat) (4 : Nat) (ldS (vB (18446744073709551616 : Nat) l) (vB (18446744073709551616 : Nat) m) x).d)))
  (vB (18446744073709551616 : Nat)
  (pkL (↑(bitN (vB (18446744073709551616 : Nat) l) ((255 : Int) - (↑x : Int))) : Int).toNat (nB (18446744073709551616 : Nat) (4 : Nat) (ldS (vB (18446744073709551616 : Nat) l) (vB (18446744073709551616 : Nat) m) x).c)
  (nB (18446744073709551616 : Nat) (4 : Nat) (ldS (vB (18446744073709551616 : Nat) l) (vB (18446744073709551616 : Nat) m) x).a)))
  (vB (18446744073709551616 : Nat)
  (pkL (↑(bitN (vB (18446744073709551616 : Nat) l) ((255 : Int) - (↑x : Int))) : Int).toNat (nB (18446744073709551616 : Nat) (4 : Nat) (ldS (vB (18446744073709551616 : Nat) l) (vB (18446744073709551616 : Nat) m) x).d)
  (nB (18446744073709551616 : Nat) (4 : Nat) (ldS (vB (18446744073709551616 : Nat) l) (vB (18446744073709551616 : Nat) m) x).b)))
  (vB (18446744073709551616 : Nat) m)))
  (nB (18446744073709551616 : Nat) (4 : Nat)
  (tZ
  (vB (18446744073709551616 : Nat)
  (pkL (↑(bitN (vB (18446744073709551616 : Nat) l) ((255 : Int) - (↑x : Int))) : Int).toNat (nB (18446744073709551616 : Nat) (4 : Nat) (ldS (vB (18446744073709551616 : Nat) l) (vB (18446744073709551616 : Nat) m) x).a)
  (nB (18446744073709551616 : Nat) (4 : Nat) (ldS (vB (18446744073709551616 : Nat) l) (vB (18446744073709551616 : Nat) m) x).c)))
  (vB (18446744073709551616 : Nat)
  (pkL (↑(bitN (vB (18446744073709551616 : Nat) l) ((255 : Int) - (↑x : Int))) : Int).toNat (nB (18446744073709551616 : Nat) (4 : Nat) (ldS (vB (18446744073709551616 : Nat) l) (vB (18446744073709551616 : Nat) m) x).b)
  (nB (18446744073709551616 : Nat) (4 : Nat) (ldS (vB (18446744073709551616 : Nat) l) (vB (18446744073709551616 : Nat) m) x).d))))))])) =
  some
  (Blk.fix
  (D.st
  [D.arr IntKind.u64 (4 : Nat) (nB (18446744073709551616 : Nat) (4 : Nat) (ldS (vB (18446744073709551616 : Nat) l) (vB (18446744073709551616 : Nat) m) ((255 : Int) - IntKind.i64.wrap ((255 : Int) - (↑x : Int) - (1 : Int))).toNat).c),
  D.arr IntKind.u64 (4 : Nat) (nB (18446744073709551616 : Nat) (4 : Nat) (ldS (vB (18446744073709551616 : Nat) l) (vB (18446744073709551616 : Nat) m) ((255 : Int) - IntKind.i64.wrap ((255 : Int) - (↑x : Int) - (1 : Int))).toNat).d)])) ∧
  True) ∧
  true = true) ∧
  ((255 : Int) - IntKind.i64.wrap ((255 : Int) - (↑x : Int) - (1 : Int))).toNat ≤ (256 : Nat) ∧ (256 : Nat) - ((255 : Int) - IntKind.i64.wrap ((255 : Int) - (↑x : Int) - (1 : Int))).toNat < (256 : Nat) - x
 | false =>
  (Sk.st [Sk.arr (4 : Nat), Sk.arr (4 : Nat)] = Sk.st [Sk.arr (4 : Nat), Sk.arr (4 : Nat)] ∧ (0 : Nat) < (2 : Nat)) ∧
  ((4 : Nat) ≠ (0 : Nat) ∧ (4 : Nat) = (4 : Nat) ∧ true = true) ∧
  (Sk.st [Sk.arr (4 : Nat), Sk.arr (4 : Nat)] = Sk.st [Sk.arr (4 : Nat), Sk.arr (4 : Nat)] ∧ (1 : Nat) < (2 : Nat)) ∧
  ((4 : Nat) ≠ (0 : Nat) ∧ (4 : Nat) = (4 : Nat) ∧ true = true) ∧
  (∃ (l_1 : List Int), [D.arr IntKind.u64 (4 : Nat) (nB (18446744073709551616 : Nat) (4 : Nat) (ldS (vB (18446744073709551616 : Nat) l) (vB (18446744073709551616 : Nat) m) x).b)] = [D.arr IntKind.u64 (4 : Nat) l_1] ∧ isN l_1) ∧
  (∃ (l_1 : List Int),
  ∃ (m_1 : List Int),
  [D.arr IntKind.u64 (4 : Nat) (nB (18446744073709551616 : Nat) (4 : Nat) (ldS (vB (18446744073709551616 : Nat) l) (vB (18446744073709551616 : Nat) m) x).a),
  D.arr IntKind.u64 (4 : Nat) (nB (18446744073709551616 : Nat) (4 : Nat) (fpw (vB (18446744073709551616 : Nat) (nB (18446744073709551616 : Nat) (4 : Nat) (ldS (vB (18446744073709551616 : Nat) l) (vB (18446744073709551616 : Nat) m) x).b)) (FP - (2 : Nat))))] =
  [D.arr IntKind.u64 (4 : Nat) l_1, D.arr IntKind.u64 (4 : Nat) m_1] ∧
  isN l_1 ∧ isN m_1) ∧
  (Sk.arr (4 : Nat) = Sk.arr (4 : Nat) ∧ (4 : Nat) ≠ (0 : Nat) ∧ (4 : Nat) = (4 : Nat) ∧ false = false) ∧
  (((4 : Nat) ≠ (0 : Nat) ∧ (4 : Nat) = (4 : Nat) ∧ true = true) ∧ True) ∧
  D.arr IntKind.u64 (4 : Nat)
  (nB (18446744073709551616 : Nat) (4 : Nat)
  (vB (18446744073709551616 : Nat) (nB (18446744073709551616 : Nat) (4 : Nat) (ldS (vB (18446744073709551616 : Nat) l) (vB (18446744073709551616 : Nat) m) x).a) *
  vB (18446744073709551616 : Nat) (nB (18446744073709551616 : Nat) (4 : Nat) (fpw (vB (18446744073709551616 : Nat) (nB (18446744073709551616 : Nat) (4 : Nat) (ldS (vB (18446744073709551616 : Nat) l) (vB (18446744073709551616 : Nat) m) x).b)) (FP - (2 : Nat)))) %
  FP)) =
  F) := by kernel_rfl
set_option maxRecDepth 100000 in
theorem vc50  (l m : List Int) (F : D)  :
    (owed c50 (fun _ => none) Try.f50 [ptD l m] F) = (
 (True ∧ false = false) ∧
 (True ∧ (4 : Nat) ≠ (0 : Nat)) ∧
 True ∧
 ((8 : Nat) ≠ (0 : Nat) ∧ (8 : Nat) = (8 : Nat) ∧ true = true) ∧
 (∃ (l_1 : List Int), ∃ (m_1 : List Int), [D.st [D.arr IntKind.u64 (4 : Nat) l, D.arr IntKind.u64 (4 : Nat) m]] = [D.st [D.arr IntKind.u64 (4 : Nat) l_1, D.arr IntKind.u64 (4 : Nat) m_1]] ∧ isN l_1 ∧ isN m_1) ∧
 True ∧
 match !onB (vB (18446744073709551616 : Nat) l) (vB (18446744073709551616 : Nat) m) with
 | true => ((1 : Nat) = (1 : Nat) ∧ True) ∧ (Sk.arr (4 : Nat) = Sk.arr (4 : Nat) ∧ (4 : Nat) ≠ (0 : Nat) ∧ (4 : Nat) = (4 : Nat) ∧ false = false) ∧ True ∧ (((4 : Nat) ≠ (0 : Nat) ∧ (4 : Nat) = (4 : Nat) ∧ true = true) ∧ false = false ∧ True) ∧ D.tup [D.arr IntKind.u64 (4 : Nat) [(0 : Int), (0 : Int), (0 : Int), (0 : Int)], D.val (Value.int IntKind.i64 (1 : Int))] = F
 | false =>
  ((1 : Nat) = (1 : Nat) ∧ false = false ∧ ((0 : Nat) < (4 : Nat) ∧ ([] : List Nat) = [] ∧ true = true) ∧ True) ∧
  (True ∧ (4 : Nat) ≠ (0 : Nat)) ∧
  (Sk.arr (4 : Nat) = Sk.arr (4 : Nat) ∧ (4 : Nat) ≠ (0 : Nat) ∧ (4 : Nat) = (4 : Nat) ∧ false = false) ∧
  ((4 : Nat) ≠ (0 : Nat) ∧ (4 : Nat) = (4 : Nat) ∧ true = true) ∧
  (Sk.st [Sk.arr (4 : Nat), Sk.arr (4 : Nat)] = Sk.st [Sk.arr (4 : Nat), Sk.arr (4 : Nat)] ∧ (1 : Nat) < (2 : Nat)) ∧
  ((4 : Nat) ≠ (0 : Nat) ∧ (4 : Nat) = (4 : Nat) ∧ true = true) ∧
  (∃ (l : List Int), ∃ (m_1 : List Int), [D.arr IntKind.u64 (4 : Nat) [(1 : Int), (0 : Int), (0 : Int), (0 : Int)], D.arr IntKind.u64 (4 : Nat) m] = [D.arr IntKind.u64 (4 : Nat) l, D.arr IntKind.u64 (4 : Nat) m_1] ∧ isN l ∧ isN m_1) ∧
  ((4 : Nat) ≠ (0 : Nat) ∧ (4 : Nat) = (4 : Nat) ∧ true = true) ∧
  (Sk.st [Sk.arr (4 : Nat), Sk.arr (4 : Nat)] = Sk.st [Sk.arr (4 : Nat), Sk.arr (4 : Nat)] ∧ (1 : Nat) < (2 : Nat)) ∧
  ((4 : Nat) ≠ (0 : Nat) ∧ (4 : Nat) = (4 : Nat) ∧ true = true) ∧
  (∃ (l : List Int), ∃ (m_1 : List Int), [D.arr IntKind.u64 (4 : Nat) [(1 : Int), (0 : Int), (0 : Int), (0 : Int)], D.arr IntKind.u64 (4 : Nat) m] = [D.arr IntKind.u64 (4 : Nat) l, D.arr IntKind.u64 (4 : Nat) m_1] ∧ isN l ∧ isN m_1) ∧
  (∃ (l : List Int), [D.arr IntKind.u64 (4 : Nat) (nB (18446744073709551616 : Nat) (4 : Nat) (fsb (vB (18446744073709551616 : Nat) [(1 : Int), (0 : Int), (0 : Int), (0 : Int)]) (vB (18446744073709551616 : Nat) m)))] = [D.arr IntKind.u64 (4 : Nat) l] ∧ isN l) ∧
  (∃ (l : List Int),
  ∃ (m_1 : List Int),
  [D.arr IntKind.u64 (4 : Nat) (nB (18446744073709551616 : Nat) (4 : Nat) ((vB (18446744073709551616 : Nat) [(1 : Int), (0 : Int), (0 : Int), (0 : Int)] + vB (18446744073709551616 : Nat) m) % FP)),
  D.arr IntKind.u64 (4 : Nat) (nB (18446744073709551616 : Nat) (4 : Nat) (fpw (vB (18446744073709551616 : Nat) (nB (18446744073709551616 : Nat) (4 : Nat) (fsb (vB (18446744073709551616 : Nat) [(1 : Int), (0 : Int), (0 : Int), (0 : Int)]) (vB (18446744073709551616 : Nat) m)))) (FP - (2 : Nat))))] =
  [D.arr IntKind.u64 (4 : Nat) l, D.arr IntKind.u64 (4 : Nat) m_1] ∧
  isN l ∧ isN m_1) ∧
  (Sk.arr (4 : Nat) = Sk.arr (4 : Nat) ∧ (4 : Nat) ≠ (0 : Nat) ∧ (4 : Nat) = (4 : Nat) ∧ false = false) ∧
  True ∧
  (((4 : Nat) ≠ (0 : Nat) ∧ (4 : Nat) = (4 : Nat) ∧ true = true) ∧ false = false ∧ True) ∧
  D.tup
  [D.arr IntKind.u64 (4 : Nat)
  (nB (18446744073709551616 : Nat) (4 : Nat)
  (vB (18446744073709551616 : Nat) (nB (18446744073709551616 : Nat) (4 : Nat) ((vB (18446744073709551616 : Nat) [(1 : Int), (0 : Int), (0 : Int), (0 : Int)] + vB (18446744073709551616 : Nat) m) % FP)) *
  vB (18446744073709551616 : Nat) (nB (18446744073709551616 : Nat) (4 : Nat) (fpw (vB (18446744073709551616 : Nat) (nB (18446744073709551616 : Nat) (4 : Nat) (fsb (vB (18446744073709551616 : Nat) [(1 : Int), (0 : Int), (0 : Int), (0 : Int)]) (vB (18446744073709551616 : Nat) m)))) (FP - (2 : Nat)))) %
  FP)),
  D.val (Value.int IntKind.i64 (0 : Int))] =
  F) := by kernel_rfl
set_option maxRecDepth 100000 in
theorem vc144  (l : List Int) (F : D)  :
    (owed c144 (fun _ => none) Try.f144 [f2 l] F) = (
 (True ∧ false = false) ∧
 (True ∧ (32 : Nat) ≠ (0 : Nat)) ∧
 ((0 : Int) ≤ (0 : Int) ∧ (0 : Int) < (↑(2 : Nat) : Int) ∧ (32 : Nat) = (32 : Nat) ∧ (16 : Nat) = (16 : Nat) ∧ (16 : Nat) ≠ (0 : Nat)) ∧
 ((16 : Nat) ≠ (0 : Nat) ∧ (16 : Nat) = (16 : Nat) ∧ true = true) ∧
 ((0 : Int) ≤ (0 : Int) ∧ (0 : Int) < (↑(2 : Nat) : Int) ∧ (32 : Nat) = (32 : Nat) ∧ (16 : Nat) = (16 : Nat) ∧ (16 : Nat) ≠ (0 : Nat)) ∧
 ((16 : Nat) ≠ (0 : Nat) ∧ (16 : Nat) = (16 : Nat) ∧ true = true) ∧
 (∃ (l_1 : List Int), ∃ (m : List Int), [D.arr IntKind.i64 (16 : Nat) (List.take (16 : Nat) (List.drop (0 : Nat) l)), D.arr IntKind.i64 (16 : Nat) (List.take (16 : Nat) (List.drop (0 : Nat) l))] = [D.arr IntKind.i64 (16 : Nat) l_1, D.arr IntKind.i64 (16 : Nat) m] ∧ isF l_1 ∧ isF m) ∧
 ((0 : Int) ≤ (1 : Int) ∧ (1 : Int) < (↑(2 : Nat) : Int) ∧ (32 : Nat) = (32 : Nat) ∧ (16 : Nat) = (16 : Nat) ∧ (16 : Nat) ≠ (0 : Nat)) ∧
 ((16 : Nat) ≠ (0 : Nat) ∧ (16 : Nat) = (16 : Nat) ∧ true = true) ∧
 ((0 : Int) ≤ (1 : Int) ∧ (1 : Int) < (↑(2 : Nat) : Int) ∧ (32 : Nat) = (32 : Nat) ∧ (16 : Nat) = (16 : Nat) ∧ (16 : Nat) ≠ (0 : Nat)) ∧
 ((16 : Nat) ≠ (0 : Nat) ∧ (16 : Nat) = (16 : Nat) ∧ true = true) ∧
 (∃ (l_1 : List Int), ∃ (m : List Int), [D.arr IntKind.i64 (16 : Nat) (List.take (16 : Nat) (List.drop (16 : Nat) l)), D.arr IntKind.i64 (16 : Nat) (List.take (16 : Nat) (List.drop (16 : Nat) l))] = [D.arr IntKind.i64 (16 : Nat) l_1, D.arr IntKind.i64 (16 : Nat) m] ∧ isF l_1 ∧ isF m) ∧
 ((0 : Int) ≤ (0 : Int) ∧ (0 : Int) < (↑(2 : Nat) : Int) ∧ (32 : Nat) = (32 : Nat) ∧ (16 : Nat) = (16 : Nat) ∧ (16 : Nat) ≠ (0 : Nat)) ∧
 ((16 : Nat) ≠ (0 : Nat) ∧ (16 : Nat) = (16 : Nat) ∧ true = true) ∧
 ((0 : Int) ≤ (1 : Int) ∧ (1 : Int) < (↑(2 : Nat) : Int) ∧ (32 : Nat) = (32 : Nat) ∧ (16 : Nat) = (16 : Nat) ∧ (16 : Nat) ≠ (0 : Nat)) ∧
 ((16 : Nat) ≠ (0 : Nat) ∧ (16 : Nat) = (16 : Nat) ∧ true = true) ∧
 (∃ (l_1 : List Int), ∃ (m : List Int), [D.arr IntKind.i64 (16 : Nat) (List.take (16 : Nat) (List.drop (0 : Nat) l)), D.arr IntKind.i64 (16 : Nat) (List.take (16 : Nat) (List.drop (16 : Nat) l))] = [D.arr IntKind.i64 (16 : Nat) l_1, D.arr IntKind.i64 (16 : Nat) m] ∧ isF l_1 ∧ isF m) ∧
 (True ∧ (16 : Nat) ≠ (0 : Nat)) ∧
 (True ∧ (16 : Nat) ≠ (0 : Nat)) ∧
 (True ∧ (16 : Nat) ≠ (0 : Nat)) ∧
 (Sk.arr (16 : Nat) = Sk.arr (16 : Nat) ∧ (16 : Nat) ≠ (0 : Nat) ∧ (16 : Nat) = (16 : Nat) ∧ false = false) ∧
 (Sk.arr (16 : Nat) = Sk.arr (16 : Nat) ∧ (16 : Nat) ≠ (0 : Nat) ∧ (16 : Nat) = (16 : Nat) ∧ false = false) ∧
 (Sk.arr (16 : Nat) = Sk.arr (16 : Nat) ∧ (16 : Nat) ≠ (0 : Nat) ∧ (16 : Nat) = (16 : Nat) ∧ false = false) ∧
 ((16 : Nat) ≠ (0 : Nat) ∧ (16 : Nat) = (16 : Nat) ∧ true = true) ∧
 ((16 : Nat) ≠ (0 : Nat) ∧ (16 : Nat) = (16 : Nat) ∧ true = true) ∧
 (∃ (l_1 : List Int),
 ∃ (m : List Int),
 [D.arr IntKind.i64 (16 : Nat) (nB (65536 : Nat) (16 : Nat) (vB (65536 : Nat) (List.take (16 : Nat) (List.drop (0 : Nat) l)) * vB (65536 : Nat) (List.take (16 : Nat) (List.drop (0 : Nat) l)) % FP)),
 D.arr IntKind.i64 (16 : Nat) (nB (65536 : Nat) (16 : Nat) (vB (65536 : Nat) (List.take (16 : Nat) (List.drop (16 : Nat) l)) * vB (65536 : Nat) (List.take (16 : Nat) (List.drop (16 : Nat) l)) % FP))] =
 [D.arr IntKind.i64 (16 : Nat) l_1, D.arr IntKind.i64 (16 : Nat) m] ∧
 isF l_1 ∧ isF m) ∧
 (True ∧ (16 : Nat) ≠ (0 : Nat)) ∧
 (Sk.arr (16 : Nat) = Sk.arr (16 : Nat) ∧ (16 : Nat) ≠ (0 : Nat) ∧ (16 : Nat) = (16 : Nat) ∧ false = false) ∧
 ((16 : Nat) ≠ (0 : Nat) ∧ (16 : Nat) = (16 : Nat) ∧ true = true) ∧
 ((1 : Nat) = (1 : Nat) ∧ (1 : Nat) ≤ (4096 : Nat)) ∧
 (∃ (l : List Int), [D.ints IntKind.u64 [(486662 : Int)]] = [D.ints IntKind.u64 l] ∧ okw l ∧ l.length ≤ (100 : Nat)) ∧
 (∃ (l : List Int), [D.ints IntKind.i64 (dgW [(486662 : Int)])] = [D.ints IntKind.i64 l] ∧ okd l ∧ lenOk l) ∧
 ((16 : Nat) ≠ (0 : Nat) ∧ (16 : Nat) = (16 : Nat) ∧ true = true) ∧
 (∃ (l_1 : List Int),
 ∃ (m : List Int),
 [D.arr IntKind.i64 (16 : Nat) (nB (65536 : Nat) (16 : Nat) (vB (65536 : Nat) (dgW [(486662 : Int)]))), D.arr IntKind.i64 (16 : Nat) (nB (65536 : Nat) (16 : Nat) (vB (65536 : Nat) (List.take (16 : Nat) (List.drop (0 : Nat) l)) * vB (65536 : Nat) (List.take (16 : Nat) (List.drop (16 : Nat) l)) % FP))] =
 [D.arr IntKind.i64 (16 : Nat) l_1, D.arr IntKind.i64 (16 : Nat) m] ∧
 isF l_1 ∧ isF m) ∧
 (∃ (l_1 : List Int),
 ∃ (m : List Int),
 [D.arr IntKind.i64 (16 : Nat) (nB (65536 : Nat) (16 : Nat) (vB (65536 : Nat) (List.take (16 : Nat) (List.drop (0 : Nat) l)) * vB (65536 : Nat) (List.take (16 : Nat) (List.drop (0 : Nat) l)) % FP)),
 D.arr IntKind.i64 (16 : Nat)
 (nB (65536 : Nat) (16 : Nat) (vB (65536 : Nat) (nB (65536 : Nat) (16 : Nat) (vB (65536 : Nat) (dgW [(486662 : Int)]))) * vB (65536 : Nat) (nB (65536 : Nat) (16 : Nat) (vB (65536 : Nat) (List.take (16 : Nat) (List.drop (0 : Nat) l)) * vB (65536 : Nat) (List.take (16 : Nat) (List.drop (16 : Nat) l)) % FP)) % FP))] =
 [D.arr IntKind.i64 (16 : Nat) l_1, D.arr IntKind.i64 (16 : Nat) m] ∧
 isF l_1 ∧ isF m) ∧
 ((16 : Nat) ≠ (0 : Nat) ∧ (16 : Nat) = (16 : Nat) ∧ true = true) ∧
 (∃ (l_1 : List Int),
 ∃ (m : List Int),
 [D.arr IntKind.i64 (16 : Nat)
 (nB (65536 : Nat) (16 : Nat)
 ((vB (65536 : Nat) (nB (65536 : Nat) (16 : Nat) (vB (65536 : Nat) (List.take (16 : Nat) (List.drop (0 : Nat) l)) * vB (65536 : Nat) (List.take (16 : Nat) (List.drop (0 : Nat) l)) % FP)) +
 vB (65536 : Nat)
 (nB (65536 : Nat) (16 : Nat)
 (vB (65536 : Nat) (nB (65536 : Nat) (16 : Nat) (vB (65536 : Nat) (dgW [(486662 : Int)]))) * vB (65536 : Nat) (nB (65536 : Nat) (16 : Nat) (vB (65536 : Nat) (List.take (16 : Nat) (List.drop (0 : Nat) l)) * vB (65536 : Nat) (List.take (16 : Nat) (List.drop (16 : Nat) l)) % FP)) % FP))) %
 FP)),
 D.arr IntKind.i64 (16 : Nat) (nB (65536 : Nat) (16 : Nat) (vB (65536 : Nat) (List.take (16 : Nat) (List.drop (16 : Nat) l)) * vB (65536 : Nat) (List.take (16 : Nat) (List.drop (16 : Nat) l)) % FP))] =
 [D.arr IntKind.i64 (16 : Nat) l_1, D.arr IntKind.i64 (16 : Nat) m] ∧
 isF l_1 ∧ isF m) ∧
 (True ∧ (16 : Nat) ≠ (0 : Nat)) ∧
 (Sk.arr (16 : Nat) = Sk.arr (16 : Nat) ∧ (16 : Nat) ≠ (0 : Nat) ∧ (16 : Nat) = (16 : Nat) ∧ false = false) ∧
 ((16 : Nat) ≠ (0 : Nat) ∧ (16 : Nat) = (16 : Nat) ∧ true = true) ∧
 ((16 : Nat) ≠ (0 : Nat) ∧ (16 : Nat) = (16 : Nat) ∧ true = true) ∧
 (∃ (l_1 : List Int),
 ∃ (m : List Int),
 [D.arr IntKind.i64 (16 : Nat)
 (nB (65536 : Nat) (16 : Nat)
 (fsb (vB (65536 : Nat) (nB (65536 : Nat) (16 : Nat) (vB (65536 : Nat) (List.take (16 : Nat) (List.drop (0 : Nat) l)) * vB (65536 : Nat) (List.take (16 : Nat) (List.drop (0 : Nat) l)) % FP)))
 (vB (65536 : Nat) (nB (65536 : Nat) (16 : Nat) (vB (65536 : Nat) (List.take (16 : Nat) (List.drop (16 : Nat) l)) * vB (65536 : Nat) (List.take (16 : Nat) (List.drop (16 : Nat) l)) % FP))))),
 D.arr IntKind.i64 (16 : Nat)
 (nB (65536 : Nat) (16 : Nat)
 (fsb (vB (65536 : Nat) (nB (65536 : Nat) (16 : Nat) (vB (65536 : Nat) (List.take (16 : Nat) (List.drop (0 : Nat) l)) * vB (65536 : Nat) (List.take (16 : Nat) (List.drop (0 : Nat) l)) % FP)))
 (vB (65536 : Nat) (nB (65536 : Nat) (16 : Nat) (vB (65536 : Nat) (List.take (16 : Nat) (List.drop (16 : Nat) l)) * vB (65536 : Nat) (List.take (16 : Nat) (List.drop (16 : Nat) l)) % FP)))))] =
 [D.arr IntKind.i64 (16 : Nat) l_1, D.arr IntKind.i64 (16 : Nat) m] ∧
 isF l_1 ∧ isF m) ∧
 (∃ (n : Nat), [D.val (Value.int IntKind.i64 (4 : Int))] = [D.val (Value.int IntKind.i64 (↑n : Int))] ∧ n < (65536 : Nat)) ∧
 ((16 : Nat) ≠ (0 : Nat) ∧ (16 : Nat) = (16 : Nat) ∧ true = true) ∧
 (∃ (l_1 : List Int),
 ∃ (m : List Int),
 [D.arr IntKind.i64 (16 : Nat) (smF (4 : Nat)), D.arr IntKind.i64 (16 : Nat) (nB (65536 : Nat) (16 : Nat) (vB (65536 : Nat) (List.take (16 : Nat) (List.drop (0 : Nat) l)) * vB (65536 : Nat) (List.take (16 : Nat) (List.drop (16 : Nat) l)) % FP))] =
 [D.arr IntKind.i64 (16 : Nat) l_1, D.arr IntKind.i64 (16 : Nat) m] ∧
 isF l_1 ∧ isF m) ∧
 ((16 : Nat) ≠ (0 : Nat) ∧ (16 : Nat) = (16 : Nat) ∧ true = true) ∧
 (∃ (l_1 : List Int),
 ∃ (m : List Int),
 [D.arr IntKind.i64 (16 : Nat) (nB (65536 : Nat) (16 : Nat) (vB (65536 : Nat) (smF (4 : Nat)) * vB (65536 : Nat) (nB (65536 : Nat) (16 : Nat) (vB (65536 : Nat) (List.take (16 : Nat) (List.drop (0 : Nat) l)) * vB (65536 : Nat) (List.take (16 : Nat) (List.drop (16 : Nat) l)) % FP)) % FP)),
 D.arr IntKind.i64 (16 : Nat)
 (nB (65536 : Nat) (16 : Nat)
 ((vB (65536 : Nat)
 (nB (65536 : Nat) (16 : Nat)
 ((vB (65536 : Nat) (nB (65536 : Nat) (16 : Nat) (vB (65536 : Nat) (List.take (16 : Nat) (List.drop (0 : Nat) l)) * vB (65536 : Nat) (List.take (16 : Nat) (List.drop (0 : Nat) l)) % FP)) +
 vB (65536 : Nat)
 (nB (65536 : Nat) (16 : Nat)
 (vB (65536 : Nat) (nB (65536 : Nat) (16 : Nat) (vB (65536 : Nat) (dgW [(486662 : Int)]))) *
 vB (65536 : Nat) (nB (65536 : Nat) (16 : Nat) (vB (65536 : Nat) (List.take (16 : Nat) (List.drop (0 : Nat) l)) * vB (65536 : Nat) (List.take (16 : Nat) (List.drop (16 : Nat) l)) % FP)) %
 FP))) %
 FP)) +
 vB (65536 : Nat) (nB (65536 : Nat) (16 : Nat) (vB (65536 : Nat) (List.take (16 : Nat) (List.drop (16 : Nat) l)) * vB (65536 : Nat) (List.take (16 : Nat) (List.drop (16 : Nat) l)) % FP))) %
 FP))] =
 [D.arr IntKind.i64 (16 : Nat) l_1, D.arr IntKind.i64 (16 : Nat) m] ∧
 isF l_1 ∧ isF m) ∧
 ((16 : Nat) = (16 : Nat) ∧ (16 : Nat) ≠ (0 : Nat) ∧ IntKind.i64 = IntKind.i64 ∧ (16 : Nat) = (16 : Nat) ∧ (16 : Nat) ≤ (32 : Nat) ∧ IntKind.i64 = IntKind.i64 ∧ (16 : Nat) = (16 : Nat) ∧ (32 : Nat) ≤ (32 : Nat) ∧ True) ∧
 (Sk.arr (32 : Nat) = Sk.arr (32 : Nat) ∧ (32 : Nat) ≠ (0 : Nat) ∧ (32 : Nat) = (32 : Nat) ∧ false = false) ∧
 (((32 : Nat) ≠ (0 : Nat) ∧ (32 : Nat) = (32 : Nat) ∧ true = true) ∧ True) ∧
 D.arr IntKind.i64 (32 : Nat)
 (spl
 (spl
 [(0 : Int), (0 : Int), (0 : Int), (0 : Int), (0 : Int), (0 : Int), (0 : Int), (0 : Int), (0 : Int), (0 : Int), (0 : Int), (0 : Int), (0 : Int), (0 : Int), (0 : Int), (0 : Int), (0 : Int), (0 : Int), (0 : Int), (0 : Int), (0 : Int), (0 : Int), (0 : Int), (0 : Int), (0 : Int), (0 : Int),
 (0 : Int), (0 : Int), (0 : Int), (0 : Int), (0 : Int), (0 : Int)]
 (0 : Nat) (16 : Nat)
 (nB (65536 : Nat) (16 : Nat)
 (vB (65536 : Nat)
 (nB (65536 : Nat) (16 : Nat)
 (fsb (vB (65536 : Nat) (nB (65536 : Nat) (16 : Nat) (vB (65536 : Nat) (List.take (16 : Nat) (List.drop (0 : Nat) l)) * vB (65536 : Nat) (List.take (16 : Nat) (List.drop (0 : Nat) l)) % FP)))
 (vB (65536 : Nat) (nB (65536 : Nat) (16 : Nat) (vB (65536 : Nat) (List.take (16 : Nat) (List.drop (16 : Nat) l)) * vB (65536 : Nat) (List.take (16 : Nat) (List.drop (16 : Nat) l)) % FP))))) *
 vB (65536 : Nat)
 (nB (65536 : Nat) (16 : Nat)
 (fsb (vB (65536 : Nat) (nB (65536 : Nat) (16 : Nat) (vB (65536 : Nat) (List.take (16 : Nat) (List.drop (0 : Nat) l)) * vB (65536 : Nat) (List.take (16 : Nat) (List.drop (0 : Nat) l)) % FP)))
 (vB (65536 : Nat) (nB (65536 : Nat) (16 : Nat) (vB (65536 : Nat) (List.take (16 : Nat) (List.drop (16 : Nat) l)) * vB (65536 : Nat) (List.take (16 : Nat) (List.drop (16 : Nat) l)) % FP))))) %
 FP)))
 (16 : Nat) (16 : Nat)
 (nB (65536 : Nat) (16 : Nat)
 (vB (65536 : Nat) (nB (65536 : Nat) (16 : Nat) (vB (65536 : Nat) (smF (4 : Nat)) * vB (65536 : Nat) (nB (65536 : Nat) (16 : Nat) (vB (65536 : Nat) (List.take (16 : Nat) (List.drop (0 : Nat) l)) * vB (65536 : Nat) (List.take (16 : Nat) (List.drop (16 : Nat) l)) % FP)) % FP)) *
 vB (65536 : Nat)
 (nB (65536 : Nat) (16 : Nat)
 ((vB (65536 : Nat)
 (nB (65536 : Nat) (16 : Nat)
 ((vB (65536 : Nat) (nB (65536 : Nat) (16 : Nat) (vB (65536 : Nat) (List.take (16 : Nat) (List.drop (0 : Nat) l)) * vB (65536 : Nat) (List.take (16 : Nat) (List.drop (0 : Nat) l)) % FP)) +
 vB (65536 : Nat)
 (nB (65536 : Nat) (16 : Nat)
 (vB (65536 : Nat) (nB (65536 : Nat) (16 : Nat) (vB (65536 : Nat) (dgW [(486662 : Int)]))) *
 vB (65536 : Nat) (nB (65536 : Nat) (16 : Nat) (vB (65536 : Nat) (List.take (16 : Nat) (List.drop (0 : Nat) l)) * vB (65536 : Nat) (List.take (16 : Nat) (List.drop (16 : Nat) l)) % FP)) %
 FP))) %
 FP)) +
 vB (65536 : Nat) (nB (65536 : Nat) (16 : Nat) (vB (65536 : Nat) (List.take (16 : Nat) (List.drop (16 : Nat) l)) * vB (65536 : Nat) (List.take (16 : Nat) (List.drop (16 : Nat) l)) % FP))) %
 FP)) %
 FP))) =
 F) := by kernel_rfl
set_option maxRecDepth 100000 in
theorem vc118  (k n : Nat) (l : List Int) (F : D)  :
    (owed (c118 k) (fun _ => none) Try.f118 [dgs (dg n), fel l] F) = (
 (True ∧ false = false) ∧
 (True ∧ (32 : Nat) ≠ (0 : Nat)) ∧
 (True ∧ (32 : Nat) ≠ (0 : Nat)) ∧
 True ∧
 True ∧
 True ∧
 match (↑(dg n).length : Int) == (0 : Int) with
 | true =>
  (∃ (n : Nat), [D.val (Value.int IntKind.i64 (1 : Int))] = [D.val (Value.int IntKind.i64 (↑n : Int))] ∧ n < (65536 : Nat)) ∧
  (∃ (n : Nat), [D.val (Value.int IntKind.i64 (0 : Int))] = [D.val (Value.int IntKind.i64 (↑n : Int))] ∧ n < (65536 : Nat)) ∧
  ((16 : Nat) = (16 : Nat) ∧ (16 : Nat) ≠ (0 : Nat) ∧ IntKind.i64 = IntKind.i64 ∧ (16 : Nat) = (16 : Nat) ∧ (16 : Nat) ≤ (32 : Nat) ∧ IntKind.i64 = IntKind.i64 ∧ (16 : Nat) = (16 : Nat) ∧ (32 : Nat) ≤ (32 : Nat) ∧ True) ∧
  (true = true ∧ (16 : Nat) ≠ (0 : Nat) ∧ (16 : Nat) = (16 : Nat) ∧ true = true) ∧
  (∃ (n : Nat), [D.val (Value.int IntKind.i64 (1 : Int))] = [D.val (Value.int IntKind.i64 (↑n : Int))] ∧ n < (65536 : Nat)) ∧
  ((16 : Nat) = (16 : Nat) ∧ (16 : Nat) ≠ (0 : Nat) ∧ IntKind.i64 = IntKind.i64 ∧ (16 : Nat) = (16 : Nat) ∧ (16 : Nat) ≤ (32 : Nat) ∧ IntKind.i64 = IntKind.i64 ∧ (16 : Nat) = (16 : Nat) ∧ (32 : Nat) ≤ (32 : Nat) ∧ True) ∧
  (true = true ∧ Sk.arr (32 : Nat) = Sk.arr (32 : Nat) ∧ (32 : Nat) ≠ (0 : Nat) ∧ (32 : Nat) = (32 : Nat) ∧ false = false) ∧
  (true = true ∧ Sk.arr (32 : Nat) = Sk.arr (32 : Nat) ∧ (32 : Nat) ≠ (0 : Nat) ∧ (32 : Nat) = (32 : Nat) ∧ false = false) ∧
  (((32 : Nat) ≠ (0 : Nat) ∧ (32 : Nat) = (32 : Nat) ∧ true = true) ∧ ((32 : Nat) ≠ (0 : Nat) ∧ (32 : Nat) = (32 : Nat) ∧ true = true) ∧ True) ∧
  D.tup
  [D.arr IntKind.i64 (32 : Nat)
  (spl
  (spl
  [(0 : Int), (0 : Int), (0 : Int), (0 : Int), (0 : Int), (0 : Int), (0 : Int), (0 : Int), (0 : Int), (0 : Int), (0 : Int), (0 : Int), (0 : Int), (0 : Int), (0 : Int), (0 : Int), (0 : Int), (0 : Int), (0 : Int), (0 : Int), (0 : Int), (0 : Int), (0 : Int), (0 : Int), (0 : Int), (0 : Int), (0 : Int), (0 : Int), (0 : Int), (0 : Int), (0 : Int), (0 : Int)]
  (0 : Nat) (16 : Nat) [(1 : Int), (0 : Int), (0 : Int), (0 : Int), (0 : Int), (0 : Int), (0 : Int), (0 : Int), (0 : Int), (0 : Int), (0 : Int), (0 : Int), (0 : Int), (0 : Int), (0 : Int), (0 : Int)])
  (16 : Nat) (16 : Nat) [(0 : Int), (0 : Int), (0 : Int), (0 : Int), (0 : Int), (0 : Int), (0 : Int), (0 : Int), (0 : Int), (0 : Int), (0 : Int), (0 : Int), (0 : Int), (0 : Int), (0 : Int), (0 : Int)]),
  D.arr IntKind.i64 (32 : Nat)
  (spl
  (spl
  [(0 : Int), (0 : Int), (0 : Int), (0 : Int), (0 : Int), (0 : Int), (0 : Int), (0 : Int), (0 : Int), (0 : Int), (0 : Int), (0 : Int), (0 : Int), (0 : Int), (0 : Int), (0 : Int), (0 : Int), (0 : Int), (0 : Int), (0 : Int), (0 : Int), (0 : Int), (0 : Int), (0 : Int), (0 : Int), (0 : Int), (0 : Int), (0 : Int), (0 : Int), (0 : Int), (0 : Int), (0 : Int)]
  (0 : Nat) (16 : Nat) l)
  (16 : Nat) (16 : Nat) [(1 : Int), (0 : Int), (0 : Int), (0 : Int), (0 : Int), (0 : Int), (0 : Int), (0 : Int), (0 : Int), (0 : Int), (0 : Int), (0 : Int), (0 : Int), (0 : Int), (0 : Int), (0 : Int)])] =
  F
 | false =>
  True ∧
  ((1 : Nat) = (1 : Nat) ∧ (1 : Nat) ≤ (4096 : Nat)) ∧
  (∃ (l : List Int), ∃ (m : List Int), [D.ints IntKind.i64 (dg n), D.ints IntKind.i64 [(2 : Int)]] = [D.ints IntKind.i64 l, D.ints IntKind.i64 m] ∧ (okd l ∧ len1 l) ∧ (okd m ∧ len1 m) ∧ vB (65536 : Nat) m ≠ (0 : Nat)) ∧
  True ∧
  ((0 : Nat) < (2 : Nat) ∧ false = false) ∧
  ((1 : Nat) < (2 : Nat) ∧ false = false) ∧
  True ∧
  True ∧
  True ∧
  (true = true ∧ (16 : Nat) ≠ (0 : Nat) ∧ (16 : Nat) = (16 : Nat) ∧ true = true) ∧
  (∃ (n_1 : Nat), ∃ (l_1 : List Int), [D.ints IntKind.i64 (dg (vB (65536 : Nat) (dg n) / vB (65536 : Nat) [(2 : Int)])), D.arr IntKind.i64 (16 : Nat) l] = [D.ints IntKind.i64 (dg n_1), D.arr IntKind.i64 (16 : Nat) l_1] ∧ ((1 : Nat) ≤ k ∧ n_1 < (2 : Nat) ^ (k - (1 : Nat))) ∧ k ≤ (257 : Nat) ∧ isF l_1) ∧
  True ∧
  ((0 : Nat) < (2 : Nat) ∧ false = false) ∧
  ((1 : Nat) < (2 : Nat) ∧ false = false) ∧
  (True ∧ (32 : Nat) ≠ (0 : Nat)) ∧
  (True ∧ (32 : Nat) ≠ (0 : Nat)) ∧
  (Sk.arr (32 : Nat) = Sk.arr (32 : Nat) ∧ (32 : Nat) ≠ (0 : Nat) ∧ (32 : Nat) = (32 : Nat) ∧ false = false) ∧
  (Sk.arr (32 : Nat) = Sk.arr (32 : Nat) ∧ (32 : Nat) ≠ (0 : Nat) ∧ (32 : Nat) = (32 : Nat) ∧ false = false) ∧
  ((0 : Int) ≤ (0 : Int) ∧ (0 : Int) < (↑(2 : Nat) : Int) ∧ (32 : Nat) = (32 : Nat) ∧ (16 : Nat) = (16 : Nat) ∧ (16 : Nat) ≠ (0 : Nat)) ∧
  ((16 : Nat) ≠ (0 : Nat) ∧ (16 : Nat) = (16 : Nat) ∧ true = true) ∧
  ((0 : Int) ≤ (0 : Int) ∧ (0 : Int) < (↑(2 : Nat) : Int) ∧ (32 : Nat) = (32 : Nat) ∧ (16 : Nat) = (16 : Nat) ∧ (16 : Nat) ≠ (0 : Nat)) ∧
  ((16 : Nat) ≠ (0 : Nat) ∧ (16 : Nat) = (16 : Nat) ∧ true = true) ∧
  (∃ (l_1 : List Int),
  ∃ (m : List Int),
  [D.arr IntKind.i64 (16 : Nat) (List.take (16 : Nat) (List.drop (0 : Nat) (f2L (rgS (vB (65536 : Nat) l) (k - (1 : Nat)) (vB (65536 : Nat) (dg (vB (65536 : Nat) (dg n) / vB (65536 : Nat) [(2 : Int)])))).a (rgS (vB (65536 : Nat) l) (k - (1 : Nat)) (vB (65536 : Nat) (dg (vB (65536 : Nat) (dg n) / vB (65536 : Nat) [(2 : Int)])))).b))),
  D.arr IntKind.i64 (16 : Nat)
  (List.take (16 : Nat) (List.drop (0 : Nat) (f2L (rgS (vB (65536 : Nat) l) (k - (1 : Nat)) (vB (65536 : Nat) (dg (vB (65536 : Nat) (dg n) / vB (65536 : Nat) [(2 : Int)])))).c (rgS (vB (65536 : Nat) l) (k - (1 : Nat)) (vB (65536 : Nat) (dg (vB (65536 : Nat) (dg n) / vB (65536 : Nat) [(2 : Int)])))).d)))] =
  [D.arr IntKind.i64 (16 : Nat) l_1, D.arr IntKind.i64 (16 : Nat) m] ∧
  isF l_1 ∧ isF m) ∧
  ((0 : Int) ≤ (1 : Int) ∧ (1 : Int) < (↑(2 : Nat) : Int) ∧ (32 : Nat) = (32 : Nat) ∧ (16 : Nat) = (16 : Nat) ∧ (16 : Nat) ≠ (0 : Nat)) ∧
  ((16 : Nat) ≠ (0 : Nat) ∧ (16 : Nat) = (16 : Nat) ∧ true = true) ∧
  ((0 : Int) ≤ (1 : Int) ∧ (1 : Int) < (↑(2 : Nat) : Int) ∧ (32 : Nat) = (32 : Nat) ∧ (16 : Nat) = (16 : Nat) ∧ (16 : Nat) ≠ (0 : Nat)) ∧
  ((16 : Nat) ≠ (0 : Nat) ∧ (16 : Nat) = (16 : Nat) ∧ true = true) ∧
  (∃ (l_1 : List Int),
  ∃ (m : List Int),
  [D.arr IntKind.i64 (16 : Nat)
  (List.take (16 : Nat) (List.drop (16 : Nat) (f2L (rgS (vB (65536 : Nat) l) (k - (1 : Nat)) (vB (65536 : Nat) (dg (vB (65536 : Nat) (dg n) / vB (65536 : Nat) [(2 : Int)])))).a (rgS (vB (65536 : Nat) l) (k - (1 : Nat)) (vB (65536 : Nat) (dg (vB (65536 : Nat) (dg n) / vB (65536 : Nat) [(2 : Int)])))).b))),
  D.arr IntKind.i64 (16 : Nat)
  (List.take (16 : Nat) (List.drop (16 : Nat) (f2L (rgS (vB (65536 : Nat) l) (k - (1 : Nat)) (vB (65536 : Nat) (dg (vB (65536 : Nat) (dg n) / vB (65536 : Nat) [(2 : Int)])))).c (rgS (vB (65536 : Nat) l) (k - (1 : Nat)) (vB (65536 : Nat) (dg (vB (65536 : Nat) (dg n) / vB (65536 : Nat) [(2 : Int)])))).d)))] =
  [D.arr IntKind.i64 (16 : Nat) l_1, D.arr IntKind.i64 (16 : Nat) m] ∧
  isF l_1 ∧ isF m) ∧
  (True ∧ (16 : Nat) ≠ (0 : Nat)) ∧
  (True ∧ (16 : Nat) ≠ (0 : Nat)) ∧
  (Sk.arr (16 : Nat) = Sk.arr (16 : Nat) ∧ (16 : Nat) ≠ (0 : Nat) ∧ (16 : Nat) = (16 : Nat) ∧ false = false) ∧
  (Sk.arr (16 : Nat) = Sk.arr (16 : Nat) ∧ (16 : Nat) ≠ (0 : Nat) ∧ (16 : Nat) = (16 : Nat) ∧ false = false) ∧
  ((0 : Int) ≤ (0 : Int) ∧ (0 : Int) < (↑(2 : Nat) : Int) ∧ (32 : Nat) = (32 : Nat) ∧ (16 : Nat) = (16 : Nat) ∧ (16 : Nat) ≠ (0 : Nat)) ∧
  ((16 : Nat) ≠ (0 : Nat) ∧ (16 : Nat) = (16 : Nat) ∧ true = true) ∧
  ((0 : Int) ≤ (1 : Int) ∧ (1 : Int) < (↑(2 : Nat) : Int) ∧ (32 : Nat) = (32 : Nat) ∧ (16 : Nat) = (16 : Nat) ∧ (16 : Nat) ≠ (0 : Nat)) ∧
  ((16 : Nat) ≠ (0 : Nat) ∧ (16 : Nat) = (16 : Nat) ∧ true = true) ∧
  (∃ (l_1 : List Int),
  ∃ (m : List Int),
  [D.arr IntKind.i64 (16 : Nat)
  (List.take (16 : Nat)
  (List.drop (0 : Nat) (f2L (rgS (vB (65536 : Nat) l) (k - (1 : Nat)) (vB (65536 : Nat) (dg (vB (65536 : Nat) (dg n) / vB (65536 : Nat) [(2 : Int)])))).a (rgS (vB (65536 : Nat) l) (k - (1 : Nat)) (vB (65536 : Nat) (dg (vB (65536 : Nat) (dg n) / vB (65536 : Nat) [(2 : Int)])))).b))),
  D.arr IntKind.i64 (16 : Nat)
  (List.take (16 : Nat)
  (List.drop (16 : Nat) (f2L (rgS (vB (65536 : Nat) l) (k - (1 : Nat)) (vB (65536 : Nat) (dg (vB (65536 : Nat) (dg n) / vB (65536 : Nat) [(2 : Int)])))).c (rgS (vB (65536 : Nat) l) (k - (1 : Nat)) (vB (65536 : Nat) (dg (vB (65536 : Nat) (dg n) / vB (65536 : Nat) [(2 : Int)])))).d)))] =
  [D.arr IntKind.i64 (16 : Nat) l_1, D.arr IntKind.i64 (16 : Nat) m] ∧
  isF l_1 ∧ isF m) ∧
  ((0 : Int) ≤ (1 : Int) ∧ (1 : Int) < (↑(2 : Nat) : Int) ∧ (32 : Nat) = (32 : Nat) ∧ (16 : Nat) = (16 : Nat) ∧ (16 : Nat) ≠ (0 : Nat)) ∧
  ((16 : Nat) ≠ (0 : Nat) ∧ (16 : Nat) = (16 : Nat) ∧ true = true) ∧
  ((0 : Int) ≤ (0 : Int) ∧ (0 : Int) < (↑(2 : Nat) : Int) ∧ (32 : Nat) = (32 : Nat) ∧ (16 : Nat) = (16 : Nat) ∧ (16 : Nat) ≠ (0 : Nat)) ∧
  ((16 : Nat) ≠ (0 : Nat) ∧ (16 : Nat) = (16 : Nat) ∧ true = true) ∧
  (∃ (l_1 : List Int),
  ∃ (m : List Int),
  [D.arr IntKind.i64 (16 : Nat)
  (List.take (16 : Nat)
  (List.drop (16 : Nat) (f2L (rgS (vB (65536 : Nat) l) (k - (1 : Nat)) (vB (65536 : Nat) (dg (vB (65536 : Nat) (dg n) / vB (65536 : Nat) [(2 : Int)])))).a (rgS (vB (65536 : Nat) l) (k - (1 : Nat)) (vB (65536 : Nat) (dg (vB (65536 : Nat) (dg n) / vB (65536 : Nat) [(2 : Int)])))).b))),
  D.arr IntKind.i64 (16 : Nat)
  (List.take (16 : Nat)
  (List.drop (0 : Nat) (f2L (rgS (vB (65536 : Nat) l) (k - (1 : Nat)) (vB (65536 : Nat) (dg (vB (65536 : Nat) (dg n) / vB (65536 : Nat) [(2 : Int)])))).c (rgS (vB (65536 : Nat) l) (k - (1 : Nat)) (vB (65536 : Nat) (dg (vB (65536 : Nat) (dg n) / vB (65536 : Nat) [(2 : Int)])))).d)))] =
  [D.arr IntKind.i64 (16 : Nat) l_1, D.arr IntKind.i64 (16 : Nat) m] ∧
  isF l_1 ∧ isF m) ∧
  (True ∧ (16 : Nat) ≠ (0 : Nat)) ∧
  (True ∧ (16 : Nat) ≠ (0 : Nat)) ∧
  (Sk.arr (16 : Nat) = Sk.arr (16 : Nat) ∧ (16 : Nat) ≠ (0 : Nat) ∧ (16 : Nat) = (16 : Nat) ∧ false = false) ∧
  (Sk.arr (16 : Nat) = Sk.arr (16 : Nat) ∧ (16 : Nat) ≠ (0 : Nat) ∧ (16 : Nat) = (16 : Nat) ∧ false = false) ∧
  ((16 : Nat) ≠ (0 : Nat) ∧ (16 : Nat) = (16 : Nat) ∧ true = true) ∧
  ((16 : Nat) ≠ (0 : Nat) ∧ (16 : Nat) = (16 : Nat) ∧ true = true) ∧
  (∃ (l_1 : List Int),
  ∃ (m : List Int),
  [D.arr IntKind.i64 (16 : Nat)
  (nB (65536 : Nat) (16 : Nat)
  (vB (65536 : Nat)
  (List.take (16 : Nat)
  (List.drop (0 : Nat)
  (f2L (rgS (vB (65536 : Nat) l) (k - (1 : Nat)) (vB (65536 : Nat) (dg (vB (65536 : Nat) (dg n) / vB (65536 : Nat) [(2 : Int)])))).a (rgS (vB (65536 : Nat) l) (k - (1 : Nat)) (vB (65536 : Nat) (dg (vB (65536 : Nat) (dg n) / vB (65536 : Nat) [(2 : Int)])))).b))) *
  vB (65536 : Nat)
  (List.take (16 : Nat)
  (List.drop (0 : Nat)
  (f2L (rgS (vB (65536 : Nat) l) (k - (1 : Nat)) (vB (65536 : Nat) (dg (vB (65536 : Nat) (dg n) / vB (65536 : Nat) [(2 : Int)])))).c (rgS (vB (65536 : Nat) l) (k - (1 : Nat)) (vB (65536 : Nat) (dg (vB (65536 : Nat) (dg n) / vB (65536 : Nat) [(2 : Int)])))).d))) %
  FP)),
  D.arr IntKind.i64 (16 : Nat)
  (nB (65536 : Nat) (16 : Nat)
  (vB (65536 : Nat)
  (List.take (16 : Nat)
  (List.drop (16 : Nat)
  (f2L (rgS (vB (65536 : Nat) l) (k - (1 : Nat)) (vB (65536 : Nat) (dg (vB (65536 : Nat) (dg n) / vB (65536 : Nat) [(2 : Int)])))).a (rgS (vB (65536 : Nat) l) (k - (1 : Nat)) (vB (65536 : Nat) (dg (vB (65536 : Nat) (dg n) / vB (65536 : Nat) [(2 : Int)])))).b))) *
  vB (65536 : Nat)
  (List.take (16 : Nat)
  (List.drop (16 : Nat)
  (f2L (rgS (vB (65536 : Nat) l) (k - (1 : Nat)) (vB (65536 : Nat) (dg (vB (65536 : Nat) (dg n) / vB (65536 : Nat) [(2 : Int)])))).c (rgS (vB (65536 : Nat) l) (k - (1 : Nat)) (vB (65536 : Nat) (dg (vB (65536 : Nat) (dg n) / vB (65536 : Nat) [(2 : Int)])))).d))) %
  FP))] =
  [D.arr IntKind.i64 (16 : Nat) l_1, D.arr IntKind.i64 (16 : Nat) m] ∧
  isF l_1 ∧ isF m) ∧
  ((16 : Nat) ≠ (0 : Nat) ∧ (16 : Nat) = (16 : Nat) ∧ true = true) ∧
  ((16 : Nat) ≠ (0 : Nat) ∧ (16 : Nat) = (16 : Nat) ∧ true = true) ∧
  (∃ (l_1 : List Int),
  ∃ (m : List Int),
  [D.arr IntKind.i64 (16 : Nat)
  (nB (65536 : Nat) (16 : Nat)
  (vB (65536 : Nat)
  (List.take (16 : Nat)
  (List.drop (0 : Nat)
  (f2L (rgS (vB (65536 : Nat) l) (k - (1 : Nat)) (vB (65536 : Nat) (dg (vB (65536 : Nat) (dg n) / vB (65536 : Nat) [(2 : Int)])))).a
  (rgS (vB (65536 : Nat) l) (k - (1 : Nat)) (vB (65536 : Nat) (dg (vB (65536 : Nat) (dg n) / vB (65536 : Nat) [(2 : Int)])))).b))) *
  vB (65536 : Nat)
  (List.take (16 : Nat)
  (List.drop (16 : Nat)
  (f2L (rgS (vB (65536 : Nat) l) (k - (1 : Nat)) (vB (65536 : Nat) (dg (vB (65536 : Nat) (dg n) / vB (65536 : Nat) [(2 : Int)])))).c
  (rgS (vB (65536 : Nat) l) (k - (1 : Nat)) (vB (65536 : Nat) (dg (vB (65536 : Nat) (dg n) / vB (65536 : Nat) [(2 : Int)])))).d))) %
  FP)),
  D.arr IntKind.i64 (16 : Nat)
  (nB (65536 : Nat) (16 : Nat)
  (vB (65536 : Nat)
  (List.take (16 : Nat)
  (List.drop (16 : Nat)
  (f2L (rgS (vB (65536 : Nat) l) (k - (1 : Nat)) (vB (65536 : Nat) (dg (vB (65536 : Nat) (dg n) / vB (65536 : Nat) [(2 : Int)])))).a
  (rgS (vB (65536 : Nat) l) (k - (1 : Nat)) (vB (65536 : Nat) (dg (vB (65536 : Nat) (dg n) / vB (65536 : Nat) [(2 : Int)])))).b))) *
  vB (65536 : Nat)
  (List.take (16 : Nat)
  (List.drop (0 : Nat)
  (f2L (rgS (vB (65536 : Nat) l) (k - (1 : Nat)) (vB (65536 : Nat) (dg (vB (65536 : Nat) (dg n) / vB (65536 : Nat) [(2 : Int)])))).c
  (rgS (vB (65536 : Nat) l) (k - (1 : Nat)) (vB (65536 : Nat) (dg (vB (65536 : Nat) (dg n) / vB (65536 : Nat) [(2 : Int)])))).d))) %
  FP))] =
  [D.arr IntKind.i64 (16 : Nat) l_1, D.arr IntKind.i64 (16 : Nat) m] ∧
  isF l_1 ∧ isF m) ∧
  (True ∧ (16 : Nat) ≠ (0 : Nat)) ∧
  (True ∧ (16 : Nat) ≠ (0 : Nat)) ∧
  (Sk.arr (16 : Nat) = Sk.arr (16 : Nat) ∧ (16 : Nat) ≠ (0 : Nat) ∧ (16 : Nat) = (16 : Nat) ∧ false = false) ∧
  (Sk.arr (16 : Nat) = Sk.arr (16 : Nat) ∧ (16 : Nat) ≠ (0 : Nat) ∧ (16 : Nat) = (16 : Nat) ∧ false = false) ∧
  ((16 : Nat) ≠ (0 : Nat) ∧ (16 : Nat) = (16 : Nat) ∧ true = true) ∧
  ((16 : Nat) ≠ (0 : Nat) ∧ (16 : Nat) = (16 : Nat) ∧ true = true) ∧
  (∃ (l_1 : List Int),
  ∃ (m : List Int),
  [D.arr IntKind.i64 (16 : Nat)
  (nB (65536 : Nat) (16 : Nat)
  (fsb
  (vB (65536 : Nat)
  (nB (65536 : Nat) (16 : Nat)
  (vB (65536 : Nat)
  (List.take (16 : Nat)
  (List.drop (0 : Nat)
  (f2L (rgS (vB (65536 : Nat) l) (k - (1 : Nat)) (vB (65536 : Nat) (dg (vB (65536 : Nat) (dg n) / vB (65536 : Nat) [(2 : Int)])))).a
  (rgS (vB (65536 : Nat) l) (k - (1 : Nat)) (vB (65536 : Nat) (dg (vB (65536 : Nat) (dg n) / vB (65536 : Nat) [(2 : Int)])))).b))) *
  vB (65536 : Nat)
  (List.take (16 : Nat)
  (List.drop (0 : Nat)
  (f2L (rgS (vB (65536 : Nat) l) (k - (1 : Nat)) (vB (65536 : Nat) (dg (vB (65536 : Nat) (dg n) / vB (65536 : Nat) [(2 : Int)])))).c
  (rgS (vB (65536 : Nat) l) (k - (1 : Nat)) (vB (65536 : Nat) (dg (vB (65536 : Nat) (dg n) / vB (65536 : Nat) [(2 : Int)])))).d))) %
  FP)))
  (vB (65536 : Nat)
  (nB (65536 : Nat) (16 : Nat)
  (vB (65536 : Nat)
  (List.take (16 : Nat)
  (List.drop (16 : Nat)
  (f2L (rgS (vB (65536 : Nat) l) (k - (1 : Nat)) (vB (65536 : Nat) (dg (vB (65536 : Nat) (dg n) / vB (65536 : Nat) [(2 : Int)])))).a
  (rgS (vB (65536 : Nat) l) (k - (1 : Nat)) (vB (65536 : Nat) (dg (vB (65536 : Nat) (dg n) / vB (65536 : Nat) [(2 : Int)])))).b))) *
  vB (65536 : Nat)
  (List.take (16 : Nat)
  (List.drop (16 : Nat)
  (f2L (rgS (vB (65536 : Nat) l) (k - (1 : Nat)) (vB (65536 : Nat) (dg (vB (65536 : Nat) (dg n) / vB (65536 : Nat) [(2 : Int)])))).c
  (rgS (vB (65536 : Nat) l) (k - (1 : Nat)) (vB (65536 : Nat) (dg (vB (65536 : Nat) (dg n) / vB (65536 : Nat) [(2 : Int)])))).d))) %
  FP))))),
  D.arr IntKind.i64 (16 : Nat)
  (nB (65536 : Nat) (16 : Nat)
  (fsb
  (vB (65536 : Nat)
  (nB (65536 : Nat) (16 : Nat)
  (vB (65536 : Nat)
  (List.take (16 : Nat)
  (List.drop (0 : Nat)
  (f2L (rgS (vB (65536 : Nat) l) (k - (1 : Nat)) (vB (65536 : Nat) (dg (vB (65536 : Nat) (dg n) / vB (65536 : Nat) [(2 : Int)])))).a
  (rgS (vB (65536 : Nat) l) (k - (1 : Nat)) (vB (65536 : Nat) (dg (vB (65536 : Nat) (dg n) / vB (65536 : Nat) [(2 : Int)])))).b))) *
  vB (65536 : Nat)
  (List.take (16 : Nat)
  (List.drop (0 : Nat)
  (f2L (rgS (vB (65536 : Nat) l) (k - (1 : Nat)) (vB (65536 : Nat) (dg (vB (65536 : Nat) (dg n) / vB (65536 : Nat) [(2 : Int)])))).c
  (rgS (vB (65536 : Nat) l) (k - (1 : Nat)) (vB (65536 : Nat) (dg (vB (65536 : Nat) (dg n) / vB (65536 : Nat) [(2 : Int)])))).d))) %
  FP)))
  (vB (65536 : Nat)
  (nB (65536 : Nat) (16 : Nat)
  (vB (65536 : Nat)
  (List.take (16 : Nat)
  (List.drop (16 : Nat)
  (f2L (rgS (vB (65536 : Nat) l) (k - (1 : Nat)) (vB (65536 : Nat) (dg (vB (65536 : Nat) (dg n) / vB (65536 : Nat) [(2 : Int)])))).a
  (rgS (vB (65536 : Nat) l) (k - (1 : Nat)) (vB (65536 : Nat) (dg (vB (65536 : Nat) (dg n) / vB (65536 : Nat) [(2 : Int)])))).b))) *
  vB (65536 : Nat)
  (List.take (16 : Nat)
  (List.drop (16 : Nat)
  (f2L (rgS (vB (65536 : Nat) l) (k - (1 : Nat)) (vB (65536 : Nat) (dg (vB (65536 : Nat) (dg n) / vB (65536 : Nat) [(2 : Int)])))).c
  (rgS (vB (65536 : Nat) l) (k - (1 : Nat)) (vB (65536 : Nat) (dg (vB (65536 : Nat) (dg n) / vB (65536 : Nat) [(2 : Int)])))).d))) %
  FP)))))] =
  [D.arr IntKind.i64 (16 : Nat) l_1, D.arr IntKind.i64 (16 : Nat) m] ∧
  isF l_1 ∧ isF m) ∧
  (true = true ∧ (16 : Nat) ≠ (0 : Nat) ∧ (16 : Nat) = (16 : Nat) ∧ true = true) ∧
  ((16 : Nat) ≠ (0 : Nat) ∧ (16 : Nat) = (16 : Nat) ∧ true = true) ∧
  ((16 : Nat) ≠ (0 : Nat) ∧ (16 : Nat) = (16 : Nat) ∧ true = true) ∧
  (∃ (l_1 : List Int),
  ∃ (m : List Int),
  [D.arr IntKind.i64 (16 : Nat)
  (nB (65536 : Nat) (16 : Nat)
  (fsb
  (vB (65536 : Nat)
  (nB (65536 : Nat) (16 : Nat)
  (vB (65536 : Nat)
  (List.take (16 : Nat)
  (List.drop (0 : Nat)
  (f2L (rgS (vB (65536 : Nat) l) (k - (1 : Nat)) (vB (65536 : Nat) (dg (vB (65536 : Nat) (dg n) / vB (65536 : Nat) [(2 : Int)])))).a
  (rgS (vB (65536 : Nat) l) (k - (1 : Nat)) (vB (65536 : Nat) (dg (vB (65536 : Nat) (dg n) / vB (65536 : Nat) [(2 : Int)])))).b))) *
  vB (65536 : Nat)
  (List.take (16 : Nat)
  (List.drop (16 : Nat)
  (f2L (rgS (vB (65536 : Nat) l) (k - (1 : Nat)) (vB (65536 : Nat) (dg (vB (65536 : Nat) (dg n) / vB (65536 : Nat) [(2 : Int)])))).c
  (rgS (vB (65536 : Nat) l) (k - (1 : Nat)) (vB (65536 : Nat) (dg (vB (65536 : Nat) (dg n) / vB (65536 : Nat) [(2 : Int)])))).d))) %
  FP)))
  (vB (65536 : Nat)
  (nB (65536 : Nat) (16 : Nat)
  (vB (65536 : Nat)
  (List.take (16 : Nat)
  (List.drop (16 : Nat)
  (f2L (rgS (vB (65536 : Nat) l) (k - (1 : Nat)) (vB (65536 : Nat) (dg (vB (65536 : Nat) (dg n) / vB (65536 : Nat) [(2 : Int)])))).a
  (rgS (vB (65536 : Nat) l) (k - (1 : Nat)) (vB (65536 : Nat) (dg (vB (65536 : Nat) (dg n) / vB (65536 : Nat) [(2 : Int)])))).b))) *
  vB (65536 : Nat)
  (List.take (16 : Nat)
  (List.drop (0 : Nat)
  (f2L (rgS (vB (65536 : Nat) l) (k - (1 : Nat)) (vB (65536 : Nat) (dg (vB (65536 : Nat) (dg n) / vB (65536 : Nat) [(2 : Int)])))).c
  (rgS (vB (65536 : Nat) l) (k - (1 : Nat)) (vB (65536 : Nat) (dg (vB (65536 : Nat) (dg n) / vB (65536 : Nat) [(2 : Int)])))).d))) %
  FP))))),
  D.arr IntKind.i64 (16 : Nat)
  (nB (65536 : Nat) (16 : Nat)
  (fsb
  (vB (65536 : Nat)
  (nB (65536 : Nat) (16 : Nat)
  (vB (65536 : Nat)
  (List.take (16 : Nat)
  (List.drop (0 : Nat)
  (f2L (rgS (vB (65536 : Nat) l) (k - (1 : Nat)) (vB (65536 : Nat) (dg (vB (65536 : Nat) (dg n) / vB (65536 : Nat) [(2 : Int)])))).a
  (rgS (vB (65536 : Nat) l) (k - (1 : Nat)) (vB (65536 : Nat) (dg (vB (65536 : Nat) (dg n) / vB (65536 : Nat) [(2 : Int)])))).b))) *
  vB (65536 : Nat)
  (List.take (16 : Nat)
  (List.drop (16 : Nat)
  (f2L (rgS (vB (65536 : Nat) l) (k - (1 : Nat)) (vB (65536 : Nat) (dg (vB (65536 : Nat) (dg n) / vB (65536 : Nat) [(2 : Int)])))).c
  (rgS (vB (65536 : Nat) l) (k - (1 : Nat)) (vB (65536 : Nat) (dg (vB (65536 : Nat) (dg n) / vB (65536 : Nat) [(2 : Int)])))).d))) %
  FP)))
  (vB (65536 : Nat)
  (nB (65536 : Nat) (16 : Nat)
  (vB (65536 : Nat)
  (List.take (16 : Nat)
  (List.drop (16 : Nat)
  (f2L (rgS (vB (65536 : Nat) l) (k - (1 : Nat)) (vB (65536 : Nat) (dg (vB (65536 : Nat) (dg n) / vB (65536 : Nat) [(2 : Int)])))).a
  (rgS (vB (65536 : Nat) l) (k - (1 : Nat)) (vB (65536 : Nat) (dg (vB (65536 : Nat) (dg n) / vB (65536 : Nat) [(2 : Int)])))).b))) *
  vB (65536 : Nat)
  (List.take (16 : Nat)
  (List.drop (0 : Nat)
  (f2L (rgS (vB (65536 : Nat) l) (k - (1 : Nat)) (vB (65536 : Nat) (dg (vB (65536 : Nat) (dg n) / vB (65536 : Nat) [(2 : Int)])))).c
  (rgS (vB (65536 : Nat) l) (k - (1 : Nat)) (vB (65536 : Nat) (dg (vB (65536 : Nat) (dg n) / vB (65536 : Nat) [(2 : Int)])))).d))) %
  FP)))))] =
  [D.arr IntKind.i64 (16 : Nat) l_1, D.arr IntKind.i64 (16 : Nat) m] ∧
  isF l_1 ∧ isF m) ∧
  (∃ (l_1 : List Int),
  ∃ (m : List Int),
  [D.arr IntKind.i64 (16 : Nat) l,
  D.arr IntKind.i64 (16 : Nat)
  (nB (65536 : Nat) (16 : Nat)
  (vB (65536 : Nat)
  (nB (65536 : Nat) (16 : Nat)
  (fsb
  (vB (65536 : Nat)
  (nB (65536 : Nat) (16 : Nat)
  (vB (65536 : Nat)
  (List.take (16 : Nat)
  (List.drop (0 : Nat)
  (f2L (rgS (vB (65536 : Nat) l) (k - (1 : Nat)) (vB (65536 : Nat) (dg (vB (65536 : Nat) (dg n) / vB (65536 : Nat) [(2 : Int)])))).a
  (rgS (vB (65536 : Nat) l) (k - (1 : Nat)) (vB (65536 : Nat) (dg (vB (65536 : Nat) (dg n) / vB (65536 : Nat) [(2 : Int)])))).b))) *
  vB (65536 : Nat)
  (List.take (16 : Nat)
  (List.drop (16 : Nat)
  (f2L (rgS (vB (65536 : Nat) l) (k - (1 : Nat)) (vB (65536 : Nat) (dg (vB (65536 : Nat) (dg n) / vB (65536 : Nat) [(2 : Int)])))).c
  (rgS (vB (65536 : Nat) l) (k - (1 : Nat)) (vB (65536 : Nat) (dg (vB (65536 : Nat) (dg n) / vB (65536 : Nat) [(2 : Int)])))).d))) %
  FP)))
  (vB (65536 : Nat)
  (nB (65536 : Nat) (16 : Nat)
  (vB (65536 : Nat)
  (List.take (16 : Nat)
  (List.drop (16 : Nat)
  (f2L (rgS (vB (65536 : Nat) l) (k - (1 : Nat)) (vB (65536 : Nat) (dg (vB (65536 : Nat) (dg n) / vB (65536 : Nat) [(2 : Int)])))).a
  (rgS (vB (65536 : Nat) l) (k - (1 : Nat)) (vB (65536 : Nat) (dg (vB (65536 : Nat) (dg n) / vB (65536 : Nat) [(2 : Int)])))).b))) *
  vB (65536 : Nat)
  (List.take (16 : Nat)
  (List.drop (0 : Nat)
  (f2L (rgS (vB (65536 : Nat) l) (k - (1 : Nat)) (vB (65536 : Nat) (dg (vB (65536 : Nat) (dg n) / vB (65536 : Nat) [(2 : Int)])))).c
  (rgS (vB (65536 : Nat) l) (k - (1 : Nat)) (vB (65536 : Nat) (dg (vB (65536 : Nat) (dg n) / vB (65536 : Nat) [(2 : Int)])))).d))) %
  FP))))) *
  vB (65536 : Nat)
  (nB (65536 : Nat) (16 : Nat)
  (fsb
  (vB (65536 : Nat)
  (nB (65536 : Nat) (16 : Nat)
  (vB (65536 : Nat)
  (List.take (16 : Nat)
  (List.drop (0 : Nat)
  (f2L (rgS (vB (65536 : Nat) l) (k - (1 : Nat)) (vB (65536 : Nat) (dg (vB (65536 : Nat) (dg n) / vB (65536 : Nat) [(2 : Int)])))).a
  (rgS (vB (65536 : Nat) l) (k - (1 : Nat)) (vB (65536 : Nat) (dg (vB (65536 : Nat) (dg n) / vB (65536 : Nat) [(2 : Int)])))).b))) *
  vB (65536 : Nat)
  (List.take (16 : Nat)
  (List.drop (16 : Nat)
  (f2L (rgS (vB (65536 : Nat) l) (k - (1 : Nat)) (vB (65536 : Nat) (dg (vB (65536 : Nat) (dg n) / vB (65536 : Nat) [(2 : Int)])))).c
  (rgS (vB (65536 : Nat) l) (k - (1 : Nat)) (vB (65536 : Nat) (dg (vB (65536 : Nat) (dg n) / vB (65536 : Nat) [(2 : Int)])))).d))) %
  FP)))
  (vB (65536 : Nat)
  (nB (65536 : Nat) (16 : Nat)
  (vB (65536 : Nat)
  (List.take (16 : Nat)
  (List.drop (16 : Nat)
  (f2L (rgS (vB (65536 : Nat) l) (k - (1 : Nat)) (vB (65536 : Nat) (dg (vB (65536 : Nat) (dg n) / vB (65536 : Nat) [(2 : Int)])))).a
  (rgS (vB (65536 : Nat) l) (k - (1 : Nat)) (vB (65536 : Nat) (dg (vB (65536 : Nat) (dg n) / vB (65536 : Nat) [(2 : Int)])))).b))) *
  vB (65536 : Nat)
  (List.take (16 : Nat)
  (List.drop (0 : Nat)
  (f2L (rgS (vB (65536 : Nat) l) (k - (1 : Nat)) (vB (65536 : Nat) (dg (vB (65536 : Nat) (dg n) / vB (65536 : Nat) [(2 : Int)])))).c
  (rgS (vB (65536 : Nat) l) (k - (1 : Nat)) (vB (65536 : Nat) (dg (vB (65536 : Nat) (dg n) / vB (65536 : Nat) [(2 : Int)])))).d))) %
  FP))))) %
  FP))] =
  [D.arr IntKind.i64 (16 : Nat) l_1, D.arr IntKind.i64 (16 : Nat) m] ∧
  isF l_1 ∧ isF m) ∧
  ((16 : Nat) = (16 : Nat) ∧ (16 : Nat) ≠ (0 : Nat) ∧ IntKind.i64 = IntKind.i64 ∧ (16 : Nat) = (16 : Nat) ∧ (16 : Nat) ≤ (32 : Nat) ∧ IntKind.i64 = IntKind.i64 ∧ (16 : Nat) = (16 : Nat) ∧ (32 : Nat) ≤ (32 : Nat) ∧ True) ∧
  (True ∧ (32 : Nat) ≠ (0 : Nat)) ∧
  (true = true ∧ Sk.arr (32 : Nat) = Sk.arr (32 : Nat) ∧ (32 : Nat) ≠ (0 : Nat) ∧ (32 : Nat) = (32 : Nat) ∧ false = false) ∧
  True ∧
  True ∧
  True ∧
  match (↑(dg (vB (65536 : Nat) (dg n) % vB (65536 : Nat) [(2 : Int)])).length : Int) == (0 : Int) with
  | true =>
   ((32 : Nat) ≠ (0 : Nat) ∧ (32 : Nat) = (32 : Nat) ∧ true = true) ∧
   (∃ (l_1 : List Int),
   [D.arr IntKind.i64 (32 : Nat)
   (f2L (rgS (vB (65536 : Nat) l) (k - (1 : Nat)) (vB (65536 : Nat) (dg (vB (65536 : Nat) (dg n) / vB (65536 : Nat) [(2 : Int)])))).a
   (rgS (vB (65536 : Nat) l) (k - (1 : Nat)) (vB (65536 : Nat) (dg (vB (65536 : Nat) (dg n) / vB (65536 : Nat) [(2 : Int)])))).b)] =
   [D.arr IntKind.i64 (32 : Nat) l_1] ∧
   isF2 l_1) ∧
   (true = true ∧ (32 : Nat) ≠ (0 : Nat) ∧ (32 : Nat) = (32 : Nat) ∧ true = true) ∧
   (true = true ∧ Sk.arr (32 : Nat) = Sk.arr (32 : Nat) ∧ (32 : Nat) ≠ (0 : Nat) ∧ (32 : Nat) = (32 : Nat) ∧ false = false) ∧
   (true = true ∧ Sk.arr (32 : Nat) = Sk.arr (32 : Nat) ∧ (32 : Nat) ≠ (0 : Nat) ∧ (32 : Nat) = (32 : Nat) ∧ false = false) ∧
   (((32 : Nat) ≠ (0 : Nat) ∧ (32 : Nat) = (32 : Nat) ∧ true = true) ∧ ((32 : Nat) ≠ (0 : Nat) ∧ (32 : Nat) = (32 : Nat) ∧ true = true) ∧ True) ∧
   D.tup
   [D.arr IntKind.i64 (32 : Nat)
   (f2L
   (dX
   (vB (65536 : Nat)
   (List.take (16 : Nat)
   (f2L (rgS (vB (65536 : Nat) l) (k - (1 : Nat)) (vB (65536 : Nat) (dg (vB (65536 : Nat) (dg n) / vB (65536 : Nat) [(2 : Int)])))).a
   (rgS (vB (65536 : Nat) l) (k - (1 : Nat)) (vB (65536 : Nat) (dg (vB (65536 : Nat) (dg n) / vB (65536 : Nat) [(2 : Int)])))).b)))
   (vB (65536 : Nat)
   (List.take (16 : Nat)
   (List.drop (16 : Nat)
   (f2L (rgS (vB (65536 : Nat) l) (k - (1 : Nat)) (vB (65536 : Nat) (dg (vB (65536 : Nat) (dg n) / vB (65536 : Nat) [(2 : Int)])))).a
   (rgS (vB (65536 : Nat) l) (k - (1 : Nat)) (vB (65536 : Nat) (dg (vB (65536 : Nat) (dg n) / vB (65536 : Nat) [(2 : Int)])))).b)))))
   (dZ
   (vB (65536 : Nat)
   (List.take (16 : Nat)
   (f2L (rgS (vB (65536 : Nat) l) (k - (1 : Nat)) (vB (65536 : Nat) (dg (vB (65536 : Nat) (dg n) / vB (65536 : Nat) [(2 : Int)])))).a
   (rgS (vB (65536 : Nat) l) (k - (1 : Nat)) (vB (65536 : Nat) (dg (vB (65536 : Nat) (dg n) / vB (65536 : Nat) [(2 : Int)])))).b)))
   (vB (65536 : Nat)
   (List.take (16 : Nat)
   (List.drop (16 : Nat)
   (f2L (rgS (vB (65536 : Nat) l) (k - (1 : Nat)) (vB (65536 : Nat) (dg (vB (65536 : Nat) (dg n) / vB (65536 : Nat) [(2 : Int)])))).a
   (rgS (vB (65536 : Nat) l) (k - (1 : Nat)) (vB (65536 : Nat) (dg (vB (65536 : Nat) (dg n) / vB (65536 : Nat) [(2 : Int)])))).b)))))),
   D.arr IntKind.i64 (32 : Nat)
   (spl
   (spl
   [(0 : Int), (0 : Int), (0 : Int), (0 : Int), (0 : Int), (0 : Int), (0 : Int), (0 : Int), (0 : Int), (0 : Int), (0 : Int), (0 : Int), (0 : Int), (0 : Int), (0 : Int), (0 : Int), (0 : Int), (0 : Int), (0 : Int),
   (0 : Int), (0 : Int), (0 : Int), (0 : Int), (0 : Int), (0 : Int), (0 : Int), (0 : Int), (0 : Int), (0 : Int), (0 : Int), (0 : Int), (0 : Int)]
   (0 : Nat) (16 : Nat)
   (nB (65536 : Nat) (16 : Nat)
   (vB (65536 : Nat)
   (nB (65536 : Nat) (16 : Nat)
   (fsb
   (vB (65536 : Nat)
   (nB (65536 : Nat) (16 : Nat)
   (vB (65536 : Nat)
   (List.take (16 : Nat)
   (List.drop (0 : Nat)
   (f2L (rgS (vB (65536 : Nat) l) (k - (1 : Nat)) (vB (65536 : Nat) (dg (vB (65536 : Nat) (dg n) / vB (65536 : Nat) [(2 : Int)])))).a
   (rgS (vB (65536 : Nat) l) (k - (1 : Nat)) (vB (65536 : Nat) (dg (vB (65536 : Nat) (dg n) / vB (65536 : Nat) [(2 : Int)])))).b))) *
   vB (65536 : Nat)
   (List.take (16 : Nat)
   (List.drop (0 : Nat)
   (f2L (rgS (vB (65536 : Nat) l) (k - (1 : Nat)) (vB (65536 : Nat) (dg (vB (65536 : Nat) (dg n) / vB (65536 : Nat) [(2 : Int)])))).c
   (rgS (vB (65536 : Nat) l) (k - (1 : Nat)) (vB (65536 : Nat) (dg (vB (65536 : Nat) (dg n) / vB (65536 : Nat) [(2 : Int)])))).d))) %
   FP)))
   (vB (65536 : Nat)
   (nB (65536 : Nat) (16 : Nat)
   (vB (65536 : Nat)
   (List.take (16 : Nat)
   (List.drop (16 : Nat)
   (f2L (rgS (vB (65536 : Nat) l) (k - (1 : Nat)) (vB (65536 : Nat) (dg (vB (65536 : Nat) (dg n) / vB (65536 : Nat) [(2 : Int)])))).a
   (rgS (vB (65536 : Nat) l) (k - (1 : Nat)) (vB (65536 : Nat) (dg (vB (65536 : Nat) (dg n) / vB (65536 : Nat) [(2 : Int)])))).b))) *
   vB (65536 : Nat)
   (List.take (16 : Nat)
   (List.drop (16 : Nat)
   (f2L (rgS (vB (65536 : Nat) l) (k - (1 : Nat)) (vB (65536 : Nat) (dg (vB (65536 : Nat) (dg n) / vB (65536 : Nat) [(2 : Int)])))).c
   (rgS (vB (65536 : Nat) l) (k - (1 : Nat)) (vB (65536 : Nat) (dg (vB (65536 : Nat) (dg n) / vB (65536 : Nat) [(2 : Int)])))).d))) %
   FP))))) *
   vB (65536 : Nat)
   (nB (65536 : Nat) (16 : Nat)
   (fsb
   (vB (65536 : Nat)
   (nB (65536 : Nat) (16 : Nat)
   (vB (65536 : Nat)
   (List.take (16 : Nat)
   (List.drop (0 : Nat)
   (f2L (rgS (vB (65536 : Nat) l) (k - (1 : Nat)) (vB (65536 : Nat) (dg (vB (65536 : Nat) (dg n) / vB (65536 : Nat) [(2 : Int)])))).a
   (rgS (vB (65536 : Nat) l) (k - (1 : Nat)) (vB (65536 : Nat) (dg (vB (65536 : Nat) (dg n) / vB (65536 : Nat) [(2 : Int)])))).b))) *
   vB (65536 : Nat)
   (List.take (16 : Nat)
   (List.drop (0 : Nat)
   (f2L (rgS (vB (65536 : Nat) l) (k - (1 : Nat)) (vB (65536 : Nat) (dg (vB (65536 : Nat) (dg n) / vB (65536 : Nat) [(2 : Int)])))).c
   (rgS (vB (65536 : Nat) l) (k - (1 : Nat)) (vB (65536 : Nat) (dg (vB (65536 : Nat) (dg n) / vB (65536 : Nat) [(2 : Int)])))).d))) %
   FP)))
   (vB (65536 : Nat)
   (nB (65536 : Nat) (16 : Nat)
   (vB (65536 : Nat)
   (List.take (16 : Nat)
   (List.drop (16 : Nat)
   (f2L (rgS (vB (65536 : Nat) l) (k - (1 : Nat)) (vB (65536 : Nat) (dg (vB (65536 : Nat) (dg n) / vB (65536 : Nat) [(2 : Int)])))).a
   (rgS (vB (65536 : Nat) l) (k - (1 : Nat)) (vB (65536 : Nat) (dg (vB (65536 : Nat) (dg n) / vB (65536 : Nat) [(2 : Int)])))).b))) *
   vB (65536 : Nat)
   (List.take (16 : Nat)
   (List.drop (16 : Nat)
   (f2L (rgS (vB (65536 : Nat) l) (k - (1 : Nat)) (vB (65536 : Nat) (dg (vB (65536 : Nat) (dg n) / vB (65536 : Nat) [(2 : Int)])))).c
   (rgS (vB (65536 : Nat) l) (k - (1 : Nat)) (vB (65536 : Nat) (dg (vB (65536 : Nat) (dg n) / vB (65536 : Nat) [(2 : Int)])))).d))) %
   FP))))) %
   FP)))
   (16 : Nat) (16 : Nat)
   (nB (65536 : Nat) (16 : Nat)
   (vB (65536 : Nat) l *
   vB (65536 : Nat)
   (nB (65536 : Nat) (16 : Nat)
   (vB (65536 : Nat)
   (nB (65536 : Nat) (16 : Nat)
   (fsb
   (vB (65536 : Nat)
   (nB (65536 : Nat) (16 : Nat)
   (vB (65536 : Nat)
   (List.take (16 : Nat)
   (List.drop (0 : Nat)
   (f2L (rgS (vB (65536 : Nat) l) (k - (1 : Nat)) (vB (65536 : Nat) (dg (vB (65536 : Nat) (dg n) / vB (65536 : Nat) [(2 : Int)])))).a
   (rgS (vB (65536 : Nat) l) (k - (1 : Nat)) (vB (65536 : Nat) (dg (vB (65536 : Nat) (dg n) / vB (65536 : Nat) [(2 : Int)])))).b))) *
   vB (65536 : Nat)
   (List.take (16 : Nat)
   (List.drop (16 : Nat)
   (f2L (rgS (vB (65536 : Nat) l) (k - (1 : Nat)) (vB (65536 : Nat) (dg (vB (65536 : Nat) (dg n) / vB (65536 : Nat) [(2 : Int)])))).c
   (rgS (vB (65536 : Nat) l) (k - (1 : Nat)) (vB (65536 : Nat) (dg (vB (65536 : Nat) (dg n) / vB (65536 : Nat) [(2 : Int)])))).d))) %
   FP)))
   (vB (65536 : Nat)
   (nB (65536 : Nat) (16 : Nat)
   (vB (65536 : Nat)
   (List.take (16 : Nat)
   (List.drop (16 : Nat)
   (f2L (rgS (vB (65536 : Nat) l) (k - (1 : Nat)) (vB (65536 : Nat) (dg (vB (65536 : Nat) (dg n) / vB (65536 : Nat) [(2 : Int)])))).a
   (rgS (vB (65536 : Nat) l) (k - (1 : Nat)) (vB (65536 : Nat) (dg (vB (65536 : Nat) (dg n) / vB (65536 : Nat) [(2 : Int)])))).b))) *
   vB (65536 : Nat)
   (List.take (16 : Nat)
   (List.drop (0 : Nat)
   (f2L (rgS (vB (65536 : Nat) l) (k - (1 : Nat)) (vB (65536 : Nat) (dg (vB (65536 : Nat) (dg n) / vB (65536 : Nat) [(2 : Int)])))).c
   (rgS (vB (65536 : Nat) l) (k - (1 : Nat)) (vB (65536 : Nat) (dg (vB (65536 : Nat) (dg n) / vB (65536 : Nat) [(2 : Int)])))).d))) %
   FP))))) *
   vB (65536 : Nat)
   (nB (65536 : Nat) (16 : Nat)
   (fsb
   (vB (65536 : Nat)
   (nB (65536 : Nat) (16 : Nat)
   (vB (65536 : Nat)
   (List.take (16 : Nat)
   (List.drop (0 : Nat)
   (f2L (rgS (vB (65536 : Nat) l) (k - (1 : Nat)) (vB (65536 : Nat) (dg (vB (65536 : Nat) (dg n) / vB (65536 : Nat) [(2 : Int)])))).a
   (rgS (vB (65536 : Nat) l) (k - (1 : Nat)) (vB (65536 : Nat) (dg (vB (65536 : Nat) (dg n) / vB (65536 : Nat) [(2 : Int)])))).b))) *
   vB (65536 : Nat)
   (List.take (16 : Nat)
   (List.drop (16 : Nat)
   (f2L (rgS (vB (65536 : Nat) l) (k - (1 : Nat)) (vB (65536 : Nat) (dg (vB (65536 : Nat) (dg n) / vB (65536 : Nat) [(2 : Int)])))).c
   (rgS (vB (65536 : Nat) l) (k - (1 : Nat)) (vB (65536 : Nat) (dg (vB (65536 : Nat) (dg n) / vB (65536 : Nat) [(2 : Int)])))).d))) %
   FP)))
   (vB (65536 : Nat)
   (nB (65536 : Nat) (16 : Nat)
   (vB (65536 : Nat)
   (List.take (16 : Nat)
   (List.drop (16 : Nat)
   (f2L (rgS (vB (65536 : Nat) l) (k - (1 : Nat)) (vB (65536 : Nat) (dg (vB (65536 : Nat) (dg n) / vB (65536 : Nat) [(2 : Int)])))).a
   (rgS (vB (65536 : Nat) l) (k - (1 : Nat)) (vB (65536 : Nat) (dg (vB (65536 : Nat) (dg n) / vB (65536 : Nat) [(2 : Int)])))).b))) *
   vB (65536 : Nat)
   (List.take (16 : Nat)
   (List.drop (0 : Nat)
   (f2L (rgS (vB (65536 : Nat) l) (k - (1 : Nat)) (vB (65536 : Nat) (dg (vB (65536 : Nat) (dg n) / vB (65536 : Nat) [(2 : Int)])))).c
   (rgS (vB (65536 : Nat) l) (k - (1 : Nat)) (vB (65536 : Nat) (dg (vB (65536 : Nat) (dg n) / vB (65536 : Nat) [(2 : Int)])))).d))) %
   FP))))) %
   FP)) %
   FP)))] =
   F
  | false =>
   (true = true ∧ (32 : Nat) ≠ (0 : Nat) ∧ (32 : Nat) = (32 : Nat) ∧ true = true) ∧
   ((32 : Nat) ≠ (0 : Nat) ∧ (32 : Nat) = (32 : Nat) ∧ true = true) ∧
   (∃ (l_1 : List Int),
   [D.arr IntKind.i64 (32 : Nat)
   (f2L (rgS (vB (65536 : Nat) l) (k - (1 : Nat)) (vB (65536 : Nat) (dg (vB (65536 : Nat) (dg n) / vB (65536 : Nat) [(2 : Int)])))).c
   (rgS (vB (65536 : Nat) l) (k - (1 : Nat)) (vB (65536 : Nat) (dg (vB (65536 : Nat) (dg n) / vB (65536 : Nat) [(2 : Int)])))).d)] =
   [D.arr IntKind.i64 (32 : Nat) l_1] ∧
   isF2 l_1) ∧
   (true = true ∧ Sk.arr (32 : Nat) = Sk.arr (32 : Nat) ∧ (32 : Nat) ≠ (0 : Nat) ∧ (32 : Nat) = (32 : Nat) ∧ false = false) ∧
   (true = true ∧ Sk.arr (32 : Nat) = Sk.arr (32 : Nat) ∧ (32 : Nat) ≠ (0 : Nat) ∧ (32 : Nat) = (32 : Nat) ∧ false = false) ∧
   (((32 : Nat) ≠ (0 : Nat) ∧ (32 : Nat) = (32 : Nat) ∧ true = true) ∧ ((32 : Nat) ≠ (0 : Nat) ∧ (32 : Nat) = (32 : Nat) ∧ true = true) ∧ True) ∧
   D.tup
   [D.arr IntKind.i64 (32 : Nat)
   (spl
   (spl
   [(0 : Int), (0 : Int), (0 : Int), (0 : Int), (0 : Int), (0 : Int), (0 : Int), (0 : Int), (0 : Int), (0 : Int), (0 : Int), (0 : Int), (0 : Int), (0 : Int), (0 : Int), (0 : Int), (0 : Int), (0 : Int), (0 : Int),
   (0 : Int), (0 : Int), (0 : Int), (0 : Int), (0 : Int), (0 : Int), (0 : Int), (0 : Int), (0 : Int), (0 : Int), (0 : Int), (0 : Int), (0 : Int)]
   (0 : Nat) (16 : Nat)
   (nB (65536 : Nat) (16 : Nat)
   (vB (65536 : Nat)
   (nB (65536 : Nat) (16 : Nat)
   (fsb
   (vB (65536 : Nat)
   (nB (65536 : Nat) (16 : Nat)
   (vB (65536 : Nat)
   (List.take (16 : Nat)
   (List.drop (0 : Nat)
   (f2L (rgS (vB (65536 : Nat) l) (k - (1 : Nat)) (vB (65536 : Nat) (dg (vB (65536 : Nat) (dg n) / vB (65536 : Nat) [(2 : Int)])))).a
   (rgS (vB (65536 : Nat) l) (k - (1 : Nat)) (vB (65536 : Nat) (dg (vB (65536 : Nat) (dg n) / vB (65536 : Nat) [(2 : Int)])))).b))) *
   vB (65536 : Nat)
   (List.take (16 : Nat)
   (List.drop (0 : Nat)
   (f2L (rgS (vB (65536 : Nat) l) (k - (1 : Nat)) (vB (65536 : Nat) (dg (vB (65536 : Nat) (dg n) / vB (65536 : Nat) [(2 : Int)])))).c
   (rgS (vB (65536 : Nat) l) (k - (1 : Nat)) (vB (65536 : Nat) (dg (vB (65536 : Nat) (dg n) / vB (65536 : Nat) [(2 : Int)])))).d))) %
   FP)))
   (vB (65536 : Nat)
   (nB (65536 : Nat) (16 : Nat)
   (vB (65536 : Nat)
   (List.take (16 : Nat)
   (List.drop (16 : Nat)
   (f2L (rgS (vB (65536 : Nat) l) (k - (1 : Nat)) (vB (65536 : Nat) (dg (vB (65536 : Nat) (dg n) / vB (65536 : Nat) [(2 : Int)])))).a
   (rgS (vB (65536 : Nat) l) (k - (1 : Nat)) (vB (65536 : Nat) (dg (vB (65536 : Nat) (dg n) / vB (65536 : Nat) [(2 : Int)])))).b))) *
   vB (65536 : Nat)
   (List.take (16 : Nat)
   (List.drop (16 : Nat)
   (f2L (rgS (vB (65536 : Nat) l) (k - (1 : Nat)) (vB (65536 : Nat) (dg (vB (65536 : Nat) (dg n) / vB (65536 : Nat) [(2 : Int)])))).c
   (rgS (vB (65536 : Nat) l) (k - (1 : Nat)) (vB (65536 : Nat) (dg (vB (65536 : Nat) (dg n) / vB (65536 : Nat) [(2 : Int)])))).d))) %
   FP))))) *
   vB (65536 : Nat)
   (nB (65536 : Nat) (16 : Nat)
   (fsb
   (vB (65536 : Nat)
   (nB (65536 : Nat) (16 : Nat)
   (vB (65536 : Nat)
   (List.take (16 : Nat)
   (List.drop (0 : Nat)
   (f2L (rgS (vB (65536 : Nat) l) (k - (1 : Nat)) (vB (65536 : Nat) (dg (vB (65536 : Nat) (dg n) / vB (65536 : Nat) [(2 : Int)])))).a
   (rgS (vB (65536 : Nat) l) (k - (1 : Nat)) (vB (65536 : Nat) (dg (vB (65536 : Nat) (dg n) / vB (65536 : Nat) [(2 : Int)])))).b))) *
   vB (65536 : Nat)
   (List.take (16 : Nat)
   (List.drop (0 : Nat)
   (f2L (rgS (vB (65536 : Nat) l) (k - (1 : Nat)) (vB (65536 : Nat) (dg (vB (65536 : Nat) (dg n) / vB (65536 : Nat) [(2 : Int)])))).c
   (rgS (vB (65536 : Nat) l) (k - (1 : Nat)) (vB (65536 : Nat) (dg (vB (65536 : Nat) (dg n) / vB (65536 : Nat) [(2 : Int)])))).d))) %
   FP)))
   (vB (65536 : Nat)
   (nB (65536 : Nat) (16 : Nat)
   (vB (65536 : Nat)
   (List.take (16 : Nat)
   (List.drop (16 : Nat)
   (f2L (rgS (vB (65536 : Nat) l) (k - (1 : Nat)) (vB (65536 : Nat) (dg (vB (65536 : Nat) (dg n) / vB (65536 : Nat) [(2 : Int)])))).a
   (rgS (vB (65536 : Nat) l) (k - (1 : Nat)) (vB (65536 : Nat) (dg (vB (65536 : Nat) (dg n) / vB (65536 : Nat) [(2 : Int)])))).b))) *
   vB (65536 : Nat)
   (List.take (16 : Nat)
   (List.drop (16 : Nat)
   (f2L (rgS (vB (65536 : Nat) l) (k - (1 : Nat)) (vB (65536 : Nat) (dg (vB (65536 : Nat) (dg n) / vB (65536 : Nat) [(2 : Int)])))).c
   (rgS (vB (65536 : Nat) l) (k - (1 : Nat)) (vB (65536 : Nat) (dg (vB (65536 : Nat) (dg n) / vB (65536 : Nat) [(2 : Int)])))).d))) %
   FP))))) %
   FP)))
   (16 : Nat) (16 : Nat)
   (nB (65536 : Nat) (16 : Nat)
   (vB (65536 : Nat) l *
   vB (65536 : Nat)
   (nB (65536 : Nat) (16 : Nat)
   (vB (65536 : Nat)
   (nB (65536 : Nat) (16 : Nat)
   (fsb
   (vB (65536 : Nat)
   (nB (65536 : Nat) (16 : Nat)
   (vB (65536 : Nat)
   (List.take (16 : Nat)
   (List.drop (0 : Nat)
   (f2L (rgS (vB (65536 : Nat) l) (k - (1 : Nat)) (vB (65536 : Nat) (dg (vB (65536 : Nat) (dg n) / vB (65536 : Nat) [(2 : Int)])))).a
   (rgS (vB (65536 : Nat) l) (k - (1 : Nat)) (vB (65536 : Nat) (dg (vB (65536 : Nat) (dg n) / vB (65536 : Nat) [(2 : Int)])))).b))) *
   vB (65536 : Nat)
   (List.take (16 : Nat)
   (List.drop (16 : Nat)
   (f2L (rgS (vB (65536 : Nat) l) (k - (1 : Nat)) (vB (65536 : Nat) (dg (vB (65536 : Nat) (dg n) / vB (65536 : Nat) [(2 : Int)])))).c
   (rgS (vB (65536 : Nat) l) (k - (1 : Nat)) (vB (65536 : Nat) (dg (vB (65536 : Nat) (dg n) / vB (65536 : Nat) [(2 : Int)])))).d))) %
   FP)))
   (vB (65536 : Nat)
   (nB (65536 : Nat) (16 : Nat)
   (vB (65536 : Nat)
   (List.take (16 : Nat)
   (List.drop (16 : Nat)
   (f2L (rgS (vB (65536 : Nat) l) (k - (1 : Nat)) (vB (65536 : Nat) (dg (vB (65536 : Nat) (dg n) / vB (65536 : Nat) [(2 : Int)])))).a
   (rgS (vB (65536 : Nat) l) (k - (1 : Nat)) (vB (65536 : Nat) (dg (vB (65536 : Nat) (dg n) / vB (65536 : Nat) [(2 : Int)])))).b))) *
   vB (65536 : Nat)
   (List.take (16 : Nat)
   (List.drop (0 : Nat)
   (f2L (rgS (vB (65536 : Nat) l) (k - (1 : Nat)) (vB (65536 : Nat) (dg (vB (65536 : Nat) (dg n) / vB (65536 : Nat) [(2 : Int)])))).c
   (rgS (vB (65536 : Nat) l) (k - (1 : Nat)) (vB (65536 : Nat) (dg (vB (65536 : Nat) (dg n) / vB (65536 : Nat) [(2 : Int)])))).d))) %
   FP))))) *
   vB (65536 : Nat)
   (nB (65536 : Nat) (16 : Nat)
   (fsb
   (vB (65536 : Nat)
   (nB (65536 : Nat) (16 : Nat)
   (vB (65536 : Nat)
   (List.take (16 : Nat)
   (List.drop (0 : Nat)
   (f2L (rgS (vB (65536 : Nat) l) (k - (1 : Nat)) (vB (65536 : Nat) (dg (vB (65536 : Nat) (dg n) / vB (65536 : Nat) [(2 : Int)])))).a
   (rgS (vB (65536 : Nat) l) (k - (1 : Nat)) (vB (65536 : Nat) (dg (vB (65536 : Nat) (dg n) / vB (65536 : Nat) [(2 : Int)])))).b))) *
   vB (65536 : Nat)
   (List.take (16 : Nat)
   (List.drop (16 : Nat)
   (f2L (rgS (vB (65536 : Nat) l) (k - (1 : Nat)) (vB (65536 : Nat) (dg (vB (65536 : Nat) (dg n) / vB (65536 : Nat) [(2 : Int)])))).c
   (rgS (vB (65536 : Nat) l) (k - (1 : Nat)) (vB (65536 : Nat) (dg (vB (65536 : Nat) (dg n) / vB (65536 : Nat) [(2 : Int)])))).d))) %
   FP)))
   (vB (65536 : Nat)
   (nB (65536 : Nat) (16 : Nat)
   (vB (65536 : Nat)
   (List.take (16 : Nat)
   (List.drop (16 : Nat)
   (f2L (rgS (vB (65536 : Nat) l) (k - (1 : Nat)) (vB (65536 : Nat) (dg (vB (65536 : Nat) (dg n) / vB (65536 : Nat) [(2 : Int)])))).a
   (rgS (vB (65536 : Nat) l) (k - (1 : Nat)) (vB (65536 : Nat) (dg (vB (65536 : Nat) (dg n) / vB (65536 : Nat) [(2 : Int)])))).b))) *
   vB (65536 : Nat)
   (List.take (16 : Nat)
   (List.drop (0 : Nat)
   (f2L (rgS (vB (65536 : Nat) l) (k - (1 : Nat)) (vB (65536 : Nat) (dg (vB (65536 : Nat) (dg n) / vB (65536 : Nat) [(2 : Int)])))).c
   (rgS (vB (65536 : Nat) l) (k - (1 : Nat)) (vB (65536 : Nat) (dg (vB (65536 : Nat) (dg n) / vB (65536 : Nat) [(2 : Int)])))).d))) %
   FP))))) %
   FP)) %
   FP))),
   D.arr IntKind.i64 (32 : Nat)
   (f2L
   (dX
   (vB (65536 : Nat)
   (List.take (16 : Nat)
   (f2L (rgS (vB (65536 : Nat) l) (k - (1 : Nat)) (vB (65536 : Nat) (dg (vB (65536 : Nat) (dg n) / vB (65536 : Nat) [(2 : Int)])))).c
   (rgS (vB (65536 : Nat) l) (k - (1 : Nat)) (vB (65536 : Nat) (dg (vB (65536 : Nat) (dg n) / vB (65536 : Nat) [(2 : Int)])))).d)))
   (vB (65536 : Nat)
   (List.take (16 : Nat)
   (List.drop (16 : Nat)
   (f2L (rgS (vB (65536 : Nat) l) (k - (1 : Nat)) (vB (65536 : Nat) (dg (vB (65536 : Nat) (dg n) / vB (65536 : Nat) [(2 : Int)])))).c
   (rgS (vB (65536 : Nat) l) (k - (1 : Nat)) (vB (65536 : Nat) (dg (vB (65536 : Nat) (dg n) / vB (65536 : Nat) [(2 : Int)])))).d)))))
   (dZ
   (vB (65536 : Nat)
   (List.take (16 : Nat)
   (f2L (rgS (vB (65536 : Nat) l) (k - (1 : Nat)) (vB (65536 : Nat) (dg (vB (65536 : Nat) (dg n) / vB (65536 : Nat) [(2 : Int)])))).c
   (rgS (vB (65536 : Nat) l) (k - (1 : Nat)) (vB (65536 : Nat) (dg (vB (65536 : Nat) (dg n) / vB (65536 : Nat) [(2 : Int)])))).d)))
   (vB (65536 : Nat)
   (List.take (16 : Nat)
   (List.drop (16 : Nat)
   (f2L (rgS (vB (65536 : Nat) l) (k - (1 : Nat)) (vB (65536 : Nat) (dg (vB (65536 : Nat) (dg n) / vB (65536 : Nat) [(2 : Int)])))).c
   (rgS (vB (65536 : Nat) l) (k - (1 : Nat)) (vB (65536 : Nat) (dg (vB (65536 : Nat) (dg n) / vB (65536 : Nat) [(2 : Int)])))).d))))))] =
   F) := by kernel_rfl
set_option maxRecDepth 100000 in
theorem vc52  (l m : List Int) (F : D)  :
    (owed c52 (fun _ => none) Try.f52 [num4 l, num4 m] F) = (
 (True ∧ false = false) ∧
 (True ∧ false = false) ∧
 (True ∧ (4 : Nat) ≠ (0 : Nat)) ∧
 ((4 : Nat) ≠ (0 : Nat) ∧ (4 : Nat) = (4 : Nat) ∧ true = true) ∧
 (∃ (l : List Int), [D.arr IntKind.u64 (4 : Nat) m] = [D.arr IntKind.u64 (4 : Nat) l] ∧ isN l) ∧
 (True ∧ (16 : Nat) ≠ (0 : Nat)) ∧
 (Sk.arr (16 : Nat) = Sk.arr (16 : Nat) ∧ (16 : Nat) ≠ (0 : Nat) ∧ (16 : Nat) = (16 : Nat) ∧ false = false) ∧
 ((4 : Nat) ≠ (0 : Nat) ∧ (4 : Nat) = (4 : Nat) ∧ true = true) ∧
 (∃ (l_1 : List Int), [D.arr IntKind.u64 (4 : Nat) l] = [D.arr IntKind.u64 (4 : Nat) l_1] ∧ okw l_1 ∧ l_1.length = (4 : Nat)) ∧
 ((16 : Nat) ≠ (0 : Nat) ∧ (16 : Nat) = (16 : Nat) ∧ true = true) ∧
 (∃ (n : Nat),
 ∃ (l_1 : List Int),
 [D.ints IntKind.i64 (dg (vB (18446744073709551616 : Nat) l)), D.arr IntKind.i64 (16 : Nat) (nB (65536 : Nat) (16 : Nat) (vB (18446744073709551616 : Nat) m % FP))] = [D.ints IntKind.i64 (dg n), D.arr IntKind.i64 (16 : Nat) l_1] ∧
 ((1 : Nat) ≤ (257 : Nat) ∧ n < (115792089237316195423570985008687907853269984665640564039457584007913129639936 : Nat)) ∧ (257 : Nat) ≤ (257 : Nat) ∧ isF l_1) ∧
 True ∧
 ((0 : Nat) < (2 : Nat) ∧ false = false) ∧
 ((1 : Nat) < (2 : Nat) ∧ false = false) ∧
 (True ∧ (32 : Nat) ≠ (0 : Nat)) ∧
 (True ∧ (32 : Nat) ≠ (0 : Nat)) ∧
 (Sk.arr (32 : Nat) = Sk.arr (32 : Nat) ∧ (32 : Nat) ≠ (0 : Nat) ∧ (32 : Nat) = (32 : Nat) ∧ false = false) ∧
 (Sk.arr (32 : Nat) = Sk.arr (32 : Nat) ∧ (32 : Nat) ≠ (0 : Nat) ∧ (32 : Nat) = (32 : Nat) ∧ false = false) ∧
 ((0 : Int) ≤ (0 : Int) ∧ (0 : Int) < (↑(2 : Nat) : Int) ∧ (32 : Nat) = (32 : Nat) ∧ (16 : Nat) = (16 : Nat) ∧ (16 : Nat) ≠ (0 : Nat)) ∧
 ((16 : Nat) ≠ (0 : Nat) ∧ (16 : Nat) = (16 : Nat) ∧ true = true) ∧
 ((0 : Int) ≤ (1 : Int) ∧ (1 : Int) < (↑(2 : Nat) : Int) ∧ (32 : Nat) = (32 : Nat) ∧ (16 : Nat) = (16 : Nat) ∧ (16 : Nat) ≠ (0 : Nat)) ∧
 ((16 : Nat) ≠ (0 : Nat) ∧ (16 : Nat) = (16 : Nat) ∧ true = true) ∧
 (∃ (l_1 : List Int),
 [D.arr IntKind.i64 (16 : Nat)
 (List.take (16 : Nat)
 (List.drop (16 : Nat)
 (f2L (rgS (vB (65536 : Nat) (nB (65536 : Nat) (16 : Nat) (vB (18446744073709551616 : Nat) m % FP))) (256 : Nat) (vB (65536 : Nat) (dg (vB (18446744073709551616 : Nat) l)))).a
 (rgS (vB (65536 : Nat) (nB (65536 : Nat) (16 : Nat) (vB (18446744073709551616 : Nat) m % FP))) (256 : Nat) (vB (65536 : Nat) (dg (vB (18446744073709551616 : Nat) l)))).b)))] =
 [D.arr IntKind.i64 (16 : Nat) l_1] ∧
 isF l_1) ∧
 (∃ (l_1 : List Int),
 ∃ (m_1 : List Int),
 [D.arr IntKind.i64 (16 : Nat)
 (List.take (16 : Nat)
 (List.drop (0 : Nat)
 (f2L (rgS (vB (65536 : Nat) (nB (65536 : Nat) (16 : Nat) (vB (18446744073709551616 : Nat) m % FP))) (256 : Nat) (vB (65536 : Nat) (dg (vB (18446744073709551616 : Nat) l)))).a
 (rgS (vB (65536 : Nat) (nB (65536 : Nat) (16 : Nat) (vB (18446744073709551616 : Nat) m % FP))) (256 : Nat) (vB (65536 : Nat) (dg (vB (18446744073709551616 : Nat) l)))).b))),
 D.arr IntKind.i64 (16 : Nat)
 (nB (65536 : Nat) (16 : Nat)
 (fpw
 (vB (65536 : Nat)
 (List.take (16 : Nat)
 (List.drop (16 : Nat)
 (f2L (rgS (vB (65536 : Nat) (nB (65536 : Nat) (16 : Nat) (vB (18446744073709551616 : Nat) m % FP))) (256 : Nat) (vB (65536 : Nat) (dg (vB (18446744073709551616 : Nat) l)))).a
 (rgS (vB (65536 : Nat) (nB (65536 : Nat) (16 : Nat) (vB (18446744073709551616 : Nat) m % FP))) (256 : Nat) (vB (65536 : Nat) (dg (vB (18446744073709551616 : Nat) l)))).b))))
 (FP - (2 : Nat))))] =
 [D.arr IntKind.i64 (16 : Nat) l_1, D.arr IntKind.i64 (16 : Nat) m_1] ∧
 isF l_1 ∧ isF m_1) ∧
 (∃ (l_1 : List Int),
 [D.arr IntKind.i64 (16 : Nat)
 (nB (65536 : Nat) (16 : Nat)
 (vB (65536 : Nat)
 (List.take (16 : Nat)
 (List.drop (0 : Nat)
 (f2L (rgS (vB (65536 : Nat) (nB (65536 : Nat) (16 : Nat) (vB (18446744073709551616 : Nat) m % FP))) (256 : Nat) (vB (65536 : Nat) (dg (vB (18446744073709551616 : Nat) l)))).a
 (rgS (vB (65536 : Nat) (nB (65536 : Nat) (16 : Nat) (vB (18446744073709551616 : Nat) m % FP))) (256 : Nat) (vB (65536 : Nat) (dg (vB (18446744073709551616 : Nat) l)))).b))) *
 vB (65536 : Nat)
 (nB (65536 : Nat) (16 : Nat)
 (fpw
 (vB (65536 : Nat)
 (List.take (16 : Nat)
 (List.drop (16 : Nat)
 (f2L (rgS (vB (65536 : Nat) (nB (65536 : Nat) (16 : Nat) (vB (18446744073709551616 : Nat) m % FP))) (256 : Nat) (vB (65536 : Nat) (dg (vB (18446744073709551616 : Nat) l)))).a
 (rgS (vB (65536 : Nat) (nB (65536 : Nat) (16 : Nat) (vB (18446744073709551616 : Nat) m % FP))) (256 : Nat) (vB (65536 : Nat) (dg (vB (18446744073709551616 : Nat) l)))).b))))
 (FP - (2 : Nat)))) %
 FP))] =
 [D.arr IntKind.i64 (16 : Nat) l_1] ∧
 isF l_1) ∧
 (Sk.arr (4 : Nat) = Sk.arr (4 : Nat) ∧ (4 : Nat) ≠ (0 : Nat) ∧ (4 : Nat) = (4 : Nat) ∧ false = false) ∧
 (((4 : Nat) ≠ (0 : Nat) ∧ (4 : Nat) = (4 : Nat) ∧ true = true) ∧ True) ∧
 D.arr IntKind.u64 (4 : Nat)
 (nB (18446744073709551616 : Nat) (4 : Nat)
 (vB (65536 : Nat)
 (nB (65536 : Nat) (16 : Nat)
 (vB (65536 : Nat)
 (List.take (16 : Nat)
 (List.drop (0 : Nat)
 (f2L (rgS (vB (65536 : Nat) (nB (65536 : Nat) (16 : Nat) (vB (18446744073709551616 : Nat) m % FP))) (256 : Nat) (vB (65536 : Nat) (dg (vB (18446744073709551616 : Nat) l)))).a
 (rgS (vB (65536 : Nat) (nB (65536 : Nat) (16 : Nat) (vB (18446744073709551616 : Nat) m % FP))) (256 : Nat) (vB (65536 : Nat) (dg (vB (18446744073709551616 : Nat) l)))).b))) *
 vB (65536 : Nat)
 (nB (65536 : Nat) (16 : Nat)
 (fpw
 (vB (65536 : Nat)
 (List.take (16 : Nat)
 (List.drop (16 : Nat)
 (f2L (rgS (vB (65536 : Nat) (nB (65536 : Nat) (16 : Nat) (vB (18446744073709551616 : Nat) m % FP))) (256 : Nat) (vB (65536 : Nat) (dg (vB (18446744073709551616 : Nat) l)))).a
 (rgS (vB (65536 : Nat) (nB (65536 : Nat) (16 : Nat) (vB (18446744073709551616 : Nat) m % FP))) (256 : Nat) (vB (65536 : Nat) (dg (vB (18446744073709551616 : Nat) l)))).b))))
 (FP - (2 : Nat)))) %
 FP)))) =
 F) := by kernel_rfl
end Go.Proofs.Ytnadggcfdakpoaa
namespace Go.Proofs.Ytnadggcfdakpoaa
open Go Go.Vg
theorem pk0 (l m : List Int) : pkL 0 l m = l := if_neg (by decide)
theorem pk1 (l m : List Int) : pkL 1 l m = m := if_pos rfl
theorem pk_ok {l m : List Int} (c : Nat) (hl : isN l) (hm : isN m) : isN (pkL c l m) := by
  unfold pkL
  split <;> assumption
theorem N_121665 : isN [121665, 0, 0, 0] := ⟨okw_dec (by decide), rfl⟩
theorem w121665 : vB 18446744073709551616 [121665, 0, 0, 0] = 121665 := rfl
theorem ldN_lt {u b : Nat} {q : Q4} : (ldN u b q).a < 115792089237316195423570985008687907853269984665640564039457584007913129639936 ∧ (ldN u b q).b < 115792089237316195423570985008687907853269984665640564039457584007913129639936 ∧ (ldN u b q).c < 115792089237316195423570985008687907853269984665640564039457584007913129639936 ∧ (ldN u b q).d < 115792089237316195423570985008687907853269984665640564039457584007913129639936 := by
  unfold ldN
  split <;> exact ⟨flt _, flt _, flt _, flt _⟩
theorem ldS_lt {k u : Nat} (hu : u < 115792089237316195423570985008687907853269984665640564039457584007913129639936) : ∀ i, (ldS k u i).a < 115792089237316195423570985008687907853269984665640564039457584007913129639936 ∧ (ldS k u i).b < 115792089237316195423570985008687907853269984665640564039457584007913129639936 ∧ (ldS k u i).c < 115792089237316195423570985008687907853269984665640564039457584007913129639936 ∧ (ldS k u i).d < 115792089237316195423570985008687907853269984665640564039457584007913129639936
  | 0 => ⟨by show 1 < _; decide, by show 0 < _; decide, hu, by show 1 < _; decide⟩
  | _ + 1 => ldN_lt
theorem rgN_lt {u b : Nat} {q : Q4} : (rgN u b q).a < 115792089237316195423570985008687907853269984665640564039457584007913129639936 ∧ (rgN u b q).b < 115792089237316195423570985008687907853269984665640564039457584007913129639936 ∧ (rgN u b q).c < 115792089237316195423570985008687907853269984665640564039457584007913129639936 ∧ (rgN u b q).d < 115792089237316195423570985008687907853269984665640564039457584007913129639936 := by
  unfold rgN
  split <;> exact ⟨flt _, flt _, flt _, flt _⟩
theorem rgS_lt {u : Nat} (hu : u < 115792089237316195423570985008687907853269984665640564039457584007913129639936) : ∀ k n, (rgS u k n).a < 115792089237316195423570985008687907853269984665640564039457584007913129639936 ∧ (rgS u k n).b < 115792089237316195423570985008687907853269984665640564039457584007913129639936 ∧ (rgS u k n).c < 115792089237316195423570985008687907853269984665640564039457584007913129639936 ∧ (rgS u k n).d < 115792089237316195423570985008687907853269984665640564039457584007913129639936
  | 0, _ => ⟨by show 1 < _; decide, by show 0 < _; decide, hu, by show 1 < _; decide⟩
  | k + 1, n => by
    by_cases h : n = 0
    · have e : rgS u (k + 1) n = ⟨1, 0, u, 1⟩ := if_pos h
      rw [e]
      exact ⟨by show 1 < _; decide, by show 0 < _; decide, hu, by show 1 < _; decide⟩
    · have e : rgS u (k + 1) n = rgN u (n % 2) (rgS u k (n / 2)) := if_neg h
      rw [e]
      exact rgN_lt
theorem f2_t0 (a b : Nat) : List.take 16 (f2L a b) = nB 65536 16 a := by
  unfold f2L
  rw [List.take_append_of_le_length (by rw [nB_length]; exact Nat.le_refl _), List.take_of_length_le (by rw [nB_length]; exact Nat.le_refl _)]
theorem f2_d (a b : Nat) : List.drop 16 (f2L a b) = nB 65536 16 b := by
  unfold f2L
  rw [List.drop_append_of_le_length (by rw [nB_length]; exact Nat.le_refl _), List.drop_of_length_le (by rw [nB_length]; exact Nat.le_refl _), List.nil_append]
theorem f2_t1 (a b : Nat) : List.take 16 (List.drop 16 (f2L a b)) = nB 65536 16 b := by
  rw [f2_d, List.take_of_length_le (by rw [nB_length]; exact Nat.le_refl _)]
theorem spl_two {a b z : List Int} (ha : a.length = 16) (hb : b.length = 16) (hz : z.length = 32) : spl (spl z 0 16 a) 16 16 b = a ++ b := by
  unfold spl
  rw [List.take_zero, List.nil_append, List.take_append_of_le_length (by omega), List.take_of_length_le (by omega), List.drop_of_length_le (by rw [List.length_append, List.length_drop]; omega), List.append_nil]
theorem f2_ok (a b : Nat) : isF2 (f2L a b) := by
  refine ⟨?_, by unfold f2L; rw [List.length_append, nB_length, nB_length]⟩
  intro x hx
  rcases List.mem_append.1 hx with hx | hx
  · exact nB_ok (by decide) _ _ x hx
  · exact nB_ok (by decide) _ _ x hx
theorem half_F {l : List Int} (h : isF2 l) : isF (List.take 16 l) ∧ isF (List.take 16 (List.drop 16 l)) :=
  ⟨⟨fun x hx => h.1 x (List.mem_of_mem_take hx), by rw [List.length_take, h.2]; decide⟩, ⟨fun x hx => h.1 x (List.mem_of_mem_drop (List.mem_of_mem_take hx)), by rw [List.length_take, List.length_drop, h.2]; decide⟩⟩
theorem dg_null (n : Nat) : ((dg n).length : Int) == 0 ↔ n = 0 := by
  constructor
  · intro h
    have h0 : (dg n).length = 0 := by have := eq_of_beq h; omega
    have e : vB 65536 (dg n) = n := vl_dg n
    rw [List.eq_nil_of_length_eq_zero h0] at e
    exact e.symm
  · intro h
    subst h
    rfl
theorem meets_same {P : Program} {f : FuncId} {s s' : Go.Vg.Spec} (h : Meets P f s) (hp : ∀ ds, s'.pre ds → s.pre ds ∧ s'.f ds = s.f ds) (hf : s'.flat = true → s.flat = true) : Meets P f s' := by
  intro ds hds
  obtain ⟨h1, h2⟩ := hp ds hds
  have := h ds h1
  rw [h2]
  exact ⟨fun h => this.1 (hf h), this.2⟩
theorem smF_eq (n : Nat) : smF n = nB 65536 16 n := opq_eq _
theorem sm_list {n : Nat} (h : n < 65536) : nB 65536 16 n = [(n : Int), 0, 0, 0, 0, 0, 0, 0, 0, 0, 0, 0, 0, 0, 0, 0] := by
  have e : vB 65536 [(n : Int), 0, 0, 0, 0, 0, 0, 0, 0, 0, 0, 0, 0, 0, 0, 0] = n := by
    show ((n : Int)).toNat + 65536 * vB 65536 [0, 0, 0, 0, 0, 0, 0, 0, 0, 0, 0, 0, 0, 0, 0] = n
    have : vB 65536 [0, 0, 0, 0, 0, 0, 0, 0, 0, 0, 0, 0, 0, 0, 0] = 0 := rfl
    rw [this]
    omega
  have e2 := nB_vB (b := 65536) (l := [(n : Int), 0, 0, 0, 0, 0, 0, 0, 0, 0, 0, 0, 0, 0, 0, 0]) (by
    intro x hx
    rcases List.mem_cons.1 hx with rfl | hx
    · omega
    · have : x = 0 := by
        have h0 : ∀ y ∈ [(0 : Int), 0, 0, 0, 0, 0, 0, 0, 0, 0, 0, 0, 0, 0, 0], y = 0 := by decide
        exact h0 x hx
      omega)
  rw [e] at e2
  exact e2
theorem m83o : Meets Try.prog 83 sp83o := meets_same m83 (fun ds h => ⟨h, congrArg dgs (opq_eq _)⟩) (by intro h; cases h)
theorem m100o : Meets Try.prog 100 sp100o := meets_same m100 (by
  rintro _ ⟨n, rfl, hn⟩
  refine ⟨⟨n, rfl, hn⟩, ?_⟩
  show fel (smF ((n : Int)).toNat) = fel [(n : Int), 0, 0, 0, 0, 0, 0, 0, 0, 0, 0, 0, 0, 0, 0, 0]
  rw [Int.toNat_natCast, smF_eq, sm_list hn]) (fun h => h)
set_option maxRecDepth 100000 in
theorem m143 : Meets Try.prog 143 sp143 := by
  refine meets_of_owed (C := c143) ⟨tab_ok, lkS_ok ⟨m107, trivial⟩⟩ (by kernel_rfl) (by kernel_rfl : Try.prog.funcs[143]? = some Try.f143) (by kernel_rfl) (by kernel_rfl) (by kernel_rfl) _ ?_
  rintro _ ⟨l, rfl, hl⟩
  refine ⟨fun _ => rfl, fun _ => none, ?_⟩
  show owed c143 (fun _ => none) Try.f143 [num4 l] (n4 (wv l * wv l % FP))
  rw [vc143]
  and_intros <;> first | exact True.intro | exact ⟨_, _, rfl, hl, hl⟩ | rfl | decide
set_option maxRecDepth 100000 in
theorem m115 : Meets Try.prog 115 sp115 := by
  refine meets_of_owed (C := c115) ⟨tab_ok, lkS_ok ⟨m142, trivial⟩⟩ (by kernel_rfl) (by kernel_rfl : Try.prog.funcs[115]? = some Try.f115) (by kernel_rfl) (by kernel_rfl) (by kernel_rfl) _ ?_
  rintro _ ⟨c, a, b, a', b', rfl, hc, ⟨ha, hb⟩, ha', hb'⟩
  refine ⟨fun _ => rfl, fun _ => none, ?_⟩
  show owed c115 (fun _ => none) Try.f115 [u64n c, prD a b, prD a' b'] (.tup [prD (pkL ((c : Int)).toNat a a') (pkL ((c : Int)).toNat b b'), prD (pkL ((c : Int)).toNat a' a) (pkL ((c : Int)).toNat b' b)])
  rw [vc115]
  simp (decide := true) only [eq_self, true_and, and_true, ne_eq, not_false_eq_true]
  exact ⟨⟨_, _, _, rfl, hc, ha, ha'⟩, ⟨_, _, _, rfl, hc, hb, hb'⟩, ⟨_, _, _, rfl, hc, ha', ha⟩, ⟨_, _, _, rfl, hc, hb', hb⟩⟩
set_option maxRecDepth 100000 in
theorem m116 : Meets Try.prog 116 sp116 := by
  refine meets_of_owed (C := c116) ⟨tab_ok, lkS_ok ⟨m108, m105, m107, m143, trivial⟩⟩ (by kernel_rfl) (by kernel_rfl : Try.prog.funcs[116]? = some Try.f116) (by kernel_rfl) (by kernel_rfl) (by kernel_rfl) _ ?_
  rintro _ ⟨a, b, rfl, ha, hb⟩
  refine ⟨fun _ => rfl, fun _ => none, ?_⟩
  show owed c116 (fun _ => none) Try.f116 [prD a b] (.st [n4 (tX (wv a) (wv b)), n4 (tZ (wv a) (wv b))])
  rw [vc116]
  have hc := N_121665
  unfold tX tZ lE lS lT
  simp (decide := true) only [eq_self, true_and, and_true, ne_eq, not_false_eq_true, wnm, wns, w121665]
  and_intros <;> first | exact True.intro | exact ⟨_, rfl, nN _⟩ | (refine ⟨_, _, rfl, ?_, ?_⟩ <;> first | exact nN _ | assumption) | rfl
set_option maxRecDepth 100000 in
theorem m117 : Meets Try.prog 117 sp117 := by
  refine meets_of_owed (C := c116) ⟨tab_ok, lkS_ok ⟨m108, m105, m107, m143, trivial⟩⟩ (by kernel_rfl) (by kernel_rfl : Try.prog.funcs[117]? = some Try.f117) (by kernel_rfl) (by kernel_rfl) (by kernel_rfl) _ ?_
  rintro _ ⟨a, b, a', b', u, rfl, ⟨ha, hb⟩, ⟨ha', hb'⟩, hu⟩
  refine ⟨fun _ => rfl, fun _ => none, ?_⟩
  show owed c116 (fun _ => none) Try.f117 [prD a b, prD a' b', num4 u] (.st [n4 (jX (wv a) (wv b) (wv a') (wv b')), n4 (jZ (wv a) (wv b) (wv a') (wv b') (wv u))])
  rw [vc117]
  unfold jX jZ jA jB
  simp (decide := true) only [eq_self, true_and, and_true, ne_eq, not_false_eq_true, wnm, wns]
  and_intros <;> first | exact True.intro | exact ⟨_, rfl, nN _⟩ | (refine ⟨_, _, rfl, ?_, ?_⟩ <;> first | exact nN _ | assumption) | rfl
set_option maxRecDepth 100000 in
theorem m50 : Meets Try.prog 50 sp50 := by
  refine meets_of_owed (C := c50) ⟨tab_ok, lkS_ok ⟨m40, m108, m105, m113, m107, trivial⟩⟩ (by kernel_rfl) (by kernel_rfl : Try.prog.funcs[50]? = some Try.f50) (by kernel_rfl) (by kernel_rfl) (by kernel_rfl) _ ?_
  rintro _ ⟨l, m, rfl, hl, hm⟩
  refine ⟨fun _ => rfl, fun _ => none, ?_⟩
  show owed c50 (fun _ => none) Try.f50 [ptD l m] (.tup [n4 (ofN (wv l) (wv m)), i64 (ngO (wv l) (wv m))])
  rw [vc50]
  have h1 := N_1
  simp (decide := true) only [eq_self, true_and, and_true, ne_eq, not_false_eq_true, w1, wnm, wns, wnp]
  refine ⟨⟨_, _, rfl, hl, hm⟩, ?_⟩
  cases h : onB (vB 18446744073709551616 l) (vB 18446744073709551616 m) with
  | true =>
    have e1 : ofN (wv l) (wv m) = aff ((1 + wv m) % FP) (fsb 1 (wv m)) := by unfold ofN; rw [h]; exact if_pos rfl
    have e2 : ngO (wv l) (wv m) = 0 := by unfold ngO; rw [h]; exact if_pos rfl
    rw [e1, e2]
    exact ⟨⟨_, _, rfl, h1, hm⟩, ⟨_, _, rfl, h1, hm⟩, ⟨_, rfl, nN _⟩, ⟨_, _, rfl, nN _, nN _⟩, rfl⟩
  | false =>
    have e1 : ofN (wv l) (wv m) = 0 := by unfold ofN; rw [h]; exact if_neg (by decide)
    have e2 : ngO (wv l) (wv m) = 1 := by unfold ngO; rw [h]; exact if_neg (by decide)
    rw [e1, e2]
    exact (Eq.refl _ : D.tup [num4 [0, 0, 0, 0], i64 1] = D.tup [num4 [0, 0, 0, 0], i64 1])
set_option maxRecDepth 100000 in
theorem m144 : Meets Try.prog 144 sp144 := by
  refine meets_of_owed (C := c144) ⟨tab_ok, lkS_ok ⟨m54, m45, m53, m83o, m111, m100o, trivial⟩⟩ (by kernel_rfl) (by kernel_rfl : Try.prog.funcs[144]? = some Try.f144) (by kernel_rfl) (by kernel_rfl) (by kernel_rfl) _ ?_
  rintro _ ⟨l, rfl, hl⟩
  refine ⟨fun _ => rfl, fun _ => none, ?_⟩
  show owed c144 (fun _ => none) Try.f144 [f2 l] (f2 (f2L (dX (vB 65536 (List.take 16 l)) (vB 65536 (List.take 16 (List.drop 16 l)))) (dZ (vB 65536 (List.take 16 l)) (vB 65536 (List.take 16 (List.drop 16 l))))))
  rw [vc144]
  obtain ⟨h1, h2⟩ := half_F hl
  have e1 : List.drop 0 l = l := List.drop_zero
  have e2 : vB 65536 (dgW [486662]) = 486662 := by
    have : dgW [486662] = dg 486662 := opq_eq _
    rw [this]
    exact vl_dg _
  have e3 : vB 65536 (nB 65536 16 486662) = 486662 := fn (by decide)
  have e4 : vB 65536 (smF 4) = 4 := by rw [smF_eq]; exact fn (by decide)
  have k1 : okw [486662] := okw_dec (by decide)
  have k2 := okLn (n := 486662) (by decide)
  have k3 : dgW [486662] = dg 486662 := opq_eq _
  have k4 : okd (dgW [486662]) ∧ lenOk (dgW [486662]) := by rw [k3]; exact ⟨k2.1, k2.2.2.2⟩
  have k5 : isF (smF 4) := by rw [smF_eq]; exact nF _
  unfold dX dZ dD dSm f2L
  simp (decide := true) only [eq_self, true_and, and_true, ne_eq, not_false_eq_true, fnm, fns, e1, e2, e3, show (Int.toNat 4) = 4 from rfl, e4]
  generalize List.take 16 l = a at *
  generalize List.take 16 (List.drop 16 l) = b at *
  have sp := fun (x y : List Int) (hx : x.length = 16) (hy : y.length = 16) => spl_two (z := List.replicate 32 0) hx hy rfl
  have hz : [0, 0, 0, 0, 0, 0, 0, 0, 0, 0, 0, 0, 0, 0, 0, 0, 0, 0, 0, 0, 0, 0, 0, 0, 0, 0, 0, 0, 0, 0, 0, 0] = List.replicate 32 (0 : Int) := rfl
  rw [hz, sp _ _ (nB_length _ _ _) (nB_length _ _ _)]
  and_intros <;> first | exact True.intro | exact ⟨_, rfl, k1, by rw [List.length_singleton]; decide⟩ | exact ⟨_, rfl, k4.1, k4.2⟩ | exact ⟨4, rfl, by decide⟩ | (refine ⟨_, _, rfl, ?_, ?_⟩ <;> first | exact nF _ | assumption) | rfl
theorem rgS_0 (u : Nat) : ∀ k, rgS u k 0 = ⟨1, 0, u, 1⟩
  | 0 => rfl
  | _ + 1 => if_pos rfl
theorem F_0' : isF [0, 0, 0, 0, 0, 0, 0, 0, 0, 0, 0, 0, 0, 0, 0, 0] := ⟨okd_dec (by decide), rfl⟩
set_option maxRecDepth 100000 in
theorem m118 : ∀ k, Meets Try.prog 118 (sp118 k)
  | 0 => by
    rintro _ ⟨n, l, rfl, ⟨h, _⟩, _⟩
    omega
  | k + 1 => by
    have ih := m118 k
    refine meets_of_owed (C := c118 k) ⟨tab_ok, lkS_ok ⟨m100, m73, ih, m54, m45, m144, trivial⟩⟩ (by kernel_rfl) (by kernel_rfl : Try.prog.funcs[118]? = some Try.f118) (by kernel_rfl) (by kernel_rfl) (by kernel_rfl) _ ?_
    rintro _ ⟨n, l, rfl, ⟨_, hn⟩, hk, hl⟩
    have hn : n < 2 ^ k := hn
    refine ⟨fun _ => rfl, fun _ => none, ?_⟩
    have hnv : vB 65536 (dg n) = n := vl_dg n
    show owed (c118 k) (fun _ => none) Try.f118 [dgs (dg n), fel l] (.tup [f2 (f2L (rgS (vB 65536 l) k (vB 65536 (dg n))).a (rgS (vB 65536 l) k (vB 65536 (dg n))).b), f2 (f2L (rgS (vB 65536 l) k (vB 65536 (dg n))).c (rgS (vB 65536 l) k (vB 65536 (dg n))).d)])
    rw [hnv, vc118]
    have hl256 : vB 65536 l < 115792089237316195423570985008687907853269984665640564039457584007913129639936 := isF_lt hl
    have e2 : vB 65536 [2] = 2 := vD_one 2
    have e3 : vB 65536 (dg (n / 2)) = n / 2 := vl_dg _
    have hn256 : n < 65536 ^ 20 := Nat.lt_of_lt_of_le hn (Nat.le_trans (Nat.pow_le_pow_right (by decide) (show k ≤ 256 by omega)) (by decide))
    have k1 := okLn hn256
    have k2 := one_ok (x := 2) (by decide)
    have k22 : okd [2] ∧ len1 [2] := ⟨k2.1, by unfold len1; rw [List.length_singleton]; decide⟩
    have k3 : ¬ vB 65536 [2] = 0 := by rw [e2]; decide
    have hz : [0, 0, 0, 0, 0, 0, 0, 0, 0, 0, 0, 0, 0, 0, 0, 0, 0, 0, 0, 0, 0, 0, 0, 0, 0, 0, 0, 0, 0, 0, 0, 0] = List.replicate 32 (0 : Int) := rfl
    have sp := fun (x y : List Int) (hx : x.length = 16) (hy : y.length = 16) => spl_two (z := List.replicate 32 0) hx hy rfl
    simp (decide := true) only [eq_self, true_and, and_true, ne_eq, not_false_eq_true, hnv, e2, e3]
    have hF0 := F_0'
    have hF1 := F_1'
    split
    · rename_i h
      obtain rfl := (dg_null n).1 h
      rw [rgS_0]
      show _ ∧ _ ∧ _ ∧ _ = D.tup [f2 (f2L 1 0), f2 (f2L (vB 65536 l) 1)]
      have hln : nB 65536 16 (vB 65536 l) = l := by
        have := nB_vB (b := 65536) hl.1
        rwa [hl.2] at this
      rw [hz, sp _ _ rfl rfl, sp _ _ hl.2 rfl]
      unfold f2L
      rw [sm_list (n := 1) (by decide), sm_list (n := 0) (by decide), hln]
      exact ⟨⟨1, rfl, by decide⟩, ⟨0, rfl, by decide⟩, ⟨1, rfl, by decide⟩, rfl⟩
    · rename_i h
      have hn0 : n ≠ 0 := fun h0 => by
        have h2 := (dg_null n).2 h0
        rw [h2] at h
        cases h
      obtain ⟨k', rfl⟩ : ∃ k', k = k' + 1 := by
        match k, hn with
        | 0, hn => rw [Nat.pow_zero] at hn; omega
        | k' + 1, _ => exact ⟨k', rfl⟩
      have hh : n / 2 < 2 ^ (k' + 1 - 1) := by
        rw [Nat.add_sub_cancel]
        rw [Nat.pow_succ] at hn
        omega
      have er : rgS (vB 65536 l) (k' + 1) n = rgN (vB 65536 l) (n % 2) (rgS (vB 65536 l) k' (n / 2)) := if_neg hn0
      rw [er]
      simp only [Nat.add_sub_cancel] at hh ⊢
      obtain ⟨ra, rb, rc, rd⟩ := rgS_lt hl256 k' (n / 2)
      generalize rgS (vB 65536 l) k' (n / 2) = R at *
      have fa := fn ra
      have fb := fn rb
      have fc := fn rc
      have fd := fn rd
      have z1 := f2_ok R.a R.b
      have z2 := f2_ok R.c R.d
      simp only [List.drop_zero, f2_t0, f2_t1, fa, fb, fc, fd, fnm, fns]
      rw [hz, sp _ _ (nB_length _ _ _) (nB_length _ _ _)]
      have hbit : n % 2 = 0 ∨ n % 2 = 1 := by omega
      have main : ∀ b : Nat, b < 2 → True := fun _ _ => trivial
      rcases hbit with hb | hb
      · rw [hb]
        have hm : ((dg 0).length : Int) == 0 := (dg_null 0).2 rfl
        have e0 : rgN (vB 65536 l) 0 R = ⟨dX R.a R.b, dZ R.a R.b, bX R.a R.b R.c R.d, bZ R.a R.b R.c R.d (vB 65536 l)⟩ := rfl
        rw [e0, hm]
        unfold bX bZ bS bT
        and_intros <;> first | exact True.intro | exact ⟨_, _, rfl, ⟨k1.1, k1.2.2.1⟩, ⟨k22.1, k22.2⟩, k3⟩ | exact ⟨_, _, rfl, ⟨by omega, hh⟩, by omega, hl⟩ | exact ⟨_, rfl, z1⟩ | (refine ⟨_, _, rfl, ?_, ?_⟩ <;> first | exact nF _ | assumption) | rfl
      · rw [hb]
        have hm : (((dg 1).length : Int) == 0) = false := by
          cases h : (((dg 1).length : Int) == 0) with
          | false => rfl
          | true => have := (dg_null 1).1 h; omega
        have e0 : rgN (vB 65536 l) 1 R = ⟨bX R.a R.b R.c R.d, bZ R.a R.b R.c R.d (vB 65536 l), dX R.c R.d, dZ R.c R.d⟩ := rfl
        rw [e0, hm]
        unfold bX bZ bS bT
        and_intros <;> first | exact True.intro | exact ⟨_, _, rfl, ⟨k1.1, k1.2.2.1⟩, ⟨k22.1, k22.2⟩, k3⟩ | exact ⟨_, _, rfl, ⟨by omega, hh⟩, by omega, hl⟩ | exact ⟨_, rfl, z2⟩ | (refine ⟨_, _, rfl, ?_, ?_⟩ <;> first | exact nF _ | assumption) | rfl
end Go.Proofs.Ytnadggcfdakpoaa
namespace Go.Vg
def Prm (p : Nat) : Prop := 2 ≤ p ∧ ∀ d, d ∣ p → d = 1 ∨ d = p
def AllP : List Nat → Prop
  | [] => True
  | q :: qs => Prm q ∧ AllP qs
def lprod : List Nat → Nat
  | [] => 1
  | q :: qs => q * lprod qs
theorem allP_mem : ∀ {fs : List Nat}, AllP fs → ∀ q ∈ fs, Prm q
  | [], _, _, h => by cases h
  | q :: qs, h, r, hr => by
    rcases List.mem_cons.1 hr with rfl | hr
    · exact h.1
    · exact allP_mem h.2 r hr
theorem lprod_dvd : ∀ {fs : List Nat} {q : Nat}, q ∈ fs → q ∣ lprod fs
  | [], _, h => by cases h
  | q :: qs, r, h => by
    rcases List.mem_cons.1 h with rfl | h
    · exact ⟨_, rfl⟩
    · exact Nat.dvd_trans (lprod_dvd h) ⟨q, Nat.mul_comm _ _⟩
theorem part_of : ∀ {fs : List Nat}, AllP fs → ∀ {e : Nat}, e ∣ lprod fs → e ≠ lprod fs → ∃ q ∈ fs, e ∣ lprod fs / q
  | [], _, e, h, hne => absurd (Nat.dvd_one.1 h) hne
  | q :: qs, hp, e, h, hne => by
    have hq0 : 0 < q := by have := hp.1.1; omega
    by_cases hqe : q ∣ e
    · obtain ⟨e', rfl⟩ := hqe
      have h1 : e' ∣ lprod qs := Nat.dvd_of_mul_dvd_mul_left hq0 h
      have h2 : e' ≠ lprod qs := fun h => hne (by rw [h]; rfl)
      obtain ⟨r, hr, hd⟩ := part_of hp.2 h1 h2
      refine ⟨r, List.mem_cons_of_mem _ hr, ?_⟩
      show q * e' ∣ q * lprod qs / r
      rw [Nat.mul_div_assoc _ (lprod_dvd hr)]
      exact Nat.mul_dvd_mul_left q hd
    · refine ⟨q, List.mem_cons_self .., ?_⟩
      show e ∣ q * lprod qs / q
      rw [Nat.mul_div_cancel_left _ hq0]
      have hc : Nat.Coprime e q := by
        rcases hp.1.2 (Nat.gcd e q) (Nat.gcd_dvd_right e q) with h1 | h1
        · exact h1
        · exact absurd (h1 ▸ Nat.gcd_dvd_left e q) hqe
      exact hc.dvd_of_dvd_mul_left h
theorem no_inj : ∀ (n : Nat) (f : Nat → Nat), (∀ i, i < n + 1 → f i < n) → (∀ i j, i < n + 1 → j < n + 1 → f i = f j → i = j) → False
  | 0, f, h, _ => by have := h 0 (by omega); omega
  | n + 1, f, h, hi => by
    refine no_inj n (fun i => if f i = n then f (n + 1) else f i) ?_ ?_
    · intro i hlt
      have h1 := h i (by omega)
      have h2 := h (n + 1) (by omega)
      show (if f i = n then f (n + 1) else f i) < n
      split
      · rename_i he
        have : f (n + 1) ≠ n := fun h3 => by
          have := hi i (n + 1) (by omega) (by omega) (by rw [he, h3])
          omega
        omega
      · omega
    · intro i j hlt hlt' he
      have he : (if f i = n then f (n + 1) else f i) = (if f j = n then f (n + 1) else f j) := he
      split at he
      · rename_i h1
        split at he
        · rename_i h2
          exact hi i j (by omega) (by omega) (by rw [h1, h2])
        · have := hi (n + 1) j (by omega) (by omega) he
          omega
      · split at he
        · have := hi i (n + 1) (by omega) (by omega) he
          omega
        · exact hi i j (by omega) (by omega) he
theorem surj {n : Nat} {f : Nat → Nat} (h : ∀ i, i < n → f i < n) (hi : ∀ i j, i < n → j < n → f i = f j → i = j) {y : Nat} (hy : y < n) : ∃ i, i < n ∧ f i = y := by
  apply Classical.byContradiction
  intro hno
  have hno : ∀ i, i < n → f i ≠ y := fun i h1 h2 => hno ⟨i, h1, h2⟩
  obtain ⟨m, rfl⟩ : ∃ m, n = m + 1 := ⟨n - 1, by omega⟩
  refine no_inj m (fun i => if f i = m then y else f i) ?_ ?_
  · intro i hlt
    have h1 := h i hlt
    have h2 := hno i hlt
    show (if f i = m then y else f i) < m
    split <;> omega
  · intro i j hlt hlt' he
    have he : (if f i = m then y else f i) = (if f j = m then y else f j) := he
    split at he
    · rename_i h1
      split at he
      · rename_i h2
        exact hi i j hlt hlt' (by rw [h1, h2])
      · exact absurd he.symm (hno j hlt')
    · split at he
      · exact absurd he (hno i hlt)
      · exact hi i j hlt hlt' he
theorem pow_gcd {p g : Nat} (hp : 1 < p) : ∀ (a b : Nat), g ^ a % p = 1 → g ^ b % p = 1 → g ^ Nat.gcd a b % p = 1 := by
  intro a b
  refine Nat.gcd.induction (P := fun a b => g ^ a % p = 1 → g ^ b % p = 1 → g ^ Nat.gcd a b % p = 1) a b ?_ ?_
  · intro b _ hb
    rw [Nat.gcd_zero_left]
    exact hb
  · intro a b _ ih ha hb
    rw [Nat.gcd_rec]
    refine ih ?_ ha
    have e : g ^ b = (g ^ a) ^ (b / a) * g ^ (b % a) := by rw [← Nat.pow_mul, ← Nat.pow_add, Nat.div_add_mod]
    rw [e, Nat.mul_mod, Nat.pow_mod, ha, Nat.one_pow, Nat.mod_eq_of_lt hp, Nat.one_mul, Nat.mod_mod] at hb
    exact hb
theorem lucas {p g : Nat} {fs : List Nat} (hp : 2 ≤ p) (hprod : lprod fs = p - 1) (hfs : AllP fs) (h1 : g ^ (p - 1) % p = 1) (hq : ∀ q ∈ fs, g ^ ((p - 1) / q) % p ≠ 1) :
    Prm p ∧ ∀ a, a % p ≠ 0 → a ^ (p - 1) % p = 1 := by
  have hone : 1 % p = 1 := Nat.mod_eq_of_lt hp
  have ord : ∀ i, 0 < i → i < p - 1 → g ^ i % p ≠ 1 := by
    intro i hi0 hi h
    have he := pow_gcd hp i (p - 1) h h1
    have hd : Nat.gcd i (p - 1) ∣ lprod fs := by rw [hprod]; exact Nat.gcd_dvd_right _ _
    have hle : Nat.gcd i (p - 1) ≤ i := Nat.gcd_le_left _ hi0
    have hne : Nat.gcd i (p - 1) ≠ lprod fs := by rw [hprod]; omega
    obtain ⟨q, hqm, k, hk⟩ := part_of hfs hd hne
    rw [hprod] at hk
    refine hq q hqm ?_
    rw [hk, Nat.pow_mul, Nat.pow_mod, he, Nat.one_pow, hone]
  have inv : ∀ i, i < p - 1 → g ^ (p - 1 - i) * g ^ i % p = 1 := by
    intro i hi
    rw [← Nat.pow_add, Nat.sub_add_cancel (by omega), h1]
  have inj : ∀ i j, i < p - 1 → j < p - 1 → i < j → g ^ i % p = g ^ j % p → False := by
    intro i j hi hj hij he
    have e1 : g ^ (p - 1 - i) * g ^ j % p = g ^ (j - i) % p := by
      have : g ^ j = g ^ i * g ^ (j - i) := by rw [← Nat.pow_add]; congr 1; omega
      rw [this, ← Nat.mul_assoc, Nat.mul_mod, inv i hi, Nat.one_mul, Nat.mod_mod]
    have e2 : g ^ (p - 1 - i) * g ^ j % p = 1 := by
      rw [Nat.mul_mod, ← he, ← Nat.mul_mod, inv i hi]
    exact ord (j - i) (by omega) (by omega) (by rw [← e1, e2])
  have nz : ∀ i, i < p - 1 → g ^ i % p ≠ 0 := by
    intro i hi h0
    have := inv i hi
    rw [Nat.mul_mod, h0, Nat.mul_zero, Nat.zero_mod] at this
    omega
  have fermat : ∀ a, a % p ≠ 0 → a ^ (p - 1) % p = 1 := by
    intro a ha
    have hlt := Nat.mod_lt a (show 0 < p by omega)
    obtain ⟨i, hi, hie⟩ := surj (n := p - 1) (f := fun i => g ^ i % p - 1) (by
        intro i hi
        have := Nat.mod_lt (g ^ i) (show 0 < p by omega)
        have := nz i hi
        show g ^ i % p - 1 < p - 1
        omega) (by
        intro i j hi hj he
        have he : g ^ i % p - 1 = g ^ j % p - 1 := he
        have n1 := nz i hi
        have n2 := nz j hj
        rcases Nat.lt_trichotomy i j with h | h | h
        · exact (inj i j hi hj h (by omega)).elim
        · exact h
        · exact (inj j i hj hi h (by omega)).elim) (y := a % p - 1) (by omega)
    have hie : g ^ i % p - 1 = a % p - 1 := hie
    have n1 := nz i hi
    have ha2 : a % p = g ^ i % p := by omega
    rw [Nat.pow_mod, ha2, ← Nat.pow_mod, ← Nat.pow_mul, Nat.mul_comm, Nat.pow_mul, Nat.pow_mod, h1, Nat.one_pow, hone]
  refine ⟨⟨hp, ?_⟩, fermat⟩
  intro d hd
  apply Classical.byContradiction
  intro hno
  have hd1 : d ≠ 1 := fun h => hno (.inl h)
  have hdp : d ≠ p := fun h => hno (.inr h)
  have hle := Nat.le_of_dvd (by omega) hd
  have hd0 : d ≠ 0 := by
    intro h
    subst h
    have := Nat.zero_dvd.1 hd
    omega
  have hm : d % p ≠ 0 := by rw [Nat.mod_eq_of_lt (by omega)]; exact hd0
  have hf := fermat d hm
  have hdd : d ∣ d ^ (p - 1) := by
    obtain ⟨n, hn⟩ : ∃ n, p - 1 = n + 1 := ⟨p - 2, by omega⟩
    rw [hn, Nat.pow_succ]
    exact ⟨_, Nat.mul_comm _ _⟩
  have h3 : d ∣ d ^ (p - 1) % p := (Nat.dvd_mod_iff hd).2 hdd
  rw [hf] at h3
  exact hd1 (Nat.dvd_one.1 h3)
def lucasB (p g : Nat) (fs : List Nat) : Bool := Nat.ble 2 p && Nat.beq (lprod fs) (p - 1) && Nat.ble (p - 1) (2 ^ 256 - 1) && Nat.beq (pm p 256 g (p - 1)) 1 && fs.all (fun q => !Nat.beq (pm p 256 g ((p - 1) / q)) 1)
theorem lucas_of {p g : Nat} {fs : List Nat} (h : lucasB p g fs = true) (hf : AllP fs) : Prm p ∧ ∀ a, a % p ≠ 0 → a ^ (p - 1) % p = 1 := by
  unfold lucasB at h
  rw [Bool.and_eq_true, Bool.and_eq_true, Bool.and_eq_true, Bool.and_eq_true] at h
  obtain ⟨⟨⟨⟨a1, a2⟩, a3⟩, a4⟩, a5⟩ := h
  have a1 := Nat.le_of_ble_eq_true a1
  have a2 := Nat.eq_of_beq_eq_true a2
  have a3 := Nat.le_of_ble_eq_true a3
  have a4 := Nat.eq_of_beq_eq_true a4
  have hlt : p - 1 < 2 ^ 256 := by
    have : (2 : Nat) ^ 256 - 1 + 1 = 2 ^ 256 := rfl
    omega
  rw [pm_eq p 256 g (p - 1) hlt] at a4
  refine lucas a1 a2 hf a4 ?_
  intro q hq
  have := List.all_eq_true.1 a5 q hq
  rw [pm_eq p 256 g ((p - 1) / q) (Nat.lt_of_le_of_lt (Nat.div_le_self _ _) hlt)] at this
  intro he
  rw [he] at this
  exact absurd this (by decide)
def smallB (p : Nat) : Bool := Nat.ble 2 p && (List.range p).all (fun d => Nat.ble d 1 || !Nat.beq (p % d) 0)
theorem small_of {p : Nat} (h : smallB p = true) : Prm p := by
  unfold smallB at h
  rw [Bool.and_eq_true] at h
  have a1 := Nat.le_of_ble_eq_true h.1
  refine ⟨a1, ?_⟩
  intro d hd
  have hle := Nat.le_of_dvd (by omega) hd
  rcases Nat.lt_or_ge d p with hlt | hge
  · have := List.all_eq_true.1 h.2 d (List.mem_range.2 hlt)
    rw [Bool.or_eq_true] at this
    rcases this with h1 | h1
    · have := Nat.le_of_ble_eq_true h1
      have h0 : d ≠ 0 := by
        intro h; subst h
        have := Nat.zero_dvd.1 hd
        omega
      exact .inl (by omega)
    · have h2 : p % d = 0 := Nat.mod_eq_zero_of_dvd hd
      rw [h2] at h1
      exact absurd h1 (by decide)
  · exact .inr (by omega)
end Go.Vg
namespace Go.Vg
theorem pP_2 : Prm 2 := small_of (by kernel_rfl)
theorem pP_3 : Prm 3 := small_of (by kernel_rfl)
theorem pP_17 : Prm 17 := small_of (by kernel_rfl)
theorem pP_239 : Prm 239 := small_of (by kernel_rfl)
theorem pP_479 : Prm 479 := (lucas_of (g := 13) (fs := [2, 239]) (by kernel_rfl) ⟨pP_2, pP_239, trivial⟩).1
theorem pP_32573 : Prm 32573 := (lucas_of (g := 2) (fs := [2, 2, 17, 479]) (by kernel_rfl) ⟨pP_2, pP_2, pP_17, pP_479, trivial⟩).1
theorem pP_65147 : Prm 65147 := (lucas_of (g := 2) (fs := [2, 32573]) (by kernel_rfl) ⟨pP_2, pP_32573, trivial⟩).1
theorem pP_11 : Prm 11 := small_of (by kernel_rfl)
theorem pP_353 : Prm 353 := (lucas_of (g := 3) (fs := [2, 2, 2, 2, 2, 11]) (by kernel_rfl) ⟨pP_2, pP_2, pP_2, pP_2, pP_2, pP_11, trivial⟩).1
theorem pP_59 : Prm 59 := small_of (by kernel_rfl)
theorem pP_487 : Prm 487 := (lucas_of (g := 3) (fs := [2, 3, 3, 3, 3, 3]) (by kernel_rfl) ⟨pP_2, pP_3, pP_3, pP_3, pP_3, pP_3, trivial⟩).1
theorem pP_57467 : Prm 57467 := (lucas_of (g := 2) (fs := [2, 59, 487]) (by kernel_rfl) ⟨pP_2, pP_59, pP_487, trivial⟩).1
theorem pP_7 : Prm 7 := small_of (by kernel_rfl)
theorem pP_131 : Prm 131 := small_of (by kernel_rfl)
theorem pP_132049 : Prm 132049 := (lucas_of (g := 26) (fs := [2, 2, 2, 2, 3, 3, 7, 131]) (by kernel_rfl) ⟨pP_2, pP_2, pP_2, pP_2, pP_3, pP_3, pP_7, pP_131, trivial⟩).1
theorem pP_43 : Prm 43 := small_of (by kernel_rfl)
theorem pP_23 : Prm 23 := small_of (by kernel_rfl)
theorem pP_3727 : Prm 3727 := (lucas_of (g := 3) (fs := [2, 3, 3, 3, 3, 23]) (by kernel_rfl) ⟨pP_2, pP_3, pP_3, pP_3, pP_3, pP_23, trivial⟩).1
theorem pP_1923133 : Prm 1923133 := (lucas_of (g := 2) (fs := [2, 2, 3, 43, 3727]) (by kernel_rfl) ⟨pP_2, pP_2, pP_3, pP_43, pP_3727, trivial⟩).1
theorem pP_31 : Prm 31 := small_of (by kernel_rfl)
theorem pP_107 : Prm 107 := small_of (by kernel_rfl)
theorem pP_223 : Prm 223 := small_of (by kernel_rfl)
theorem pP_173 : Prm 173 := small_of (by kernel_rfl)
theorem pP_4153 : Prm 4153 := (lucas_of (g := 5) (fs := [2, 2, 2, 3, 173]) (by kernel_rfl) ⟨pP_2, pP_2, pP_2, pP_3, pP_173, trivial⟩).1
theorem pP_5 : Prm 5 := small_of (by kernel_rfl)
theorem pP_41 : Prm 41 := small_of (by kernel_rfl)
theorem pP_1723 : Prm 1723 := (lucas_of (g := 3) (fs := [2, 3, 7, 41]) (by kernel_rfl) ⟨pP_2, pP_3, pP_7, pP_41, trivial⟩).1
theorem pP_430751 : Prm 430751 := (lucas_of (g := 17) (fs := [2, 5, 5, 5, 1723]) (by kernel_rfl) ⟨pP_2, pP_5, pP_5, pP_5, pP_1723, trivial⟩).1
theorem pP_31757755568855353 : Prm 31757755568855353 := (lucas_of (g := 10) (fs := [2, 2, 2, 3, 31, 107, 223, 4153, 430751]) (by kernel_rfl) ⟨pP_2, pP_2, pP_2, pP_3, pP_31, pP_107, pP_223, pP_4153, pP_430751, trivial⟩).1
theorem pP_19 : Prm 19 := small_of (by kernel_rfl)
theorem pP_83 : Prm 83 := small_of (by kernel_rfl)
theorem pP_9463 : Prm 9463 := (lucas_of (g := 3) (fs := [2, 3, 19, 83]) (by kernel_rfl) ⟨pP_2, pP_3, pP_19, pP_83, trivial⟩).1
theorem pP_37853 : Prm 37853 := (lucas_of (g := 2) (fs := [2, 2, 9463]) (by kernel_rfl) ⟨pP_2, pP_2, pP_9463, trivial⟩).1
theorem pP_75707 : Prm 75707 := (lucas_of (g := 2) (fs := [2, 37853]) (by kernel_rfl) ⟨pP_2, pP_37853, trivial⟩).1
theorem pP_13 : Prm 13 := small_of (by kernel_rfl)
theorem pP_29 : Prm 29 := small_of (by kernel_rfl)
theorem pP_2437 : Prm 2437 := (lucas_of (g := 2) (fs := [2, 2, 3, 7, 29]) (by kernel_rfl) ⟨pP_2, pP_2, pP_3, pP_7, pP_29, trivial⟩).1
theorem pP_97 : Prm 97 := small_of (by kernel_rfl)
theorem pP_419 : Prm 419 := (lucas_of (g := 2) (fs := [2, 11, 19]) (by kernel_rfl) ⟨pP_2, pP_11, pP_19, trivial⟩).1
theorem pP_569003 : Prm 569003 := (lucas_of (g := 2) (fs := [2, 7, 97, 419]) (by kernel_rfl) ⟨pP_2, pP_7, pP_97, pP_419, trivial⟩).1
theorem pP_2773320623 : Prm 2773320623 := (lucas_of (g := 5) (fs := [2, 2437, 569003]) (by kernel_rfl) ⟨pP_2, pP_2437, pP_569003, trivial⟩).1
theorem pP_72106336199 : Prm 72106336199 := (lucas_of (g := 7) (fs := [2, 13, 2773320623]) (by kernel_rfl) ⟨pP_2, pP_13, pP_2773320623, trivial⟩).1
theorem pP_47 : Prm 47 := small_of (by kernel_rfl)
theorem pP_127 : Prm 127 := small_of (by kernel_rfl)
theorem pP_103 : Prm 103 := small_of (by kernel_rfl)
theorem pP_991 : Prm 991 := (lucas_of (g := 6) (fs := [2, 3, 3, 5, 11]) (by kernel_rfl) ⟨pP_2, pP_3, pP_3, pP_5, pP_11, trivial⟩).1
theorem pP_8574133 : Prm 8574133 := (lucas_of (g := 2) (fs := [2, 2, 3, 7, 103, 991]) (by kernel_rfl) ⟨pP_2, pP_2, pP_3, pP_7, pP_103, pP_991, trivial⟩).1
theorem pP_1919519569386763 : Prm 1919519569386763 := (lucas_of (g := 2) (fs := [2, 3, 7, 19, 47, 47, 127, 8574133]) (by kernel_rfl) ⟨pP_2, pP_3, pP_7, pP_19, pP_47, pP_47, pP_127, pP_8574133, trivial⟩).1
theorem pP_75445702479781427272750846543864801 : Prm 75445702479781427272750846543864801 := (lucas_of (g := 7) (fs := [2, 2, 2, 2, 2, 3, 3, 5, 5, 75707, 72106336199, 1919519569386763]) (by kernel_rfl) ⟨pP_2, pP_2, pP_2, pP_2, pP_2, pP_3, pP_3, pP_5, pP_5, pP_75707, pP_72106336199, pP_1919519569386763, trivial⟩).1
theorem pP_74058212732561358302231226437062788676166966415465897661863160754340907 : Prm 74058212732561358302231226437062788676166966415465897661863160754340907 := (lucas_of (g := 2) (fs := [2, 3, 353, 57467, 132049, 1923133, 31757755568855353, 75445702479781427272750846543864801]) (by kernel_rfl) ⟨pP_2, pP_3, pP_353, pP_57467, pP_132049, pP_1923133, pP_31757755568855353, pP_75445702479781427272750846543864801, trivial⟩).1
theorem pP_f : Prm 57896044618658097711785492504343953926634992332820282019728792003956564819949 ∧ ∀ a, a % 57896044618658097711785492504343953926634992332820282019728792003956564819949 ≠ 0 → a ^ (57896044618658097711785492504343953926634992332820282019728792003956564819949 - 1) % 57896044618658097711785492504343953926634992332820282019728792003956564819949 = 1 := lucas_of (g := 2) (fs := [2, 2, 3, 65147, 74058212732561358302231226437062788676166966415465897661863160754340907]) (by kernel_rfl) ⟨pP_2, pP_2, pP_3, pP_65147, pP_74058212732561358302231226437062788676166966415465897661863160754340907, trivial⟩
end Go.Vg
namespace Go.Proofs.Ytnadggcfdakpoaa
open Go Go.Vg
def Gd (x : Int) : Prop := x ^ (FP - 1) % (FP : Int) = 1 % (FP : Int)
theorem Gd_one : Gd 1 := by unfold Gd; rw [Int.one_pow]
theorem Gd_mul {x y : Int} (h : Gd x) (h' : Gd y) : Gd (x * y) := by
  unfold Gd at *
  rw [Int.mul_pow, Int.mul_emod, h, h', ← Int.mul_emod, Int.one_mul]
theorem fermatP : ∀ a, a % FP ≠ 0 → a ^ (FP - 1) % FP = 1 := by
  have h := pP_f.2
  rwa [← FP_eq] at h
theorem Gd_of {u : Nat} (h : u % FP ≠ 0) : Gd (u : Int) := by
  have h1 : u ^ (FP - 1) % FP = 1 := fermatP u h
  unfold Gd
  have h2 : (((u ^ (FP - 1) : Nat) : Int)) % (FP : Int) = ((1 : Nat) : Int) := by rw [← Int.natCast_emod, h1]
  rw [Int.natCast_pow] at h2
  rw [h2, FP_eq]
  rfl
theorem Gd_four : Gd 4 := Gd_of (u := 4) (by rw [FP_eq]; decide)
theorem aff_scale {a b a' b' : Nat} {s x z : Int} (hs : Gd s) (h1 : Rp a (s * x)) (h2 : Rp b (s * z)) (h3 : Rp a' x) (h4 : Rp b' z) : aff a b = aff a' b' := by
  have k1 := Rp_aff h1 h2
  have k2 := Rp_aff h3 h4
  have e : (s * x) * (s * z) ^ (FP - 2) = (s ^ (FP - 1)) * (x * z ^ (FP - 2)) := by
    have hn : FP - 1 = (FP - 2) + 1 := by rw [FP_eq]
    rw [hn]
    generalize FP - 2 = n
    rw [Int.mul_pow, Int.pow_succ]
    generalize s ^ n = p
    generalize z ^ n = q
    grind
  rw [e] at k1
  have k3 : Rp (aff a b) (x * z ^ (FP - 2)) := by
    unfold Rp at k1 ⊢
    rw [k1, Int.mul_emod, hs, ← Int.mul_emod, Int.one_mul]
  exact Rp_eq k3 k2 (aff_lt _ _) (aff_lt _ _)
theorem aff_null {a b : Nat} (h : Rp b 0) : aff a b = 0 := by
  have k := Rp_aff (Rp_var a) h
  have e : (a : Int) * 0 ^ (FP - 2) = 0 := by
    have hn : FP - 2 = (FP - 3) + 1 := by rw [FP_eq]
    rw [hn, Int.pow_succ, Int.mul_zero, Int.mul_zero]
  rw [e] at k
  exact Rp_eq k (Rp_var 0) (aff_lt _ _) FP_pos
theorem twice_eq {a b x z : Nat} {s X Z : Int} (h1 : Rp a (s * X)) (h2 : Rp b (s * Z)) (g1 : Rp x X) (g2 : Rp z Z) :
    ∃ P Q : Int, (Rp (tX a b) (s * s * (s * s) * P) ∧ Rp (tZ a b) (s * s * (s * s) * Q)) ∧ Rp (dX x z) P ∧ Rp (dZ x z) Q := by
  have kS : Rp (lS a b) _ := Rp_mod (Rp_mul (Rp_mod (Rp_add h1 h2)) (Rp_mod (Rp_add h1 h2)))
  have kT : Rp (lT a b) _ := Rp_mod (Rp_mul (Rp_fsb h1 h2) (Rp_fsb h1 h2))
  have kE : Rp (lE a b) _ := Rp_fsb kS kT
  have kX : Rp (tX a b) _ := Rp_mod (Rp_mul kS kT)
  have kZ : Rp (tZ a b) _ := Rp_mod (Rp_mul kE (Rp_mod (Rp_add kS (Rp_mod (Rp_mul (Rp_var 121665) kE)))))
  have dd : Rp (dD x z) _ := Rp_fsb (Rp_mod (Rp_mul g1 g1)) (Rp_mod (Rp_mul g2 g2))
  have eX : Rp (dX x z) _ := Rp_mod (Rp_mul dd dd)
  have xz := Rp_mod (Rp_mul g1 g2)
  have sm : Rp (dSm x z) _ := Rp_mod (Rp_add (Rp_mod (Rp_add (Rp_mod (Rp_mul g1 g1)) (Rp_mod (Rp_mul (Rp_var 486662) xz)))) (Rp_mod (Rp_mul g2 g2)))
  have eZ : Rp (dZ x z) _ := Rp_mod (Rp_mul (Rp_mod (Rp_mul (Rp_var 4) xz)) sm)
  have c1 : ((121665 : Nat) : Int) = 121665 := rfl
  have c2 : ((486662 : Nat) : Int) = 486662 := rfl
  have c4 : ((4 : Nat) : Int) = 4 := rfl
  rw [c1] at kZ
  rw [c2, c4] at eZ
  refine ⟨_, _, ⟨Rp_to kX ?_, Rp_to kZ ?_⟩, eX, eZ⟩ <;> grind
theorem both_eq {a b c d x z x' z' u v : Nat} {s t X Z X' Z' U : Int} (h1 : Rp a (s * X)) (h2 : Rp b (s * Z)) (h3 : Rp c (t * X')) (h4 : Rp d (t * Z')) (g1 : Rp x X) (g2 : Rp z Z) (g3 : Rp x' X') (g4 : Rp z' Z') (hu : Rp u U) (hv : Rp v U) :
    ∃ P Q : Int, (Rp (jX a b c d) (4 * (s * t * (s * t)) * P) ∧ Rp (jZ a b c d u) (4 * (s * t * (s * t)) * Q)) ∧ (Rp (jX c d a b) (4 * (s * t * (s * t)) * P) ∧ Rp (jZ c d a b u) (4 * (s * t * (s * t)) * Q)) ∧ Rp (bX x z x' z') P ∧ Rp (bZ x z x' z' v) Q := by
  have kA : Rp (jA a b c d) _ := Rp_mod (Rp_mul (Rp_mod (Rp_add h3 h4)) (Rp_fsb h1 h2))
  have kB : Rp (jB a b c d) _ := Rp_mod (Rp_mul (Rp_fsb h3 h4) (Rp_mod (Rp_add h1 h2)))
  have kX : Rp (jX a b c d) _ := Rp_mod (Rp_mul (Rp_mod (Rp_add kA kB)) (Rp_mod (Rp_add kA kB)))
  have kZ : Rp (jZ a b c d u) _ := Rp_mod (Rp_mul hu (Rp_mod (Rp_mul (Rp_fsb kA kB) (Rp_fsb kA kB))))
  have lA : Rp (jA c d a b) _ := Rp_mod (Rp_mul (Rp_mod (Rp_add h1 h2)) (Rp_fsb h3 h4))
  have lB : Rp (jB c d a b) _ := Rp_mod (Rp_mul (Rp_fsb h1 h2) (Rp_mod (Rp_add h3 h4)))
  have lX : Rp (jX c d a b) _ := Rp_mod (Rp_mul (Rp_mod (Rp_add lA lB)) (Rp_mod (Rp_add lA lB)))
  have lZ : Rp (jZ c d a b u) _ := Rp_mod (Rp_mul hu (Rp_mod (Rp_mul (Rp_fsb lA lB) (Rp_fsb lA lB))))
  have eS : Rp (bS x z x' z') _ := Rp_fsb (Rp_mod (Rp_mul g1 g3)) (Rp_mod (Rp_mul g2 g4))
  have eT : Rp (bT x z x' z') _ := Rp_fsb (Rp_mod (Rp_mul g1 g4)) (Rp_mod (Rp_mul g2 g3))
  have eX : Rp (bX x z x' z') _ := Rp_mod (Rp_mul eS eS)
  have eZ : Rp (bZ x z x' z' v) _ := Rp_mod (Rp_mul hv (Rp_mod (Rp_mul eT eT)))
  refine ⟨_, _, ⟨Rp_to kX ?_, Rp_to kZ ?_⟩, ⟨Rp_to lX ?_, Rp_to lZ ?_⟩, eX, eZ⟩ <;> grind
theorem first_eq {a b c d u : Nat} {s t U : Int} (h1 : Rp a (s * 1)) (h2 : Rp b (s * 0)) (h3 : Rp c (t * U)) (h4 : Rp d (t * 1)) (hu : Rp u U) :
    (Rp (tX a b) (s * s * (s * s) * 1) ∧ Rp (tZ a b) (s * s * (s * s) * 0)) ∧ Rp (jX a b c d) (4 * (s * t * (s * t)) * U * U) ∧ Rp (jZ a b c d u) (4 * (s * t * (s * t)) * U * 1) := by
  have kS : Rp (lS a b) _ := Rp_mod (Rp_mul (Rp_mod (Rp_add h1 h2)) (Rp_mod (Rp_add h1 h2)))
  have kT : Rp (lT a b) _ := Rp_mod (Rp_mul (Rp_fsb h1 h2) (Rp_fsb h1 h2))
  have kE : Rp (lE a b) _ := Rp_fsb kS kT
  have kX : Rp (tX a b) _ := Rp_mod (Rp_mul kS kT)
  have kZ : Rp (tZ a b) _ := Rp_mod (Rp_mul kE (Rp_mod (Rp_add kS (Rp_mod (Rp_mul (Rp_var 121665) kE)))))
  have kA : Rp (jA a b c d) _ := Rp_mod (Rp_mul (Rp_mod (Rp_add h3 h4)) (Rp_fsb h1 h2))
  have kB : Rp (jB a b c d) _ := Rp_mod (Rp_mul (Rp_fsb h3 h4) (Rp_mod (Rp_add h1 h2)))
  have jx : Rp (jX a b c d) _ := Rp_mod (Rp_mul (Rp_mod (Rp_add kA kB)) (Rp_mod (Rp_add kA kB)))
  have jz : Rp (jZ a b c d u) _ := Rp_mod (Rp_mul hu (Rp_mod (Rp_mul (Rp_fsb kA kB) (Rp_fsb kA kB))))
  refine ⟨⟨Rp_to kX ?_, Rp_to kZ ?_⟩, Rp_to jx ?_, Rp_to jz ?_⟩ <;> grind
theorem null_t {a b : Nat} (h : Rp b 0) : Rp (tZ a b) 0 := by
  have h1 := Rp_var a
  have kS : Rp (lS a b) _ := Rp_mod (Rp_mul (Rp_mod (Rp_add h1 h)) (Rp_mod (Rp_add h1 h)))
  have kT : Rp (lT a b) _ := Rp_mod (Rp_mul (Rp_fsb h1 h) (Rp_fsb h1 h))
  have kE : Rp (lE a b) _ := Rp_fsb kS kT
  have kZ : Rp (tZ a b) _ := Rp_mod (Rp_mul kE (Rp_mod (Rp_add kS (Rp_mod (Rp_mul (Rp_var 121665) kE)))))
  refine Rp_to kZ ?_
  grind
theorem null_j {a b c d u : Nat} (h : Rp u 0) : Rp (jZ a b c d u) 0 :=
  Rp_to (Rp_mod (Rp_mul h (Rp_var _))) (Int.zero_mul _)
theorem null_d {x z : Nat} (h : Rp z 0) : Rp (dZ x z) 0 := by
  have xz := Rp_mod (Rp_mul (Rp_var x) h)
  have eZ : Rp (dZ x z) _ := Rp_mod (Rp_mul (Rp_mod (Rp_mul (Rp_var 4) xz)) (Rp_var _))
  refine Rp_to eZ ?_
  grind
theorem null_b {x z x' z' u : Nat} (h : Rp u 0) : Rp (bZ x z x' z' u) 0 :=
  Rp_to (Rp_mod (Rp_mul h (Rp_var _))) (Int.zero_mul _)
theorem rgS_fuel (u : Nat) : ∀ k n, n < 2 ^ k → rgS u (k + 1) n = rgS u k n
  | 0, n, h => by
    have : n = 0 := by rw [Nat.pow_zero] at h; omega
    subst this
    rfl
  | k + 1, n, h => by
    have ih := rgS_fuel u k (n / 2) (by rw [Nat.pow_succ] at h; omega)
    show (if n = 0 then _ else rgN u (n % 2) (rgS u (k + 1) (n / 2))) = (if n = 0 then _ else rgN u (n % 2) (rgS u k (n / 2)))
    rw [ih]
theorem rgS_step (u : Nat) {n b : Nat} (hb : b < 2) (h : n < 2 ^ 255) : rgS u 256 (2 * n + b) = if n = 0 ∧ b = 0 then ⟨1, 0, u, 1⟩ else rgN u b (rgS u 256 n) := by
  have e : rgS u 256 (2 * n + b) = if 2 * n + b = 0 then ⟨1, 0, u, 1⟩ else rgN u ((2 * n + b) % 2) (rgS u 255 ((2 * n + b) / 2)) := rfl
  rw [e, show (2 * n + b) % 2 = b by omega, show (2 * n + b) / 2 = n by omega, rgS_fuel u 255 n h]
  by_cases h0 : n = 0 ∧ b = 0
  · rw [if_pos (by omega), if_pos h0]
  · rw [if_neg (by omega), if_neg h0]
theorem rgS_zero (u : Nat) : rgS u 256 0 = ⟨1, 0, u, 1⟩ := rfl
def Lad (q r : Q4) : Prop := ∃ s t X Z X' Z' : Int, Gd s ∧ Gd t ∧ (Rp q.a (s * X) ∧ Rp q.b (s * Z) ∧ Rp q.c (t * X') ∧ Rp q.d (t * Z')) ∧ Rp r.a X ∧ Rp r.b Z ∧ Rp r.c X' ∧ Rp r.d Z'
theorem lad_step {u n b : Nat} (hu : u % FP ≠ 0) (hb : b < 2) (hn : n < 2 ^ 255) {q : Q4} (h : Lad q (rgS (u % FP) 256 n)) : Lad (ldN u b q) (rgS (u % FP) 256 (2 * n + b)) := by
  have hU := Rp_var u
  have hV := Rp_mod (Rp_var u)
  have gU := Gd_of hu
  rw [rgS_step _ hb hn]
  obtain ⟨s, t, X, Z, X', Z', gs, gt, ⟨h1, h2, h3, h4⟩, g1, g2, g3, g4⟩ := h
  have gs4 : Gd (s * s * (s * s)) := Gd_mul (Gd_mul gs gs) (Gd_mul gs gs)
  have gt4 : Gd (t * t * (t * t)) := Gd_mul (Gd_mul gt gt) (Gd_mul gt gt)
  have gst : Gd (4 * (s * t * (s * t))) := Gd_mul Gd_four (Gd_mul (Gd_mul gs gt) (Gd_mul gs gt))
  by_cases h0 : n = 0 ∧ b = 0
  · rw [if_pos h0]
    obtain ⟨rfl, rfl⟩ := h0
    rw [rgS_zero] at g1 g2 g3 g4
    have k1 : Rp q.a (s * 1) := by
      have e : Rp q.a (s * ((1 : Nat) : Int)) := by
        unfold Rp at h1 g1 ⊢
        rw [h1, Int.mul_emod, ← g1, ← Int.mul_emod]
      exact e
    have k2 : Rp q.b (s * 0) := by
      have e : Rp q.b (s * ((0 : Nat) : Int)) := by
        unfold Rp at h2 g2 ⊢
        rw [h2, Int.mul_emod, ← g2, ← Int.mul_emod]
      exact e
    have k3 : Rp q.c (t * (u : Int)) := by
      unfold Rp at h3 g3 ⊢
      have g3 : ((u % FP : Nat) : Int) % (FP : Int) = X' % (FP : Int) := g3
      rw [h3, Int.mul_emod, ← g3, Int.natCast_emod, Int.emod_emod, ← Int.mul_emod]
    have k4 : Rp q.d (t * 1) := by
      have e : Rp q.d (t * ((1 : Nat) : Int)) := by
        unfold Rp at h4 g4 ⊢
        rw [h4, Int.mul_emod, ← g4, ← Int.mul_emod]
      exact e
    obtain ⟨⟨a1, a2⟩, a3, a4⟩ := first_eq k1 k2 k3 k4 hU
    exact ⟨_, _, 1, 0, u, 1, gs4, Gd_mul gst gU, ⟨a1, a2, a3, a4⟩, Rp_var 1, Rp_var 0, hV, Rp_var 1⟩
  · rw [if_neg h0]
    obtain ⟨P, Q, ⟨a1, a2⟩, ⟨a3, a4⟩, a5, a6⟩ := both_eq h1 h2 h3 h4 g1 g2 g3 g4 hU hV
    have hb2 : b = 0 ∨ b = 1 := by omega
    rcases hb2 with rfl | rfl
    · obtain ⟨A, B, ⟨b1, b2⟩, b3, b4⟩ := twice_eq h1 h2 g1 g2
      exact ⟨_, _, A, B, P, Q, gs4, gst, ⟨b1, b2, a1, a2⟩, b3, b4, a5, a6⟩
    · obtain ⟨A, B, ⟨b1, b2⟩, b3, b4⟩ := twice_eq h3 h4 g3 g4
      exact ⟨_, _, P, Q, A, B, gst, gt4, ⟨a3, a4, b1, b2⟩, a5, a6, b3, b4⟩
theorem bitN_of {k i : Nat} (hi : i < 256) : bitN k ((255 : Int) - (i : Int)) = k / 2 ^ (255 - i) % 2 := by
  unfold bitN
  rw [if_pos ⟨by omega, by omega⟩, show ((255 : Int) - (i : Int)).toNat = 255 - i by omega]
theorem lad_all {k u : Nat} (hk : k < 2 ^ 256) (hu : u % FP ≠ 0) : ∀ i, i ≤ 256 → Lad (ldS k u i) (rgS (u % FP) 256 (k / 2 ^ (256 - i)))
  | 0, _ => by
    rw [Nat.sub_zero, Nat.div_eq_of_lt hk, rgS_zero]
    refine ⟨1, 1, 1, 0, u, 1, Gd_one, Gd_one, ⟨?_, ?_, ?_, ?_⟩, Rp_var 1, Rp_var 0, Rp_mod (Rp_var u), Rp_var 1⟩
    · exact Rp_var 1
    · exact Rp_var 0
    · rw [Int.one_mul]; exact Rp_var u
    · exact Rp_var 1
  | i + 1, hi => by
    have ih := lad_all hk hu i (by omega)
    have e : k / 2 ^ (256 - (i + 1)) = 2 * (k / 2 ^ (256 - i)) + k / 2 ^ (255 - i) % 2 := by
      rw [show 256 - (i + 1) = 255 - i by omega, show 256 - i = (255 - i) + 1 by omega]
      have := half_bit k (255 - i)
      omega
    have hlt : k / 2 ^ (256 - i) < 2 ^ 255 := by
      have : 256 - i = (255 - i) + 1 := by omega
      rw [this]
      refine Nat.div_lt_of_lt_mul ?_
      refine Nat.lt_of_lt_of_le hk ?_
      rw [← Nat.pow_add]
      exact Nat.pow_le_pow_right (by decide) (by omega)
    rw [e]
    show Lad (ldN u (bitN k ((255 : Int) - (i : Int))) (ldS k u i)) _
    rw [bitN_of (by omega)]
    exact lad_step hu (Nat.mod_lt _ (by decide)) hlt ih
theorem ld_null {k u : Nat} (hu : Rp u 0) : ∀ i, Rp (ldS k u i).b 0
  | 0 => Rp_var 0
  | i + 1 => by
    have ih := ld_null (k := k) hu i
    show Rp (ldN u _ (ldS k u i)).b 0
    unfold ldN
    split
    · exact null_t ih
    · exact null_j hu
theorem rg_null {u : Nat} (hu : Rp u 0) : ∀ k n, Rp (rgS u k n).b 0
  | 0, _ => Rp_var 0
  | k + 1, n => by
    show Rp (if n = 0 then (⟨1, 0, u, 1⟩ : Q4) else rgN u (n % 2) (rgS u k (n / 2))).b 0
    split
    · exact Rp_var 0
    · unfold rgN
      split
      · exact null_d (rg_null hu k _)
      · exact null_b hu
theorem lad_eq {k u : Nat} (hk : k < 2 ^ 256) : ladM k u = ladR k u := by
  unfold ladM ladR
  by_cases hu : u % FP = 0
  · have h1 : Rp u 0 := by
      unfold Rp
      rw [← Int.natCast_emod, hu]
      rfl
    have h2 : Rp (u % FP) 0 := Rp_mod h1
    rw [aff_null (ld_null h1 256), aff_null (rg_null h2 256 k)]
  · obtain ⟨s, t, X, Z, X', Z', gs, gt, ⟨h1, h2, h3, h4⟩, g1, g2, g3, g4⟩ := lad_all hk hu 256 (Nat.le_refl _)
    rw [Nat.sub_self, Nat.pow_zero, Nat.div_one] at g1 g2
    exact aff_scale gs h1 h2 g1 g2
end Go.Proofs.Ytnadggcfdakpoaa
namespace Go.Proofs.Ytnadggcfdakpoaa
open Go Go.Vg
theorem bitN_lt (v : Nat) (i : Int) : bitN v i = 0 ∨ bitN v i = 1 := by
  unfold bitN
  split
  · omega
  · exact .inl rfl
theorem wtX (a b : Nat) : vB 18446744073709551616 (nB 18446744073709551616 4 (tX a b)) = tX a b := wn (flt _)
theorem stc {a b a' b' : Nat} (h : a = a') (h' : b = b') : some (Blk.fix (.st [n4 a, n4 b])) = some (Blk.fix (.st [n4 a', n4 b'])) := by rw [h, h']
set_option maxRecDepth 100000 in
theorem m51 : Meets Try.prog 51 sp51 := by
  refine meets_of_owed (C := c51) ⟨tab_ok, lkS_ok ⟨m114, m115, m116, m117, m113, m107, trivial⟩⟩ (by kernel_rfl) (by kernel_rfl : Try.prog.funcs[51]? = some Try.f51) (by kernel_rfl) (by kernel_rfl) (by kernel_rfl) _ ?_
  rintro _ ⟨l, m, rfl, hl, hm⟩
  refine ⟨fun _ => rfl, inv51 (wv l) (wv m), ?_⟩
  show owed c51 (inv51 (wv l) (wv m)) Try.f51 [num4 l, num4 m] (n4 (ladM (wv l) (wv m)))
  rw [vc51]
  have hmv := wv_lt' hm
  have hmn : nB 18446744073709551616 4 (vB 18446744073709551616 m) = m := num_nB hm
  have hu := ldS_lt (k := vB 18446744073709551616 l) hmv
  simp (decide := true) only [eq_self, true_and, and_true, ne_eq, not_false_eq_true, Int.toNat_natCast]
  refine ⟨?_, ?_⟩
  · have e0 : ((255 : Int) - 255).toNat = 0 := rfl
    rw [e0]
    have i1 : nB 18446744073709551616 4 1 = [1, 0, 0, 0] := rfl
    have i0 : nB 18446744073709551616 4 0 = [0, 0, 0, 0] := rfl
    have s0 : ldS (vB 18446744073709551616 l) (vB 18446744073709551616 m) 0 = ⟨1, 0, vB 18446744073709551616 m, 1⟩ := rfl
    rw [s0]
    simp only [i1, i0, hmn]
    and_intros <;> first | exact True.intro | rfl | omega
  intro x hx
  obtain ⟨ha, hb, hc, hd⟩ := hu x
  have fa := wn ha
  have fb := wn hb
  have fc := wn hc
  have fd := wn hd
  split
  · rename_i h
    have h := of_decide_eq_true h
    have hx : x < 256 := by omega
    have e1 : IntKind.i64.wrap ((255 : Int) - (x : Int) - 1) = (255 : Int) - ((x + 1 : Nat) : Int) := by rw [wi (by omega) (by omega)]; omega
    have e2 : ((255 : Int) - ((255 : Int) - ((x + 1 : Nat) : Int))).toNat = x + 1 := by omega
    have hi : i64ok ((255 : Int) - (x : Int)) := by unfold i64ok; omega
    rw [e1, e2]
    have es : ldS (vB 18446744073709551616 l) (vB 18446744073709551616 m) (x + 1) = ldN (vB 18446744073709551616 m) (bitN (vB 18446744073709551616 l) ((255 : Int) - (x : Int))) (ldS (vB 18446744073709551616 l) (vB 18446744073709551616 m) x) := rfl
    rw [es]
    have hbit := bitN_lt (vB 18446744073709551616 l) ((255 : Int) - (x : Int))
    generalize bitN (vB 18446744073709551616 l) ((255 : Int) - (x : Int)) = b at hbit ⊢
    generalize ldS (vB 18446744073709551616 l) (vB 18446744073709551616 m) x = q at *
    rcases hbit with rfl | rfl
    · simp only [pk0, fa, fb, fc, fd]
      have eN : ldN (vB 18446744073709551616 m) 0 q = ⟨tX q.a q.b, tZ q.a q.b, jX q.a q.b q.c q.d, jZ q.a q.b q.c q.d (vB 18446744073709551616 m)⟩ := rfl
      rw [eN]
      and_intros <;> first | exact True.intro | exact ⟨_, _, rfl, hl, hi⟩ | exact ⟨_, _, _, _, _, rfl, by decide, ⟨nN _, nN _⟩, nN _, nN _⟩ | exact ⟨_, _, rfl, nN _, nN _⟩ | exact ⟨_, _, _, _, _, rfl, ⟨nN _, nN _⟩, ⟨nN _, nN _⟩, hm⟩ | omega | rfl
    · simp only [pk1, fa, fb, fc, fd]
      have eN : ldN (vB 18446744073709551616 m) 1 q = ⟨jX q.c q.d q.a q.b, jZ q.c q.d q.a q.b (vB 18446744073709551616 m), tX q.c q.d, tZ q.c q.d⟩ := rfl
      rw [eN]
      and_intros <;> first | exact True.intro | exact ⟨_, _, rfl, hl, hi⟩ | exact ⟨_, _, _, _, _, rfl, by decide, ⟨nN _, nN _⟩, nN _, nN _⟩ | exact ⟨_, _, rfl, nN _, nN _⟩ | exact ⟨_, _, _, _, _, rfl, ⟨nN _, nN _⟩, ⟨nN _, nN _⟩, hm⟩ | omega | rfl
  · rename_i h
    have h := of_decide_eq_false h
    have hx : x = 256 := by omega
    subst hx
    rw [fa, fb, wnp]
    unfold ladM aff
    and_intros <;> first | exact True.intro | exact ⟨_, rfl, nN _⟩ | exact ⟨_, _, rfl, nN _, nN _⟩ | rfl
theorem m118a : Meets Try.prog 118 (sp118 257) := m118 257
set_option maxRecDepth 100000 in
theorem m52 : Meets Try.prog 52 sp52 := by
  refine meets_of_owed (C := c52) ⟨tab_ok, lkS_ok ⟨m46, m72, m118a, m55, m54, m47, trivial⟩⟩ (by kernel_rfl) (by kernel_rfl : Try.prog.funcs[52]? = some Try.f52) (by kernel_rfl) (by kernel_rfl) (by kernel_rfl) _ ?_
  rintro _ ⟨l, m, rfl, hl, hm⟩
  refine ⟨fun _ => rfl, fun _ => none, ?_⟩
  show owed c52 (fun _ => none) Try.f52 [num4 l, num4 m] (n4 (ladR (wv l) (wv m)))
  rw [vc52]
  have hlv := wv_lt' hl
  have ev : vB 65536 (dg (vB 18446744073709551616 l)) = vB 18446744073709551616 l := vl_dg _
  obtain ⟨ra, rb, rc, rd⟩ := rgS_lt (flt (vB 18446744073709551616 m)) 256 (vB 18446744073709551616 l)
  have fa := fn ra
  have fb := fn rb
  simp (decide := true) only [eq_self, true_and, and_true, ne_eq, not_false_eq_true, ev, fnm, fnp, List.drop_zero, f2_t0, f2_t1, fa, fb]
  unfold ladR aff
  and_intros <;> first | exact True.intro | exact ⟨_, rfl, hm⟩ | exact ⟨_, rfl, hl.1, hl.2⟩ | exact ⟨_, _, rfl, hlv, nF _⟩ | exact ⟨_, rfl, nF _⟩ | exact ⟨_, _, rfl, nF _, nF _⟩ | rfl
end Go.Proofs.Ytnadggcfdakpoaa
namespace Go.Proofs.Ytnadggcfdakpoaa
open Go Go.Vg
def isK (l : List Int) : Prop := okb l ∧ l.length = 32
def clN (v : Nat) : Nat := v % 28948022309329048855892746252171976963317496166410141009864396001978282409984 / 8 * 8 + 28948022309329048855892746252171976963317496166410141009864396001978282409984
def lowP (v : Nat) : Nat := v % 57896044618658097711785492504343953926634992332820282019728792003956564819968
def shE (v : Nat) : Int := if v = 0 then 1 else 0
abbrev kA (ds : List D) : Nat := bv (arrOf (ds.headD default))
abbrev kB (ds : List D) : Nat := bv (arrOf (ds.getD 1 default))
def sp121 : Go.Vg.Spec := ⟨fun ds => ∃ l, ds = [.ints .u8 l] ∧ okb l ∧ l.length ≤ 32, fun ds => dgs (dg (vB 256 (intsOf (ds.headD default)))), false, [25]⟩
noncomputable def bts (n v : Nat) : List Int := opq (nB 2 n v)
noncomputable def sp123r : Go.Vg.Spec := ⟨fun ds => ∃ l n, ds = [dgs l, i64 n] ∧ okd l ∧ lenOk l ∧ 0 ≤ n ∧ n ≤ 16777216, fun ds => .tup [dgs (bts (numOf (ds.getD 1 default)).toNat (vB 65536 (intsOf (ds.headD default))))], false, [94, 3, 8500003]⟩
def sp122 : Go.Vg.Spec := ⟨fun ds => ∃ l, ds = [num4 l] ∧ isN l, fun ds => b32 (nB 256 32 (wA ds)), true, [24]⟩
def sp58 : Go.Vg.Spec := ⟨fun ds => ∃ l, ds = [b32 l] ∧ isK l, fun ds => n4 (clN (kA ds)), true, [88]⟩
def sp59 : Go.Vg.Spec := ⟨fun ds => ∃ l, ds = [b32 l] ∧ isK l, fun ds => n4 (clN (kA ds)), true, [88]⟩
noncomputable def sp60 : Go.Vg.Spec := ⟨fun ds => ∃ l, ds = [b32 l] ∧ isK l, fun ds => b32 (nB 256 32 (ladM (clN (kA ds)) 9)), true, [88]⟩
noncomputable def sp61 : Go.Vg.Spec := ⟨fun ds => ∃ l, ds = [b32 l] ∧ isK l, fun ds => b32 (nB 256 32 (ladR (clN (kA ds)) 9)), true, [88]⟩
noncomputable def sp56 : Go.Vg.Spec := ⟨fun ds => ∃ l m, ds = [b32 l, b32 m] ∧ isK l ∧ isK m, fun ds => .tup [b32 (nB 256 32 (ladM (clN (kA ds)) (lowP (kB ds)))), i64 (shE (ladM (clN (kA ds)) (lowP (kB ds))))], true, [88, 88]⟩
noncomputable def sp57 : Go.Vg.Spec := ⟨fun ds => ∃ l m, ds = [b32 l, b32 m] ∧ isK l ∧ isK m, fun ds => .tup [b32 (nB 256 32 (ladR (clN (kA ds)) (lowP (kB ds)))), i64 (shE (ladR (clN (kA ds)) (lowP (kB ds))))], true, [88, 88]⟩
noncomputable def ladRo (k u : Nat) : Nat := opq (ladR k u)
noncomputable def ladMo (k u : Nat) : Nat := opq (ladM k u)
noncomputable def sp52o : Go.Vg.Spec := ⟨sp52.pre, fun ds => n4 (ladRo (wA ds) (wB2 ds)), true, [24, 24]⟩
noncomputable def sp51o : Go.Vg.Spec := ⟨sp51.pre, fun ds => n4 (ladMo (wA ds) (wB2 ds)), true, [24, 24]⟩
def c121 : Ctx := ⟨tab, lkS [(64, sp64), (63, sp63)], [], []⟩
def c123r : Ctx := ⟨tab, lkS [(74, sp74)], [8], []⟩
def c122 : Ctx := ⟨tab, lkS [(72, sp72), (123, sp123)], [], []⟩
def c58 : Ctx := ⟨tab, lkS [(62, sp62)], [], []⟩
noncomputable def c59 : Ctx := ⟨tab, lkS [(121, sp121), (123, sp123r), (124, sp124), (67, sp67)], [], [5, 18]⟩
noncomputable def c60 : Ctx := ⟨tab, lkS [(58, sp58), (51, sp51o), (71, sp71)], [], []⟩
noncomputable def c61 : Ctx := ⟨tab, lkS [(59, sp59), (52, sp52o), (122, sp122)], [], []⟩
noncomputable def c56 : Ctx := ⟨tab, lkS [(58, sp58), (62, sp62), (51, sp51o), (71, sp71)], [], []⟩
noncomputable def c57 : Ctx := ⟨tab, lkS [(121, sp121), (66, sp66), (84, sp84), (59, sp59), (67, sp67), (52, sp52o), (72, sp72), (122, sp122)], [], [9]⟩
def inv121 (l : List Int) : Nat → Option Inv
  | 3 => some ⟨Nat, fun z => [(4, .d (i64 ((z : Int) - 1))), (3, .d (dgs (dg (vB 256 (l.drop z)))))], fun _ => [], fun s => (slotN s 4 + 1).toNat, fun _ z => z ≤ l.length, fun z => z⟩
  | _ => none
def inv123r (l : List Int) (n : Int) : Nat → Option Inv
  | 3 => some ⟨Int, fun i => [(11, .d (i64 i))], fun i => [(8, .row 3 (dgs (nB 2 i.toNat (vB 65536 l) ++ List.replicate (n - i).toNat 0)))], fun s => slotN s 11, fun _ i => 0 ≤ i ∧ i ≤ n, fun i => (n - i).toNat⟩
  | _ => none
def inv122 (l : List Int) : Nat → Option Inv
  | 3 => some ⟨Nat, fun i => [(10, .d (i64n i))], fun i => [(3, .fix (b32 (nB 256 32 (wv l % 2 ^ i))))], fun s => (slotN s 10).toNat, fun _ i => i ≤ 256, fun i => 256 - i⟩
  | _ => none
--KEEP Go.Vg.spl List.replicate Nat.gcd Go.Vg.eqB Go.Vg.vB Go.Vg.nB Go.Vg.okd Go.Vg.okw Go.Vg.dg Go.Vg.dig Go.Vg.trimL okb lenOk lenS len1 sbd sbb dif bor cmpN shf i64ok subL sbD adl adc mulL mulH stL stH smN smC addL addK isN bl2 bitN pkL pkI isBits FP fsb fpw dNum isF okL dgF dFe dgP ladM ladR dgW smF isK clN lowP shE bts ladRo ladMo
set_option maxRecDepth 100000 in
theorem vc121  (l : List Int) (F : D)  :
    (owed c121 (inv121 l) Try.f121 [.ints .u8 l] F) = (
 True ∧
 True ∧
 True ∧
 True ∧
 True ∧
 True ∧
 (((AV.d (D.val (Value.int IntKind.i64 (IntKind.i64.wrap ((↑l.length : Int) - (1 : Int))))) = AV.d (D.val (Value.int IntKind.i64 ((↑(IntKind.i64.wrap ((↑l.length : Int) - (1 : Int)) + (1 : Int)).toNat : Int) - (1 : Int)))) ∧ dg (vB (256 : Nat) (List.drop (IntKind.i64.wrap ((↑l.length : Int) - (1 : Int)) + (1 : Int)).toNat l)) = [] ∧ True) ∧ True ∧ true = true) ∧
 (IntKind.i64.wrap ((↑l.length : Int) - (1 : Int)) + (1 : Int)).toNat ≤ l.length) ∧
 ∀ (x : Nat),
 x ≤ l.length →
 true = true ∧
 True ∧
 True ∧
 match decide ((↑x : Int) - (1 : Int) ≥ (0 : Int)) with
 | true =>
  True ∧
  ((1 : Nat) = (1 : Nat) ∧ (1 : Nat) ≤ (4096 : Nat)) ∧
  (∃ (l_1 : List Int), ∃ (m : List Int), [D.ints IntKind.i64 (dg (vB (256 : Nat) (List.drop x l))), D.ints IntKind.i64 [(256 : Int)]] = [D.ints IntKind.i64 l_1, D.ints IntKind.i64 m] ∧ (okd l_1 ∧ lenS l_1) ∧ okd m ∧ lenS m) ∧
  True ∧
  True ∧
  ((0 : Int) ≤ (↑x : Int) - (1 : Int) ∧ (↑x : Int) - (1 : Int) < (↑l.length : Int) ∧ (1 : Nat) = (1 : Nat)) ∧
  ((1 : Nat) ≠ (0 : Nat) ∧ (1 : Nat) = (1 : Nat) ∧ false = false) ∧
  True ∧
  ((1 : Nat) = (1 : Nat) ∧ (1 : Nat) ≤ (4096 : Nat)) ∧
  (∃ (l_1 : List Int), ∃ (m : List Int), [D.ints IntKind.i64 (dg (vB (65536 : Nat) (dg (vB (256 : Nat) (List.drop x l))) * vB (65536 : Nat) [(256 : Int)])), D.ints IntKind.i64 [IntKind.i64.wrap (l.getD ((↑x : Int) - (1 : Int)).toNat (0 : Int))]] = [D.ints IntKind.i64 l_1, D.ints IntKind.i64 m] ∧ (okd l_1 ∧ lenS l_1) ∧ okd m ∧ lenS m) ∧
  True ∧
  True ∧
  True ∧
  True ∧
  ((AV.d (D.val (Value.int IntKind.i64 (IntKind.i64.wrap ((↑x : Int) - (1 : Int) - (1 : Int))))) = AV.d (D.val (Value.int IntKind.i64 ((↑(IntKind.i64.wrap ((↑x : Int) - (1 : Int) - (1 : Int)) + (1 : Int)).toNat : Int) - (1 : Int)))) ∧
  AV.d (D.ints IntKind.i64 (dg (vB (65536 : Nat) (dg (vB (65536 : Nat) (dg (vB (256 : Nat) (List.drop x l))) * vB (65536 : Nat) [(256 : Int)])) + vB (65536 : Nat) [IntKind.i64.wrap (l.getD ((↑x : Int) - (1 : Int)).toNat (0 : Int))]))) =
  AV.d (D.ints IntKind.i64 (dg (vB (256 : Nat) (List.drop (IntKind.i64.wrap ((↑x : Int) - (1 : Int) - (1 : Int)) + (1 : Int)).toNat l)))) ∧
  True) ∧
  True ∧ true = true) ∧
  (IntKind.i64.wrap ((↑x : Int) - (1 : Int) - (1 : Int)) + (1 : Int)).toNat ≤ l.length ∧ (IntKind.i64.wrap ((↑x : Int) - (1 : Int) - (1 : Int)) + (1 : Int)).toNat < x
 | false => True ∧ True ∧ (false = false ∧ True) ∧ D.ints IntKind.i64 (dg (vB (256 : Nat) (List.drop x l))) = F) := by kernel_rfl
set_option maxRecDepth 100000 in
theorem vc123r  (l : List Int) (n : Int) (F : D)  :
    (owedRw c123r (inv123r l n) Try.f123 3 [dgs l, i64 n] F) = (
 True ∧
 True ∧
 ((0 : Int) ≤ n ∧ n ≤ n ∧ n ≤ (281474976710656 : Int) ∧ (↑(8 : Nat) : Int) * n ≤ (281474976710656 : Int) ∧ (1 : Nat) = (1 : Nat)) ∧
 True ∧
 True ∧
 True ∧
 True ∧
 (((AV.d (D.ints IntKind.i64 l) = AV.d (D.ints IntKind.i64 l) ∧
 AV.d (D.val (Value.int IntKind.i64 n)) = AV.d (D.val (Value.int IntKind.i64 n)) ∧
 AV.d (D.val (Value.slice none (0 : Nat) (0 : Nat))) = AV.d (D.val (Value.slice none (0 : Nat) (0 : Nat))) ∧
 AV.row (8 : Nat) = AV.row (8 : Nat) ∧
 AV.d (D.val (Value.int IntKind.i64 n)) = AV.d (D.val (Value.int IntKind.i64 n)) ∧
 AV.row (8 : Nat) = AV.row (8 : Nat) ∧ AV.row (8 : Nat) = AV.row (8 : Nat) ∧ AV.d (D.val (Value.int IntKind.i64 (↑(List.replicate n.toNat (0 : Int)).length : Int))) = AV.d (D.val (Value.int IntKind.i64 (↑(List.replicate n.toNat (0 : Int)).length : Int))) ∧ AV.d (D.val (Value.int IntKind.i64 (0 : Int))) = AV.d (D.val (Value.int IntKind.i64 (0 : Int))) ∧ True) ∧
 (some (Blk.row (3 : TypeId) (D.ints IntKind.i64 (List.replicate n.toNat (0 : Int)))) = some (Blk.row (3 : TypeId) (D.ints IntKind.i64 (nB (2 : Nat) (0 : Nat) (vB (65536 : Nat) l) ++ List.replicate (n - (0 : Int)).toNat (0 : Int)))) ∧ True) ∧ true = true) ∧
 (0 : Int) ≤ (0 : Int) ∧ (0 : Int) ≤ n) ∧
 ∀ (x : Int),
 (0 : Int) ≤ x ∧ x ≤ n →
 true = true ∧
 True ∧
 match decide (x < (↑(List.replicate n.toNat (0 : Int)).length : Int)) with
 | true =>
  True ∧
  True ∧
  True ∧
  True ∧
  True ∧
  True ∧
  (16 : Int) ≠ (0 : Int) ∧
  (∃ (l_1 : List Int), ∃ (i : Int), [D.ints IntKind.i64 l, D.val (Value.int IntKind.i64 (IntKind.i64.wrap (x.tdiv (16 : Int))))] = [D.ints IntKind.i64 l_1, D.val (Value.int IntKind.i64 i)] ∧ lenOk l_1) ∧
  True ∧
  (16 : Int) ≠ (0 : Int) ∧
  (0 : Int) ≤ x.tmod (16 : Int) ∧
  True ∧
  ((0 : Int) ≤ x ∧ x < (↑(nB (2 : Nat) x.toNat (vB (65536 : Nat) l) ++ List.replicate (n - x).toNat (0 : Int)).length : Int) ∧ (1 : Nat) = (1 : Nat)) ∧
  (x.toNat < (nB (2 : Nat) x.toNat (vB (65536 : Nat) l) ++ List.replicate (n - x).toNat (0 : Int)).length ∧ IntKind.i64 = IntKind.i64 ∧ (1 : Nat) = (1 : Nat)) ∧
  True ∧
  True ∧
  ((AV.d (D.ints IntKind.i64 l) = AV.d (D.ints IntKind.i64 l) ∧
  AV.d (D.val (Value.int IntKind.i64 n)) = AV.d (D.val (Value.int IntKind.i64 n)) ∧
  AV.d (D.val (Value.slice none (0 : Nat) (0 : Nat))) = AV.d (D.val (Value.slice none (0 : Nat) (0 : Nat))) ∧
  AV.row (8 : Nat) = AV.row (8 : Nat) ∧
  AV.d (D.val (Value.int IntKind.i64 n)) = AV.d (D.val (Value.int IntKind.i64 n)) ∧
  AV.row (8 : Nat) = AV.row (8 : Nat) ∧
  AV.row (8 : Nat) = AV.row (8 : Nat) ∧
  AV.d (D.val (Value.int IntKind.i64 (↑(List.replicate n.toNat (0 : Int)).length : Int))) = AV.d (D.val (Value.int IntKind.i64 (↑(List.replicate n.toNat (0 : Int)).length : Int))) ∧
  AV.d (D.val (Value.int IntKind.i64 (IntKind.i64.wrap (x + (1 : Int))))) = AV.d (D.val (Value.int IntKind.i64 (IntKind.i64.wrap (x + (1 : Int))))) ∧ True) ∧
  (some (Blk.row (3 : TypeId) (D.ints IntKind.i64 ((nB (2 : Nat) x.toNat (vB (65536 : Nat) l) ++ List.replicate (n - x).toNat (0 : Int)).set x.toNat (iand IntKind.i64 (ishr IntKind.i64 (dig l (IntKind.i64.wrap (x.tdiv (16 : Int)))) (x.tmod (16 : Int))) (1 : Int))))) =
  some (Blk.row (3 : TypeId) (D.ints IntKind.i64 (nB (2 : Nat) (IntKind.i64.wrap (x + (1 : Int))).toNat (vB (65536 : Nat) l) ++ List.replicate (n - IntKind.i64.wrap (x + (1 : Int))).toNat (0 : Int)))) ∧
  True) ∧
  true = true) ∧
  ((0 : Int) ≤ IntKind.i64.wrap (x + (1 : Int)) ∧ IntKind.i64.wrap (x + (1 : Int)) ≤ n) ∧ (n - IntKind.i64.wrap (x + (1 : Int))).toNat < (n - x).toNat
 | false => True ∧ True ∧ True ∧ (3 : TypeId) = (3 : TypeId) ∧ True ∧ D.tup [D.ints IntKind.i64 (nB (2 : Nat) x.toNat (vB (65536 : Nat) l) ++ List.replicate (n - x).toNat (0 : Int))] = F) := by kernel_rfl
set_option maxRecDepth 100000 in
theorem vc122  (l : List Int) (F : D)  :
    (owed c122 (inv122 l) Try.f122 [num4 l] F) = (
 (True ∧ false = false) ∧
 (True ∧ (32 : Nat) ≠ (0 : Nat)) ∧
 (True ∧ (32 : Nat) ≠ (0 : Nat)) ∧
 ((4 : Nat) ≠ (0 : Nat) ∧ (4 : Nat) = (4 : Nat) ∧ true = true) ∧
 (∃ (l_1 : List Int), [D.arr IntKind.u64 (4 : Nat) l] = [D.arr IntKind.u64 (4 : Nat) l_1] ∧ okw l_1 ∧ l_1.length = (4 : Nat)) ∧
 (∃ (l_1 : List Int), ∃ (n : Int), [D.ints IntKind.i64 (dg (vB (18446744073709551616 : Nat) l)), D.val (Value.int IntKind.i64 (256 : Int))] = [D.ints IntKind.i64 l_1, D.val (Value.int IntKind.i64 n)] ∧ okd l_1 ∧ lenOk l_1 ∧ (0 : Int) ≤ n ∧ n ≤ (16777216 : Int)) ∧
 True ∧
 True ∧
 (((AV.d (D.val (Value.int IntKind.i64 (0 : Int))) = AV.d (D.val (Value.int IntKind.i64 (↑(Int.toNat (0 : Int)) : Int))) ∧ True) ∧
 (some (Blk.fix (D.arr IntKind.u64 (4 : Nat) l)) = some (Blk.fix (D.arr IntKind.u64 (4 : Nat) l)) ∧
 some
 (Blk.fix
 (D.arr IntKind.u8 (32 : Nat)
 [(0 : Int), (0 : Int), (0 : Int), (0 : Int), (0 : Int), (0 : Int), (0 : Int), (0 : Int), (0 : Int), (0 : Int), (0 : Int), (0 : Int), (0 : Int), (0 : Int), (0 : Int), (0 : Int), (0 : Int), (0 : Int), (0 : Int), (0 : Int), (0 : Int), (0 : Int), (0 : Int), (0 : Int), (0 : Int), (0 : Int), (0 : Int), (0 : Int), (0 : Int), (0 : Int), (0 : Int), (0 : Int)])) =
 some
 (Blk.fix
 (D.arr IntKind.u8 (32 : Nat)
 [(0 : Int), (0 : Int), (0 : Int), (0 : Int), (0 : Int), (0 : Int), (0 : Int), (0 : Int), (0 : Int), (0 : Int), (0 : Int), (0 : Int), (0 : Int), (0 : Int), (0 : Int), (0 : Int), (0 : Int), (0 : Int), (0 : Int), (0 : Int), (0 : Int), (0 : Int), (0 : Int), (0 : Int), (0 : Int), (0 : Int), (0 : Int), (0 : Int), (0 : Int), (0 : Int), (0 : Int), (0 : Int)])) ∧
 some
 (Blk.fix
 (D.arr IntKind.u8 (32 : Nat)
 [(0 : Int), (0 : Int), (0 : Int), (0 : Int), (0 : Int), (0 : Int), (0 : Int), (0 : Int), (0 : Int), (0 : Int), (0 : Int), (0 : Int), (0 : Int), (0 : Int), (0 : Int), (0 : Int), (0 : Int), (0 : Int), (0 : Int), (0 : Int), (0 : Int), (0 : Int), (0 : Int), (0 : Int), (0 : Int), (0 : Int), (0 : Int), (0 : Int), (0 : Int), (0 : Int), (0 : Int), (0 : Int)])) =
 some (Blk.fix (D.arr IntKind.u8 (32 : Nat) (nB (256 : Nat) (32 : Nat) (vB (18446744073709551616 : Nat) l % (1 : Nat))))) ∧
 True) ∧
 true = true) ∧
 Int.toNat (0 : Int) ≤ (256 : Nat)) ∧
 ∀ (x : Nat),
 x ≤ (256 : Nat) →
 true = true ∧
 True ∧
 match decide ((↑x : Int) < (↑(nB (2 : Nat) (256 : Nat) (vB (65536 : Nat) (dg (vB (18446744073709551616 : Nat) l)))).length : Int)) with
 | true =>
  True ∧
  ((0 : Int) ≤ (↑x : Int) ∧ (↑x : Int) < (↑(nB (2 : Nat) (256 : Nat) (vB (65536 : Nat) (dg (vB (18446744073709551616 : Nat) l)))).length : Int) ∧ (1 : Nat) = (1 : Nat)) ∧
  ((1 : Nat) ≠ (0 : Nat) ∧ (1 : Nat) = (1 : Nat) ∧ false = false) ∧
  True ∧
  True ∧
  True ∧
  (8 : Int) ≠ (0 : Int) ∧
  ((0 : Int) ≤ IntKind.i64.wrap ((↑x : Int).tdiv (8 : Int)) ∧ IntKind.i64.wrap ((↑x : Int).tdiv (8 : Int)) < (↑(32 : Nat) : Int) ∧ (32 : Nat) = (32 : Nat) ∧ (1 : Nat) = (1 : Nat)) ∧
  ((1 : Nat) ≠ (0 : Nat) ∧ (1 : Nat) = (1 : Nat) ∧ false = false) ∧
  True ∧
  True ∧
  (8 : Int) ≠ (0 : Int) ∧
  (0 : Int) ≤ (↑x : Int).tmod (8 : Int) ∧
  True ∧
  True ∧
  ((0 : Int) ≤ IntKind.i64.wrap ((↑x : Int).tdiv (8 : Int)) ∧ IntKind.i64.wrap ((↑x : Int).tdiv (8 : Int)) < (↑(32 : Nat) : Int) ∧ (32 : Nat) = (32 : Nat) ∧ (1 : Nat) = (1 : Nat)) ∧
  (((IntKind.i64.wrap ((↑x : Int).tdiv (8 : Int))).toNat < (32 : Nat) ∧ ([] : List Nat) = [] ∧ true = true) ∧ (1 : Nat) ≠ (0 : Nat) ∧ (1 : Nat) = (1 : Nat) ∧ false = false) ∧
  True ∧
  True ∧
  ((AV.d (D.val (Value.int IntKind.i64 (IntKind.i64.wrap ((↑x : Int) + (1 : Int))))) = AV.d (D.val (Value.int IntKind.i64 (↑(IntKind.i64.wrap ((↑x : Int) + (1 : Int))).toNat : Int))) ∧ True) ∧
  (some (Blk.fix (D.arr IntKind.u64 (4 : Nat) l)) = some (Blk.fix (D.arr IntKind.u64 (4 : Nat) l)) ∧
  some
  (Blk.fix
  (D.arr IntKind.u8 (32 : Nat)
  [(0 : Int), (0 : Int), (0 : Int), (0 : Int), (0 : Int), (0 : Int), (0 : Int), (0 : Int), (0 : Int), (0 : Int), (0 : Int), (0 : Int), (0 : Int), (0 : Int), (0 : Int), (0 : Int), (0 : Int), (0 : Int), (0 : Int), (0 : Int), (0 : Int), (0 : Int), (0 : Int), (0 : Int), (0 : Int), (0 : Int), (0 : Int), (0 : Int),
  (0 : Int), (0 : Int), (0 : Int), (0 : Int)])) =
  some
  (Blk.fix
  (D.arr IntKind.u8 (32 : Nat)
  [(0 : Int), (0 : Int), (0 : Int), (0 : Int), (0 : Int), (0 : Int), (0 : Int), (0 : Int), (0 : Int), (0 : Int), (0 : Int), (0 : Int), (0 : Int), (0 : Int), (0 : Int), (0 : Int), (0 : Int), (0 : Int), (0 : Int), (0 : Int), (0 : Int), (0 : Int), (0 : Int), (0 : Int), (0 : Int), (0 : Int), (0 : Int), (0 : Int),
  (0 : Int), (0 : Int), (0 : Int), (0 : Int)])) ∧
  some
  (Blk.fix
  (D.arr IntKind.u8 (32 : Nat)
  ((nB (256 : Nat) (32 : Nat) (vB (18446744073709551616 : Nat) l % (2 : Nat) ^ x)).set (IntKind.i64.wrap ((↑x : Int).tdiv (8 : Int))).toNat
  (IntKind.u8.wrap
  ((nB (256 : Nat) (32 : Nat) (vB (18446744073709551616 : Nat) l % (2 : Nat) ^ x)).getD (IntKind.i64.wrap ((↑x : Int).tdiv (8 : Int))).toNat (0 : Int) +
  IntKind.u8.wrap (ishl IntKind.i64 ((nB (2 : Nat) (256 : Nat) (vB (65536 : Nat) (dg (vB (18446744073709551616 : Nat) l)))).getD (↑x : Int).toNat (0 : Int)) ((↑x : Int).tmod (8 : Int)))))))) =
  some (Blk.fix (D.arr IntKind.u8 (32 : Nat) (nB (256 : Nat) (32 : Nat) (vB (18446744073709551616 : Nat) l % (2 : Nat) ^ (IntKind.i64.wrap ((↑x : Int) + (1 : Int))).toNat)))) ∧
  True) ∧
  true = true) ∧
  (IntKind.i64.wrap ((↑x : Int) + (1 : Int))).toNat ≤ (256 : Nat) ∧ (256 : Nat) - (IntKind.i64.wrap ((↑x : Int) + (1 : Int))).toNat < (256 : Nat) - x
 | false =>
  ((32 : Nat) ≠ (0 : Nat) ∧ (32 : Nat) = (32 : Nat) ∧ true = true) ∧ (Sk.arr (32 : Nat) = Sk.arr (32 : Nat) ∧ (32 : Nat) ≠ (0 : Nat) ∧ (32 : Nat) = (32 : Nat) ∧ false = false) ∧ (((32 : Nat) ≠ (0 : Nat) ∧ (32 : Nat) = (32 : Nat) ∧ true = true) ∧ True) ∧ D.arr IntKind.u8 (32 : Nat) (nB (256 : Nat) (32 : Nat) (vB (18446744073709551616 : Nat) l % (2 : Nat) ^ x)) = F) := by kernel_rfl
set_option maxRecDepth 100000 in
theorem vc58  (l : List Int) (F : D)  :
    (owed c58 (fun _ => none) Try.f58 [b32 l] F) = (
 (True ∧ false = false) ∧
 (True ∧ (4 : Nat) ≠ (0 : Nat)) ∧
 ((0 : Int) ≤ (0 : Int) ∧ (0 : Int) < (↑(32 : Nat) : Int) ∧ (32 : Nat) = (32 : Nat) ∧ (1 : Nat) = (1 : Nat)) ∧
 ((1 : Nat) ≠ (0 : Nat) ∧ (1 : Nat) = (1 : Nat) ∧ false = false) ∧
 True ∧
 ((0 : Int) ≤ (0 : Int) ∧ (0 : Int) < (↑(32 : Nat) : Int) ∧ (32 : Nat) = (32 : Nat) ∧ (1 : Nat) = (1 : Nat)) ∧
 (((0 : Nat) < (32 : Nat) ∧ ([] : List Nat) = [] ∧ true = true) ∧ (1 : Nat) ≠ (0 : Nat) ∧ (1 : Nat) = (1 : Nat) ∧ false = false) ∧
 ((0 : Int) ≤ (31 : Int) ∧ (31 : Int) < (↑(32 : Nat) : Int) ∧ (32 : Nat) = (32 : Nat) ∧ (1 : Nat) = (1 : Nat)) ∧
 ((1 : Nat) ≠ (0 : Nat) ∧ (1 : Nat) = (1 : Nat) ∧ false = false) ∧
 True ∧
 True ∧
 ((0 : Int) ≤ (31 : Int) ∧ (31 : Int) < (↑(32 : Nat) : Int) ∧ (32 : Nat) = (32 : Nat) ∧ (1 : Nat) = (1 : Nat)) ∧
 (((31 : Nat) < (32 : Nat) ∧ ([] : List Nat) = [] ∧ true = true) ∧ (1 : Nat) ≠ (0 : Nat) ∧ (1 : Nat) = (1 : Nat) ∧ false = false) ∧
 ((32 : Nat) ≠ (0 : Nat) ∧ (32 : Nat) = (32 : Nat) ∧ true = true) ∧
 (∃ (l_1 : List Int),
 [D.arr IntKind.u8 (32 : Nat) ((l.set (0 : Nat) (iandn IntKind.u8 (l.getD (0 : Nat) (0 : Int)) (7 : Int))).set (31 : Nat) (ior IntKind.u8 (iand IntKind.u8 ((l.set (0 : Nat) (iandn IntKind.u8 (l.getD (0 : Nat) (0 : Int)) (7 : Int))).getD (31 : Nat) (0 : Int)) (127 : Int)) (64 : Int)))] = [D.arr IntKind.u8 (32 : Nat) l_1] ∧ okb l_1 ∧ l_1.length = (32 : Nat)) ∧
 (Sk.arr (4 : Nat) = Sk.arr (4 : Nat) ∧ (4 : Nat) ≠ (0 : Nat) ∧ (4 : Nat) = (4 : Nat) ∧ false = false) ∧
 (((4 : Nat) ≠ (0 : Nat) ∧ (4 : Nat) = (4 : Nat) ∧ true = true) ∧ True) ∧
 D.arr IntKind.u64 (4 : Nat) (nB (18446744073709551616 : Nat) (4 : Nat) (vB (256 : Nat) ((l.set (0 : Nat) (iandn IntKind.u8 (l.getD (0 : Nat) (0 : Int)) (7 : Int))).set (31 : Nat) (ior IntKind.u8 (iand IntKind.u8 ((l.set (0 : Nat) (iandn IntKind.u8 (l.getD (0 : Nat) (0 : Int)) (7 : Int))).getD (31 : Nat) (0 : Int)) (127 : Int)) (64 : Int))))) = F) := by kernel_rfl
set_option maxRecDepth 100000 in
theorem vc59  (l : List Int) (F : D)  :
    (owed c59 (fun _ => none) Try.f59 [b32 l] F) = (
 (True ∧ false = false) ∧
 (True ∧ (4 : Nat) ≠ (0 : Nat)) ∧
 ((0 : Int) ≤ (0 : Int) ∧ (0 : Int) ≤ (↑(32 : Nat) : Int) ∧ (↑(32 : Nat) : Int) ≤ (↑(32 : Nat) : Int) ∧ (32 : Nat) = (32 : Nat) ∧ (1 : Nat) = (1 : Nat)) ∧
 (∃ (l_1 : List Int), [D.ints IntKind.u8 (List.take ((↑(32 : Nat) : Int).toNat - (0 : Nat)) (List.drop (0 : Nat) l))] = [D.ints IntKind.u8 l_1] ∧ okb l_1 ∧ l_1.length ≤ (32 : Nat)) ∧
 (∃ (l_1 : List Int), ∃ (n : Int), [D.ints IntKind.i64 (dg (vB (256 : Nat) (List.take ((↑(32 : Nat) : Int).toNat - (0 : Nat)) (List.drop (0 : Nat) l)))), D.val (Value.int IntKind.i64 (256 : Int))] = [D.ints IntKind.i64 l_1, D.val (Value.int IntKind.i64 n)] ∧ okd l_1 ∧ lenOk l_1 ∧ (0 : Int) ≤ n ∧ n ≤ (16777216 : Int)) ∧
 True ∧
 True ∧
 True ∧
 True ∧
 True ∧
 True ∧
 ((0 : Int) ≤ (0 : Int) ∧ (0 : Int) < (↑(bts (256 : Nat) (vB (65536 : Nat) (dg (vB (256 : Nat) (List.take ((↑(32 : Nat) : Int).toNat - (0 : Nat)) (List.drop (0 : Nat) l)))))).length : Int) ∧ (1 : Nat) = (1 : Nat)) ∧
 ((0 : Nat) < (bts (256 : Nat) (vB (65536 : Nat) (dg (vB (256 : Nat) (List.take ((↑(32 : Nat) : Int).toNat - (0 : Nat)) (List.drop (0 : Nat) l)))))).length ∧ IntKind.i64 = IntKind.i64 ∧ (1 : Nat) = (1 : Nat)) ∧
 ((0 : Int) ≤ (1 : Int) ∧ (1 : Int) < (↑((bts (256 : Nat) (vB (65536 : Nat) (dg (vB (256 : Nat) (List.take ((↑(32 : Nat) : Int).toNat - (0 : Nat)) (List.drop (0 : Nat) l)))))).set (0 : Nat) (0 : Int)).length : Int) ∧ (1 : Nat) = (1 : Nat)) ∧
 ((1 : Nat) < ((bts (256 : Nat) (vB (65536 : Nat) (dg (vB (256 : Nat) (List.take ((↑(32 : Nat) : Int).toNat - (0 : Nat)) (List.drop (0 : Nat) l)))))).set (0 : Nat) (0 : Int)).length ∧ IntKind.i64 = IntKind.i64 ∧ (1 : Nat) = (1 : Nat)) ∧
 ((0 : Int) ≤ (2 : Int) ∧ (2 : Int) < (↑(((bts (256 : Nat) (vB (65536 : Nat) (dg (vB (256 : Nat) (List.take ((↑(32 : Nat) : Int).toNat - (0 : Nat)) (List.drop (0 : Nat) l)))))).set (0 : Nat) (0 : Int)).set (1 : Nat) (0 : Int)).length : Int) ∧ (1 : Nat) = (1 : Nat)) ∧
 ((2 : Nat) < (((bts (256 : Nat) (vB (65536 : Nat) (dg (vB (256 : Nat) (List.take ((↑(32 : Nat) : Int).toNat - (0 : Nat)) (List.drop (0 : Nat) l)))))).set (0 : Nat) (0 : Int)).set (1 : Nat) (0 : Int)).length ∧ IntKind.i64 = IntKind.i64 ∧ (1 : Nat) = (1 : Nat)) ∧
 ((0 : Int) ≤ (254 : Int) ∧ (254 : Int) < (↑((((bts (256 : Nat) (vB (65536 : Nat) (dg (vB (256 : Nat) (List.take ((↑(32 : Nat) : Int).toNat - (0 : Nat)) (List.drop (0 : Nat) l)))))).set (0 : Nat) (0 : Int)).set (1 : Nat) (0 : Int)).set (2 : Nat) (0 : Int)).length : Int) ∧ (1 : Nat) = (1 : Nat)) ∧
 ((254 : Nat) < ((((bts (256 : Nat) (vB (65536 : Nat) (dg (vB (256 : Nat) (List.take ((↑(32 : Nat) : Int).toNat - (0 : Nat)) (List.drop (0 : Nat) l)))))).set (0 : Nat) (0 : Int)).set (1 : Nat) (0 : Int)).set (2 : Nat) (0 : Int)).length ∧ IntKind.i64 = IntKind.i64 ∧ (1 : Nat) = (1 : Nat)) ∧
 ((0 : Int) ≤ (255 : Int) ∧ (255 : Int) < (↑(((((bts (256 : Nat) (vB (65536 : Nat) (dg (vB (256 : Nat) (List.take ((↑(32 : Nat) : Int).toNat - (0 : Nat)) (List.drop (0 : Nat) l)))))).set (0 : Nat) (0 : Int)).set (1 : Nat) (0 : Int)).set (2 : Nat) (0 : Int)).set (254 : Nat) (1 : Int)).length : Int) ∧ (1 : Nat) = (1 : Nat)) ∧
 ((255 : Nat) < (((((bts (256 : Nat) (vB (65536 : Nat) (dg (vB (256 : Nat) (List.take ((↑(32 : Nat) : Int).toNat - (0 : Nat)) (List.drop (0 : Nat) l)))))).set (0 : Nat) (0 : Int)).set (1 : Nat) (0 : Int)).set (2 : Nat) (0 : Int)).set (254 : Nat) (1 : Int)).length ∧ IntKind.i64 = IntKind.i64 ∧ (1 : Nat) = (1 : Nat)) ∧
 True ∧
 (∃ (l_1 : List Int), [D.ints IntKind.i64 ((((((bts (256 : Nat) (vB (65536 : Nat) (dg (vB (256 : Nat) (List.take ((↑(32 : Nat) : Int).toNat - (0 : Nat)) (List.drop (0 : Nat) l)))))).set (0 : Nat) (0 : Int)).set (1 : Nat) (0 : Int)).set (2 : Nat) (0 : Int)).set (254 : Nat) (1 : Int)).set (255 : Nat) (0 : Int))] = [D.ints IntKind.i64 l_1] ∧ isBits l_1) ∧
 (∃ (l_1 : List Int),
 [D.ints IntKind.i64 (dg (vB (2 : Nat) ((((((bts (256 : Nat) (vB (65536 : Nat) (dg (vB (256 : Nat) (List.take ((↑(32 : Nat) : Int).toNat - (0 : Nat)) (List.drop (0 : Nat) l)))))).set (0 : Nat) (0 : Int)).set (1 : Nat) (0 : Int)).set (2 : Nat) (0 : Int)).set (254 : Nat) (1 : Int)).set (255 : Nat) (0 : Int))))] = [D.ints IntKind.i64 l_1] ∧
 okd l_1 ∧ lenOk l_1) ∧
 (Sk.arr (4 : Nat) = Sk.arr (4 : Nat) ∧ (4 : Nat) ≠ (0 : Nat) ∧ (4 : Nat) = (4 : Nat) ∧ false = false) ∧
 (((4 : Nat) ≠ (0 : Nat) ∧ (4 : Nat) = (4 : Nat) ∧ true = true) ∧ True) ∧
 D.arr IntKind.u64 (4 : Nat)
 (nB (18446744073709551616 : Nat) (4 : Nat)
 (vB (65536 : Nat) (dg (vB (2 : Nat) ((((((bts (256 : Nat) (vB (65536 : Nat) (dg (vB (256 : Nat) (List.take ((↑(32 : Nat) : Int).toNat - (0 : Nat)) (List.drop (0 : Nat) l)))))).set (0 : Nat) (0 : Int)).set (1 : Nat) (0 : Int)).set (2 : Nat) (0 : Int)).set (254 : Nat) (1 : Int)).set (255 : Nat) (0 : Int)))))) =
 F) := by kernel_rfl
set_option maxRecDepth 100000 in
theorem vc60  (l : List Int) (F : D)  :
    (owed c60 (fun _ => none) Try.f60 [b32 l] F) = (
 (True ∧ false = false) ∧
 (True ∧ (32 : Nat) ≠ (0 : Nat)) ∧
 ((32 : Nat) ≠ (0 : Nat) ∧ (32 : Nat) = (32 : Nat) ∧ true = true) ∧
 (∃ (l_1 : List Int), [D.arr IntKind.u8 (32 : Nat) l] = [D.arr IntKind.u8 (32 : Nat) l_1] ∧ isK l_1) ∧
 ((1 : Nat) = (1 : Nat) ∧ false = false ∧ ((0 : Nat) < (4 : Nat) ∧ ([] : List Nat) = [] ∧ true = true) ∧ True) ∧
 (∃ (l_1 : List Int), ∃ (m : List Int), [D.arr IntKind.u64 (4 : Nat) (nB (18446744073709551616 : Nat) (4 : Nat) (clN (vB (256 : Nat) l))), D.arr IntKind.u64 (4 : Nat) [(9 : Int), (0 : Int), (0 : Int), (0 : Int)]] = [D.arr IntKind.u64 (4 : Nat) l_1, D.arr IntKind.u64 (4 : Nat) m] ∧ isN l_1 ∧ isN m) ∧
 (∃ (l_1 : List Int), [D.arr IntKind.u64 (4 : Nat) (nB (18446744073709551616 : Nat) (4 : Nat) (ladMo (vB (18446744073709551616 : Nat) (nB (18446744073709551616 : Nat) (4 : Nat) (clN (vB (256 : Nat) l)))) (vB (18446744073709551616 : Nat) [(9 : Int), (0 : Int), (0 : Int), (0 : Int)])))] = [D.arr IntKind.u64 (4 : Nat) l_1] ∧ okw l_1 ∧ l_1.length = (4 : Nat)) ∧
 (Sk.arr (32 : Nat) = Sk.arr (32 : Nat) ∧ (32 : Nat) ≠ (0 : Nat) ∧ (32 : Nat) = (32 : Nat) ∧ false = false) ∧
 (((32 : Nat) ≠ (0 : Nat) ∧ (32 : Nat) = (32 : Nat) ∧ true = true) ∧ True) ∧
 D.arr IntKind.u8 (32 : Nat) (nB (256 : Nat) (32 : Nat) (vB (18446744073709551616 : Nat) (nB (18446744073709551616 : Nat) (4 : Nat) (ladMo (vB (18446744073709551616 : Nat) (nB (18446744073709551616 : Nat) (4 : Nat) (clN (vB (256 : Nat) l)))) (vB (18446744073709551616 : Nat) [(9 : Int), (0 : Int), (0 : Int), (0 : Int)]))))) = F) := by kernel_rfl
set_option maxRecDepth 100000 in
theorem vc61  (l : List Int) (F : D)  :
    (owed c61 (fun _ => none) Try.f61 [b32 l] F) = (
 (True ∧ false = false) ∧
 (True ∧ (32 : Nat) ≠ (0 : Nat)) ∧
 ((32 : Nat) ≠ (0 : Nat) ∧ (32 : Nat) = (32 : Nat) ∧ true = true) ∧
 (∃ (l_1 : List Int), [D.arr IntKind.u8 (32 : Nat) l] = [D.arr IntKind.u8 (32 : Nat) l_1] ∧ isK l_1) ∧
 ((1 : Nat) = (1 : Nat) ∧ false = false ∧ ((0 : Nat) < (4 : Nat) ∧ ([] : List Nat) = [] ∧ true = true) ∧ True) ∧
 (∃ (l_1 : List Int), ∃ (m : List Int), [D.arr IntKind.u64 (4 : Nat) (nB (18446744073709551616 : Nat) (4 : Nat) (clN (vB (256 : Nat) l))), D.arr IntKind.u64 (4 : Nat) [(9 : Int), (0 : Int), (0 : Int), (0 : Int)]] = [D.arr IntKind.u64 (4 : Nat) l_1, D.arr IntKind.u64 (4 : Nat) m] ∧ isN l_1 ∧ isN m) ∧
 (∃ (l_1 : List Int), [D.arr IntKind.u64 (4 : Nat) (nB (18446744073709551616 : Nat) (4 : Nat) (ladRo (vB (18446744073709551616 : Nat) (nB (18446744073709551616 : Nat) (4 : Nat) (clN (vB (256 : Nat) l)))) (vB (18446744073709551616 : Nat) [(9 : Int), (0 : Int), (0 : Int), (0 : Int)])))] = [D.arr IntKind.u64 (4 : Nat) l_1] ∧ isN l_1) ∧
 (Sk.arr (32 : Nat) = Sk.arr (32 : Nat) ∧ (32 : Nat) ≠ (0 : Nat) ∧ (32 : Nat) = (32 : Nat) ∧ false = false) ∧
 (((32 : Nat) ≠ (0 : Nat) ∧ (32 : Nat) = (32 : Nat) ∧ true = true) ∧ True) ∧
 D.arr IntKind.u8 (32 : Nat) (nB (256 : Nat) (32 : Nat) (vB (18446744073709551616 : Nat) (nB (18446744073709551616 : Nat) (4 : Nat) (ladRo (vB (18446744073709551616 : Nat) (nB (18446744073709551616 : Nat) (4 : Nat) (clN (vB (256 : Nat) l)))) (vB (18446744073709551616 : Nat) [(9 : Int), (0 : Int), (0 : Int), (0 : Int)]))))) = F) := by kernel_rfl
set_option maxRecDepth 100000 in
theorem vc56  (l m : List Int) (F : D)  :
    (owed c56 (fun _ => none) Try.f56 [b32 l, b32 m] F) = (
 (True ∧ false = false) ∧
 (True ∧ false = false) ∧
 (True ∧ (32 : Nat) ≠ (0 : Nat)) ∧
 True ∧
 ((0 : Int) ≤ (31 : Int) ∧ (31 : Int) < (↑(32 : Nat) : Int) ∧ (32 : Nat) = (32 : Nat) ∧ (1 : Nat) = (1 : Nat)) ∧
 ((1 : Nat) ≠ (0 : Nat) ∧ (1 : Nat) = (1 : Nat) ∧ false = false) ∧
 True ∧
 ((0 : Int) ≤ (31 : Int) ∧ (31 : Int) < (↑(32 : Nat) : Int) ∧ (32 : Nat) = (32 : Nat) ∧ (1 : Nat) = (1 : Nat)) ∧
 (((31 : Nat) < (32 : Nat) ∧ ([] : List Nat) = [] ∧ true = true) ∧ (1 : Nat) ≠ (0 : Nat) ∧ (1 : Nat) = (1 : Nat) ∧ false = false) ∧
 ((32 : Nat) ≠ (0 : Nat) ∧ (32 : Nat) = (32 : Nat) ∧ true = true) ∧
 (∃ (l_1 : List Int), [D.arr IntKind.u8 (32 : Nat) l] = [D.arr IntKind.u8 (32 : Nat) l_1] ∧ isK l_1) ∧
 ((32 : Nat) ≠ (0 : Nat) ∧ (32 : Nat) = (32 : Nat) ∧ true = true) ∧
 (∃ (l : List Int), [D.arr IntKind.u8 (32 : Nat) (m.set (31 : Nat) (iand IntKind.u8 (m.getD (31 : Nat) (0 : Int)) (127 : Int)))] = [D.arr IntKind.u8 (32 : Nat) l] ∧ okb l ∧ l.length = (32 : Nat)) ∧
 (∃ (l_1 : List Int),
 ∃ (m_1 : List Int),
 [D.arr IntKind.u64 (4 : Nat) (nB (18446744073709551616 : Nat) (4 : Nat) (clN (vB (256 : Nat) l))), D.arr IntKind.u64 (4 : Nat) (nB (18446744073709551616 : Nat) (4 : Nat) (vB (256 : Nat) (m.set (31 : Nat) (iand IntKind.u8 (m.getD (31 : Nat) (0 : Int)) (127 : Int)))))] = [D.arr IntKind.u64 (4 : Nat) l_1, D.arr IntKind.u64 (4 : Nat) m_1] ∧ isN l_1 ∧ isN m_1) ∧
 (True ∧ (4 : Nat) ≠ (0 : Nat)) ∧
 (Sk.arr (4 : Nat) = Sk.arr (4 : Nat) ∧ (4 : Nat) ≠ (0 : Nat) ∧ (4 : Nat) = (4 : Nat) ∧ false = false) ∧
 ((4 : Nat) ≠ (0 : Nat) ∧ (4 : Nat) = (4 : Nat) ∧ true = true) ∧
 ((1 : Nat) = (1 : Nat) ∧ True) ∧
 (IntKind.u64 = IntKind.u64 ∧ IntKind.u64 = IntKind.u64 ∧ (4 : Nat) = (4 : Nat) ∧ (4 : Nat) = (4 : Nat) ∧ (1 : Nat) = (1 : Nat)) ∧
 match
 eqB (nB (18446744073709551616 : Nat) (4 : Nat) (ladMo (vB (18446744073709551616 : Nat) (nB (18446744073709551616 : Nat) (4 : Nat) (clN (vB (256 : Nat) l)))) (vB (18446744073709551616 : Nat) (nB (18446744073709551616 : Nat) (4 : Nat) (vB (256 : Nat) (m.set (31 : Nat) (iand IntKind.u8 (m.getD (31 : Nat) (0 : Int)) (127 : Int))))))))
 [(0 : Int), (0 : Int), (0 : Int), (0 : Int)] with
 | true =>
  ((1 : Nat) = (1 : Nat) ∧ True) ∧
  (Sk.arr (32 : Nat) = Sk.arr (32 : Nat) ∧ (32 : Nat) ≠ (0 : Nat) ∧ (32 : Nat) = (32 : Nat) ∧ false = false) ∧
  True ∧
  (((32 : Nat) ≠ (0 : Nat) ∧ (32 : Nat) = (32 : Nat) ∧ true = true) ∧ false = false ∧ True) ∧
  D.tup
  [D.arr IntKind.u8 (32 : Nat)
  [(0 : Int), (0 : Int), (0 : Int), (0 : Int), (0 : Int), (0 : Int), (0 : Int), (0 : Int), (0 : Int), (0 : Int), (0 : Int), (0 : Int), (0 : Int), (0 : Int), (0 : Int), (0 : Int), (0 : Int), (0 : Int), (0 : Int), (0 : Int), (0 : Int), (0 : Int), (0 : Int), (0 : Int), (0 : Int), (0 : Int), (0 : Int), (0 : Int), (0 : Int), (0 : Int), (0 : Int),
  (0 : Int)],
  D.val (Value.int IntKind.i64 (1 : Int))] =
  F
 | false =>
  ((4 : Nat) ≠ (0 : Nat) ∧ (4 : Nat) = (4 : Nat) ∧ true = true) ∧
  (∃ (l_1 : List Int),
  [D.arr IntKind.u64 (4 : Nat)
  (nB (18446744073709551616 : Nat) (4 : Nat) (ladMo (vB (18446744073709551616 : Nat) (nB (18446744073709551616 : Nat) (4 : Nat) (clN (vB (256 : Nat) l)))) (vB (18446744073709551616 : Nat) (nB (18446744073709551616 : Nat) (4 : Nat) (vB (256 : Nat) (m.set (31 : Nat) (iand IntKind.u8 (m.getD (31 : Nat) (0 : Int)) (127 : Int))))))))] =
  [D.arr IntKind.u64 (4 : Nat) l_1] ∧
  okw l_1 ∧ l_1.length = (4 : Nat)) ∧
  (Sk.arr (32 : Nat) = Sk.arr (32 : Nat) ∧ (32 : Nat) ≠ (0 : Nat) ∧ (32 : Nat) = (32 : Nat) ∧ false = false) ∧
  True ∧
  (((32 : Nat) ≠ (0 : Nat) ∧ (32 : Nat) = (32 : Nat) ∧ true = true) ∧ false = false ∧ True) ∧
  D.tup
  [D.arr IntKind.u8 (32 : Nat)
  (nB (256 : Nat) (32 : Nat)
  (vB (18446744073709551616 : Nat)
  (nB (18446744073709551616 : Nat) (4 : Nat) (ladMo (vB (18446744073709551616 : Nat) (nB (18446744073709551616 : Nat) (4 : Nat) (clN (vB (256 : Nat) l)))) (vB (18446744073709551616 : Nat) (nB (18446744073709551616 : Nat) (4 : Nat) (vB (256 : Nat) (m.set (31 : Nat) (iand IntKind.u8 (m.getD (31 : Nat) (0 : Int)) (127 : Int)))))))))),
  D.val (Value.int IntKind.i64 (0 : Int))] =
  F) := by kernel_rfl
set_option maxRecDepth 100000 in
theorem vc57  (l m : List Int) (F : D)  :
    (owed c57 (fun _ => none) Try.f57 [b32 l, b32 m] F) = (
 (True ∧ false = false) ∧
 (True ∧ false = false) ∧
 (True ∧ (32 : Nat) ≠ (0 : Nat)) ∧
 True ∧
 ((0 : Int) ≤ (0 : Int) ∧ (0 : Int) ≤ (↑(32 : Nat) : Int) ∧ (↑(32 : Nat) : Int) ≤ (↑(32 : Nat) : Int) ∧ (32 : Nat) = (32 : Nat) ∧ (1 : Nat) = (1 : Nat)) ∧
 (∃ (l : List Int), [D.ints IntKind.u8 (List.take ((↑(32 : Nat) : Int).toNat - (0 : Nat)) (List.drop (0 : Nat) m))] = [D.ints IntKind.u8 l] ∧ okb l ∧ l.length ≤ (32 : Nat)) ∧
 (∃ (n : Int), [D.val (Value.int IntKind.i64 (255 : Int))] = [D.val (Value.int IntKind.i64 n)] ∧ (0 : Int) ≤ n ∧ n ≤ (1048576 : Int)) ∧
 (∃ (l : List Int), ∃ (m_1 : List Int), [D.ints IntKind.i64 (dg (vB (256 : Nat) (List.take ((↑(32 : Nat) : Int).toNat - (0 : Nat)) (List.drop (0 : Nat) m)))), D.ints IntKind.i64 (dgP (255 : Nat))] = [D.ints IntKind.i64 l, D.ints IntKind.i64 m_1] ∧ (okd l ∧ len1 l) ∧ (okd m_1 ∧ len1 m_1) ∧ vB (65536 : Nat) m_1 ≠ (0 : Nat)) ∧
 True ∧
 ((32 : Nat) ≠ (0 : Nat) ∧ (32 : Nat) = (32 : Nat) ∧ true = true) ∧
 (∃ (l_1 : List Int), [D.arr IntKind.u8 (32 : Nat) l] = [D.arr IntKind.u8 (32 : Nat) l_1] ∧ isK l_1) ∧
 True ∧
 (∃ (l : List Int), [D.ints IntKind.i64 (dg (vB (65536 : Nat) (dg (vB (256 : Nat) (List.take ((↑(32 : Nat) : Int).toNat - (0 : Nat)) (List.drop (0 : Nat) m)))) % vB (65536 : Nat) (dgP (255 : Nat))))] = [D.ints IntKind.i64 l] ∧ okd l ∧ lenOk l) ∧
 (∃ (l_1 : List Int),
 ∃ (m_1 : List Int),
 [D.arr IntKind.u64 (4 : Nat) (nB (18446744073709551616 : Nat) (4 : Nat) (clN (vB (256 : Nat) l))), D.arr IntKind.u64 (4 : Nat) (nB (18446744073709551616 : Nat) (4 : Nat) (vB (65536 : Nat) (dg (vB (65536 : Nat) (dg (vB (256 : Nat) (List.take ((↑(32 : Nat) : Int).toNat - (0 : Nat)) (List.drop (0 : Nat) m)))) % vB (65536 : Nat) (dgP (255 : Nat))))))] =
 [D.arr IntKind.u64 (4 : Nat) l_1, D.arr IntKind.u64 (4 : Nat) m_1] ∧
 isN l_1 ∧ isN m_1) ∧
 (True ∧ (4 : Nat) ≠ (0 : Nat)) ∧
 (Sk.arr (4 : Nat) = Sk.arr (4 : Nat) ∧ (4 : Nat) ≠ (0 : Nat) ∧ (4 : Nat) = (4 : Nat) ∧ false = false) ∧
 ((4 : Nat) ≠ (0 : Nat) ∧ (4 : Nat) = (4 : Nat) ∧ true = true) ∧
 (∃ (l_1 : List Int),
 [D.arr IntKind.u64 (4 : Nat)
 (nB (18446744073709551616 : Nat) (4 : Nat)
 (ladRo (vB (18446744073709551616 : Nat) (nB (18446744073709551616 : Nat) (4 : Nat) (clN (vB (256 : Nat) l))))
 (vB (18446744073709551616 : Nat) (nB (18446744073709551616 : Nat) (4 : Nat) (vB (65536 : Nat) (dg (vB (65536 : Nat) (dg (vB (256 : Nat) (List.take ((↑(32 : Nat) : Int).toNat - (0 : Nat)) (List.drop (0 : Nat) m)))) % vB (65536 : Nat) (dgP (255 : Nat)))))))))] =
 [D.arr IntKind.u64 (4 : Nat) l_1] ∧
 okw l_1 ∧ l_1.length = (4 : Nat)) ∧
 True ∧
 True ∧
 match
 (↑(dg
 (vB (18446744073709551616 : Nat)
 (nB (18446744073709551616 : Nat) (4 : Nat)
 (ladRo (vB (18446744073709551616 : Nat) (nB (18446744073709551616 : Nat) (4 : Nat) (clN (vB (256 : Nat) l))))
 (vB (18446744073709551616 : Nat) (nB (18446744073709551616 : Nat) (4 : Nat) (vB (65536 : Nat) (dg (vB (65536 : Nat) (dg (vB (256 : Nat) (List.take ((↑(32 : Nat) : Int).toNat - (0 : Nat)) (List.drop (0 : Nat) m)))) % vB (65536 : Nat) (dgP (255 : Nat))))))))))).length :
 Int) ==
 (0 : Int) with
 | true =>
  ((1 : Nat) = (1 : Nat) ∧ True) ∧
  (Sk.arr (32 : Nat) = Sk.arr (32 : Nat) ∧ (32 : Nat) ≠ (0 : Nat) ∧ (32 : Nat) = (32 : Nat) ∧ false = false) ∧
  True ∧
  (((32 : Nat) ≠ (0 : Nat) ∧ (32 : Nat) = (32 : Nat) ∧ true = true) ∧ false = false ∧ True) ∧
  D.tup
  [D.arr IntKind.u8 (32 : Nat)
  [(0 : Int), (0 : Int), (0 : Int), (0 : Int), (0 : Int), (0 : Int), (0 : Int), (0 : Int), (0 : Int), (0 : Int), (0 : Int), (0 : Int), (0 : Int), (0 : Int), (0 : Int), (0 : Int), (0 : Int), (0 : Int), (0 : Int), (0 : Int), (0 : Int), (0 : Int), (0 : Int), (0 : Int), (0 : Int), (0 : Int), (0 : Int), (0 : Int), (0 : Int), (0 : Int),
  (0 : Int), (0 : Int)],
  D.val (Value.int IntKind.i64 (1 : Int))] =
  F
 | false =>
  ((4 : Nat) ≠ (0 : Nat) ∧ (4 : Nat) = (4 : Nat) ∧ true = true) ∧
  (∃ (l_1 : List Int),
  [D.arr IntKind.u64 (4 : Nat)
  (nB (18446744073709551616 : Nat) (4 : Nat)
  (ladRo (vB (18446744073709551616 : Nat) (nB (18446744073709551616 : Nat) (4 : Nat) (clN (vB (256 : Nat) l))))
  (vB (18446744073709551616 : Nat) (nB (18446744073709551616 : Nat) (4 : Nat) (vB (65536 : Nat) (dg (vB (65536 : Nat) (dg (vB (256 : Nat) (List.take ((↑(32 : Nat) : Int).toNat - (0 : Nat)) (List.drop (0 : Nat) m)))) % vB (65536 : Nat) (dgP (255 : Nat)))))))))] =
  [D.arr IntKind.u64 (4 : Nat) l_1] ∧
  isN l_1) ∧
  (Sk.arr (32 : Nat) = Sk.arr (32 : Nat) ∧ (32 : Nat) ≠ (0 : Nat) ∧ (32 : Nat) = (32 : Nat) ∧ false = false) ∧
  True ∧
  (((32 : Nat) ≠ (0 : Nat) ∧ (32 : Nat) = (32 : Nat) ∧ true = true) ∧ false = false ∧ True) ∧
  D.tup
  [D.arr IntKind.u8 (32 : Nat)
  (nB (256 : Nat) (32 : Nat)
  (vB (18446744073709551616 : Nat)
  (nB (18446744073709551616 : Nat) (4 : Nat)
  (ladRo (vB (18446744073709551616 : Nat) (nB (18446744073709551616 : Nat) (4 : Nat) (clN (vB (256 : Nat) l))))
  (vB (18446744073709551616 : Nat) (nB (18446744073709551616 : Nat) (4 : Nat) (vB (65536 : Nat) (dg (vB (65536 : Nat) (dg (vB (256 : Nat) (List.take ((↑(32 : Nat) : Int).toNat - (0 : Nat)) (List.drop (0 : Nat) m)))) % vB (65536 : Nat) (dgP (255 : Nat))))))))))),
  D.val (Value.int IntKind.i64 (0 : Int))] =
  F) := by kernel_rfl
end Go.Proofs.Ytnadggcfdakpoaa
namespace Go.Proofs.Ytnadggcfdakpoaa
open Go Go.Vg
theorem want_step {l : List Int} (x : Nat) (hx : x < 256) :
    (nB 256 32 (wv l % 2 ^ x)).set (x / 8) (IntKind.u8.wrap ((nB 256 32 (wv l % 2 ^ x)).getD (x / 8) 0 + IntKind.u8.wrap (ishl IntKind.i64 ((wv l / 2 ^ x % 2 : Nat) : Int) ((x % 8 : Nat) : Int)))) = nB 256 32 (wv l % 2 ^ (x + 1)) := by
  have hlt : wv l % 2 ^ x < 2 ^ x := Nat.mod_lt _ (Nat.pow_pos (by decide))
  have hb : wv l / 2 ^ x % 2 < 2 := Nat.mod_lt _ (by decide)
  obtain ⟨g1, g2, g3⟩ := nB_grow 2 8 32 (wv l % 2 ^ x) x (wv l / 2 ^ x % 2) (by decide) (by decide) hlt hb (by omega)
  rw [show (2 ^ 8 : Nat) = 256 by decide] at g1 g2 g3
  have e1 : wv l % 2 ^ (x + 1) = wv l % 2 ^ x + 2 ^ x * (wv l / 2 ^ x % 2) := by rw [Nat.pow_succ, Nat.mod_mul]
  rw [e1, g1, nB_get _ _ _ _ (by omega)]
  generalize wv l % 2 ^ x / 256 ^ (x / 8) % 256 = o at g2 g3 ⊢
  generalize wv l / 2 ^ x % 2 = b at hb g3 ⊢
  have g4 : 2 ^ (x % 8 + 1) ≤ 2 ^ 8 := Nat.pow_le_pow_right (by decide) (by omega)
  rw [show (2 ^ 8 : Nat) = 256 by decide] at g4
  have e2 : ishl IntKind.i64 (b : Int) ((x % 8 : Nat) : Int) = ((2 ^ (x % 8) * b : Nat) : Int) := by
    unfold ishl
    rw [Int.toNat_natCast, show min (x % 8) IntKind.i64.bits = x % 8 by simp only [IntKind.bits]; omega]
    have e3 : (b : Int) * 2 ^ (x % 8) = ((2 ^ (x % 8) * b : Nat) : Int) := by
      rw [Nat.mul_comm _ b]
      simp
    rw [e3]
    generalize 2 ^ (x % 8) * b = q at g3 ⊢
    exact wi (by omega) (by omega)
  rw [e2]
  generalize 2 ^ (x % 8) * b = q at g3 ⊢
  congr 1
  rw [w8, w8]
  omega
theorem bts_eq (n v : Nat) : bts n v = nB 2 n v := opq_eq _
theorem ladRo_eq (k u : Nat) : ladRo k u = ladR k u := opq_eq _
theorem ladMo_eq (k u : Nat) : ladMo k u = ladM k u := opq_eq _
theorem m52o : Meets Try.prog 52 sp52o := meets_same m52 (fun ds h => ⟨h, congrArg n4 (ladRo_eq _ _)⟩) (fun h => h)
theorem m51o : Meets Try.prog 51 sp51o := meets_same m51 (fun ds h => ⟨h, congrArg n4 (ladMo_eq _ _)⟩) (fun h => h)
theorem drop_lt {l : List Int} (h : okb l) (hl : l.length ≤ 32) (z : Nat) : vB 256 (l.drop z) < 65536 ^ 16 := by
  have h1 := vB_lt (b := 256) (l := l.drop z) fun y hy => h y (List.mem_of_mem_drop hy)
  have h2 : 256 ^ (l.drop z).length ≤ 256 ^ 32 := Nat.pow_le_pow_right (by decide) (by rw [List.length_drop]; omega)
  rw [show (65536 : Nat) ^ 16 = 256 ^ 32 by decide]
  omega
theorem okb_get {l : List Int} (h : okb l) {i : Nat} (hi : i < l.length) : ∃ n : Nat, l.getD i 0 = (n : Int) ∧ n < 256 := by
  have := h _ (getD_memN hi)
  exact ⟨(l.getD i 0).toNat, by omega, by omega⟩
set_option maxRecDepth 100000 in
theorem m121 : Meets Try.prog 121 sp121 := by
  refine meets_of_owed (C := c121) ⟨tab_ok, lkS_ok ⟨m64, m63, trivial⟩⟩ (by kernel_rfl) (by kernel_rfl : Try.prog.funcs[121]? = some Try.f121) (by kernel_rfl) (by kernel_rfl) (by kernel_rfl) _ ?_
  rintro _ ⟨l, rfl, hl, hll⟩
  refine ⟨(by intro h; cases h), inv121 l, ?_⟩
  show owed c121 (inv121 l) Try.f121 [.ints .u8 l] (dgs (dg (vB 256 l)))
  rw [vc121]
  simp (decide := true) only [eq_self, true_and, and_true, ne_eq, not_false_eq_true, Int.toNat_natCast]
  have e1 : IntKind.i64.wrap ((l.length : Int) - 1) = (l.length : Int) - 1 := wi (by omega) (by omega)
  have e2 : ((l.length : Int) - 1 + 1).toNat = l.length := by omega
  rw [e1, e2]
  refine ⟨?_, ?_⟩
  · rw [List.drop_length]
    and_intros <;> first | exact True.intro | rfl | exact Nat.le_refl _
  intro z hz
  split
  · rename_i h
    have h := of_decide_eq_true h
    obtain ⟨y, rfl⟩ : ∃ y, z = y + 1 := ⟨z - 1, by omega⟩
    have e3 : (((y + 1 : Nat) : Int) - 1) = (y : Int) := by omega
    have e4 : IntKind.i64.wrap ((y : Int) - 1) = (y : Int) - 1 := wi (by omega) (by omega)
    have e5 : ((y : Int) - 1 + 1).toNat = y := by omega
    obtain ⟨b, hb, hb2⟩ := okb_get hl (i := y) (by omega)
    have e6 : IntKind.i64.wrap (b : Int) = (b : Int) := wi (by omega) (by omega)
    have hd := vB_dropS 256 (l := l) y (by omega)
    have hlt := drop_lt hl hll (y + 1)
    have v1 : vB 65536 (dg (vB 256 (l.drop (y + 1)))) = vB 256 (l.drop (y + 1)) := vl_dg _
    have v2 : vB 65536 (dg (vB 256 (l.drop (y + 1)) * 256)) = vB 256 (l.drop (y + 1)) * 256 := vl_dg _
    rw [e3, e4, e5, Int.toNat_natCast, hb, e6, vD_one, vD_one, v1, Int.toNat_natCast, show Int.toNat 256 = 256 from rfl, v2]
    rw [hb, Int.toNat_natCast] at hd
    have e7 : vB 256 (l.drop (y + 1)) * 256 + b = vB 256 (l.drop y) := by omega
    rw [e7]
    have k1 := okLn (n := vB 256 (l.drop (y + 1))) (Nat.lt_trans hlt (by decide))
    have k2 := okLn (n := vB 256 (l.drop (y + 1)) * 256) (Nat.lt_trans (Nat.mul_lt_mul_of_pos_right hlt (by decide)) (by decide))
    have k3 := one_ok (x := 256) (by decide)
    have k4 := one_ok (x := (b : Int)) (by omega)
    and_intros <;> first | exact True.intro | exact ⟨_, _, rfl, ⟨k1.1, k1.2.1⟩, k3⟩ | exact ⟨_, _, rfl, ⟨k2.1, k2.2.1⟩, k4⟩ | omega | rfl
  · rename_i h
    have h := of_decide_eq_false h
    have hz : z = 0 := by omega
    subst hz
    rw [List.drop_zero]
set_option maxRecDepth 100000 in
theorem m123r : MeetsQ Try.prog 123 sp123r := by
  refine meetsRw_of_owed (C := c123r) ⟨tab_ok, lkS_ok ⟨m74, trivial⟩⟩ (by kernel_rfl) (by kernel_rfl : Try.prog.funcs[123]? = some Try.f123) (by kernel_rfl) (by kernel_rfl) (by kernel_rfl) _ 3 ⟨by kernel_rfl, by kernel_rfl, by kernel_rfl, by kernel_rfl⟩ ?_
  rintro _ ⟨l, n, rfl, hd, hl, hn0, hn⟩
  refine ⟨inv123r l n, ?_⟩
  show owedRw c123r (inv123r l n) Try.f123 3 [dgs l, i64 n] (.tup [dgs (bts n.toNat (vB 65536 l))])
  rw [vc123r, bts_eq]
  obtain ⟨n, rfl⟩ := Int.eq_ofNat_of_zero_le hn0
  simp (decide := true) only [eq_self, true_and, and_true, ne_eq, not_false_eq_true, Int.toNat_natCast, List.length_replicate]
  refine ⟨by omega, ?_, ?_⟩
  · and_intros <;> first | exact True.intro | omega | rfl
  intro x hx
  obtain ⟨x, rfl⟩ := Int.eq_ofNat_of_zero_le hx.1
  rw [show ((x : Int) + 1) = ((x + 1 : Nat) : Int) by omega, wi (n := ((x + 1 : Nat) : Int)) (by omega) (by omega)]
  simp only [Int.toNat_natCast]
  split
  · rename_i h
    have h := of_decide_eq_true h
    rw [bitI hd x (by omega), show ((n : Int) - (x : Int)).toNat = (n - (x + 1)) + 1 by omega, show ((n : Int) - ((x + 1 : Nat) : Int)).toNat = n - (x + 1) by omega]
    have e := set_rep (nB 2 x (vB 65536 l)) (n - (x + 1)) ((vB 65536 l / 2 ^ x % 2 : Nat) : Int)
    rw [nB_length, ← nB_push] at e
    rw [e, List.length_append, List.length_replicate, nB_length]
    have ht : (x : Int).tmod 16 = ((x % 16 : Nat) : Int) := tmodN x 16
    and_intros <;> first | omega | rfl | trivial | exact ⟨_, _, rfl, hl⟩
  · rename_i h
    have h := of_decide_eq_false h
    obtain rfl : x = n := by omega
    rw [show ((x : Int) - (x : Int)).toNat = 0 by omega, List.replicate_zero, List.append_nil]
set_option maxRecDepth 100000 in
theorem m122 : Meets Try.prog 122 sp122 := by
  refine meets_of_owed (C := c122) ⟨tab_ok, lkS_ok ⟨m72, m123, trivial⟩⟩ (by kernel_rfl) (by kernel_rfl : Try.prog.funcs[122]? = some Try.f122) (by kernel_rfl) (by kernel_rfl) (by kernel_rfl) _ ?_
  rintro _ ⟨l, rfl, hl⟩
  refine ⟨fun _ => rfl, inv122 l, ?_⟩
  show owed c122 (inv122 l) Try.f122 [num4 l] (b32 (nB 256 32 (wv l)))
  rw [vc122]
  have hv := wv_lt' hl
  have ev : vB 65536 (dg (vB 18446744073709551616 l)) = vB 18446744073709551616 l := vl_dg _
  have k1 := okLn (n := vB 18446744073709551616 l) (Nat.lt_trans hv (by decide))
  rw [ev]
  simp (decide := true) only [eq_self, true_and, and_true, ne_eq, not_false_eq_true, Int.toNat_natCast, nB_length]
  refine ⟨⟨_, rfl, hl.1, hl.2⟩, ⟨_, _, rfl, k1.1, k1.2.2.2, by decide, by decide⟩, ?_, ?_⟩
  · rw [Nat.mod_one]
    and_intros <;> first | exact True.intro | rfl
  intro x hx
  split
  · rename_i h
    have h := of_decide_eq_true h
    have hx : x < 256 := by omega
    have h1 : (x : Int).tdiv 8 = ((x / 8 : Nat) : Int) := tdivN x 8
    have h2 : (x : Int).tmod 8 = ((x % 8 : Nat) : Int) := tmodN x 8
    have hw := want_step (l := l) x hx
    rw [h1, h2, wNi' (by omega), i64w (by omega), Int.toNat_natCast, Int.toNat_natCast, nB_get 2 256 _ x hx]
    have hw' : ∀ {A : List Int}, A = nB 256 32 (vB 18446744073709551616 l % 2 ^ (x + 1)) → some (Blk.fix (b32 A)) = some (Blk.fix (b32 (nB 256 32 (vB 18446744073709551616 l % 2 ^ (x + 1))))) := fun h => by rw [h]
    and_intros <;> first | exact True.intro | omega | exact hw' hw | rfl
  · rename_i h
    have h := of_decide_eq_false h
    have hx : x = 256 := by omega
    subst hx
    rw [Nat.mod_eq_of_lt (show vB 18446744073709551616 l < 2 ^ 256 from hv)]
end Go.Proofs.Ytnadggcfdakpoaa
