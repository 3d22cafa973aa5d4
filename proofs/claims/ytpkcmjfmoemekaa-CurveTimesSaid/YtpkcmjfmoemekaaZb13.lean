/- CurveTimes: Times of package curve, Often of the reference: specs. -/
import Derived.Test.YtpkcmjfmoemekaaZb12
namespace Go.Proofs.Ytpkcmjfmoemekaa
open Go Go.Vg
def qnD (q : QN) : D := .st [n4 q.x, n4 q.y, n4 q.z, n4 q.t]
def qnO (d : D) : QN := ⟨wF d 0, wF d 1, wF d 2, wF d 3⟩
def QN.ok (q : QN) : Prop := q.x < FP ∧ q.y < FP ∧ q.z < FP ∧ q.t < FP
def pnD (p : PN) : D := .st [fe p.x, fe p.y, fe p.z]
def pnO (d : D) : PN := ⟨fF d 0, fF d 1, fF d 2⟩
def PN.ok (p : PN) : Prop := p.x < FP ∧ p.y < FP ∧ p.z < FP
def tmQ (q : QN) (N L : Nat) : Nat → QN
 | 0 => ⟨0, 1, 1, 0 * 1 % FP⟩
 | k + 1 => if N / 2 ^ (L - 1 - k) % 2 = 1 then ((tmQ q N L k).pl (tmQ q N L k)).pl q else (tmQ q N L k).pl (tmQ q N L k)
def ofP (p : PN) (N : Nat) : Nat → PN × PN
 | 0 => (⟨0, 1, 1⟩, p)
 | i + 1 => (if N / 2 ^ i % 2 = 1 then (ofP p N i).1.pl (ofP p N i).2 else (ofP p N i).1, (ofP p N i).2.pl (ofP p N i).2)
noncomputable def tX (x y n : Nat) : Nat := if onB x y then (mlN x y n).1.val else 0
noncomputable def tY (x y n : Nat) : Nat := if onB x y then (mlN x y n).2.val else 0
def q1 (x y : Nat) : QN := ⟨x, y, 1, x * y % FP⟩
def sp14q : Go.Vg.Spec := ⟨fun ds => ∃ a b, ds = [qnD a, qnD b] ∧ a.ok ∧ b.ok, fun ds => qnD ((qnO (ds.headD default)).pl (qnO (ds.getD 1 default))), true, [42, 42]⟩
def sp24q : Go.Vg.Spec := ⟨fun ds => ∃ a b, ds = [pnD a, pnD b] ∧ a.ok ∧ b.ok, fun ds => pnD ((pnO (ds.headD default)).pl (pnO (ds.getD 1 default))), true, [34, 34]⟩
noncomputable def sp4 : Go.Vg.Spec := ⟨fun ds => ∃ a l m, ds = [num4 a, ptD l m] ∧ isN a ∧ isN l ∧ isN m,
 fun ds => .tup [.st [n4 (tX (wF (ds.getD 1 default) 0) (wF (ds.getD 1 default) 1) (wv (arrOf (ds.headD default)))), n4 (tY (wF (ds.getD 1 default) 0) (wF (ds.getD 1 default) 1) (wv (arrOf (ds.headD default))))], i64 (ngO (wF (ds.getD 1 default) 0) (wF (ds.getD 1 default) 1))], true, [24, 26]⟩
def sp7 : Go.Vg.Spec := ⟨fun ds => ∃ a b c m, ds = [pjD a b c, dgs m] ∧ (isF a ∧ isF b ∧ isF c) ∧ (vB 65536 a < FP ∧ vB 65536 b < FP ∧ vB 65536 c < FP) ∧ okd m ∧ lenOk m ∧ m.length ≤ 1000,
 fun ds => pnD (ofP (pnO (ds.headD default)) (vB 65536 (intsOf (ds.getD 1 default))) (16 * (intsOf (ds.getD 1 default)).length)).1, true, [34, 37]⟩
noncomputable def c4 : Ctx := ⟨tab, lkS [(10, sp10), (11, sp11), (12, sp12), (13, sp13), (14, sp14q), (15, sp15), (16, sp16)], [], []⟩
def c7 : Ctx := ⟨tab, lkS [(20, sp20), (23, sp23), (24, sp24q)], [], []⟩
noncomputable def c3 : Ctx := ⟨tab, lkS [(4, sp4), (5, sp5), (6, sp6), (7, sp7), (8, sp8), (9, sp9)], [], []⟩
noncomputable def inv4 (a l m : List Int) : Nat → Option Inv
 | 5 => some ⟨Nat, fun z => [(8, .d (i64 ((z : Int) - 1)))], fun z => [(6, .fix (qnD (tmQ (q1 (wv l) (wv m)) (wv a) (bl2 (wv a)) (bl2 (wv a) - z))))], fun s => (slotN s 8 + 1).toNat, fun _ z => z ≤ bl2 (wv a), fun z => z⟩
 | _ => none
def inv7 (p : PN) (m : List Int) : Nat → Option Inv
 | 3 => some ⟨Nat, fun i => [(18, .d (i64n i))], fun i => [(5, .fix (pnD (ofP p (vB 65536 m) i).1)), (2, .fix (pnD (ofP p (vB 65536 m) i).2))], fun s => (slotN s 18).toNat, fun _ i => i ≤ 16 * m.length, fun i => 16 * m.length - i⟩
 | _ => none
set_option maxRecDepth 100000 in
theorem vc4  (a l m : List Int) (F : D)  :
    (owed c4 (inv4 a l m) Try.f4 [num4 a, ptD l m] F) = (
 (True ∧ false = false) ∧ (True ∧ false = false) ∧ (True ∧ 8 ≠ 0) ∧ True ∧ (8 ≠ 0 ∧ 8 = 8 ∧ true = true) ∧ (∃ (l_1 : List Int), ∃ (m_1 : List Int), [D.st [D.arr .u64 4 l, D.arr .u64 4 m]] = [D.st [D.arr .u64 4 l_1, D.arr .u64 4 m_1]] ∧ isN l_1 ∧ isN m_1) ∧ True ∧ match !onB (vB 18446744073709551616 l) (vB 18446744073709551616 m) with
 | true => True ∧ (Sk.st [Sk.arr 4, Sk.arr 4] = Sk.st [Sk.arr 4, Sk.arr 4] ∧ 8 ≠ 0 ∧ 8 = 8 ∧ false = false) ∧ True ∧ ((8 ≠ 0 ∧ 8 = 8 ∧ true = true) ∧ false = false ∧ True) ∧ D.tup [D.st [D.arr .u64 4 [(0 : Int), (0 : Int), (0 : Int), (0 : Int)], D.arr .u64 4 [(0 : Int), (0 : Int), (0 : Int), (0 : Int)]], D.val (.int .i64 1)] = F
 | false => 0 = 0 ∧ (∃ (l : List Int), ∃ (m : List Int), [D.st [D.arr .u64 4 [(0 : Int), (0 : Int), (0 : Int), (0 : Int)], D.arr .u64 4 [(1 : Int), (0 : Int), (0 : Int), (0 : Int)]]] = [D.st [D.arr .u64 4 l, D.arr .u64 4 m]] ∧ isN l ∧ isN m) ∧ (8 ≠ 0 ∧ 8 = 8 ∧ true = true) ∧ (∃ (l_1 : List Int), ∃ (m_1 : List Int), [D.st [D.arr .u64 4 l, D.arr .u64 4 m]] = [D.st [D.arr .u64 4 l_1, D.arr .u64 4 m_1]] ∧ isN l_1 ∧ isN m_1) ∧ (True ∧ 16 ≠ 0) ∧ (True ∧ 16 ≠ 0) ∧ (Sk.st [Sk.arr 4, Sk.arr 4, Sk.arr 4, Sk.arr 4] = Sk.st [Sk.arr 4, Sk.arr 4, Sk.arr 4, Sk.arr 4] ∧ 16 ≠ 0 ∧ 16 = 16 ∧ false = false) ∧ (Sk.st [Sk.arr 4, Sk.arr 4, Sk.arr 4, Sk.arr 4] = Sk.st [Sk.arr 4, Sk.arr 4, Sk.arr 4, Sk.arr 4] ∧ 16 ≠ 0 ∧ 16 = 16 ∧ false = false) ∧ (4 ≠ 0 ∧ 4 = 4 ∧ true = true) ∧ (∃ (l : List Int), [D.arr .u64 4 a] = [D.arr .u64 4 l] ∧ isN l) ∧ True ∧ True ∧ (((AV.d (D.val (.int .i64 (IntKind.i64.wrap ((↑(bl2 (vB 18446744073709551616 a)) : Int) - (1 : Int))))) = AV.d (D.val (.int .i64 ((↑(IntKind.i64.wrap ((↑(bl2 (vB 18446744073709551616 a)) : Int) - (1 : Int)) + (1 : Int)).toNat : Int) - (1 : Int)))) ∧ True) ∧ (sm (some (Blk.fix (D.arr .u64 4 a))) ∧ sm (some (Blk.fix (D.st [D.arr .u64 4 l, D.arr .u64 4 m]))) ∧ sm (some (Blk.fix (D.st [D.arr .u64 4 [(0 : Int), (0 : Int), (0 : Int), (0 : Int)], D.arr .u64 4 [(0 : Int), (0 : Int), (0 : Int), (0 : Int)]]))) ∧ some (Blk.fix (D.st [D.arr .u64 4 [(0 : Int), (0 : Int), (0 : Int), (0 : Int)], D.arr .u64 4 [(1 : Int), (0 : Int), (0 : Int), (0 : Int)], D.arr .u64 4 [(1 : Int), (0 : Int), (0 : Int), (0 : Int)], D.arr .u64 4 (nB 18446744073709551616 4 (vB 18446744073709551616 [(0 : Int), (0 : Int), (0 : Int), (0 : Int)] * vB 18446744073709551616 [(1 : Int), (0 : Int), (0 : Int), (0 : Int)] % FP))])) = some (Blk.fix (qnD (tmQ (q1 (vB 18446744073709551616 l) (vB 18446744073709551616 m)) (vB 18446744073709551616 a) (bl2 (vB 18446744073709551616 a)) (bl2 (vB 18446744073709551616 a) - (IntKind.i64.wrap ((↑(bl2 (vB 18446744073709551616 a)) : Int) - (1 : Int)) + (1 : Int)).toNat)))) ∧ sm (some (Blk.fix (D.st [D.arr .u64 4 l, D.arr .u64 4 m, D.arr .u64 4 [(1 : Int), (0 : Int), (0 : Int), (0 : Int)], D.arr .u64 4 (nB 18446744073709551616 4 (vB 18446744073709551616 l * vB 18446744073709551616 m % FP))]))) ∧ True) ∧ true = true) ∧ (IntKind.i64.wrap ((↑(bl2 (vB 18446744073709551616 a)) : Int) - (1 : Int)) + (1 : Int)).toNat ≤ bl2 (vB 18446744073709551616 a)) ∧ ∀ (x : Nat), x ≤ bl2 (vB 18446744073709551616 a) → true = true ∧ True ∧ True ∧ match decide ((↑x : Int) - (1 : Int) ≥ 0) with
  | true => (16 ≠ 0 ∧ 16 = 16 ∧ true = true) ∧ (16 ≠ 0 ∧ 16 = 16 ∧ true = true) ∧ (∃ (a_2 : QN), ∃ (b : QN), [qnD (tmQ (q1 (vB 18446744073709551616 l) (vB 18446744073709551616 m)) (vB 18446744073709551616 a) (bl2 (vB 18446744073709551616 a)) (bl2 (vB 18446744073709551616 a) - x)), qnD (tmQ (q1 (vB 18446744073709551616 l) (vB 18446744073709551616 m)) (vB 18446744073709551616 a) (bl2 (vB 18446744073709551616 a)) (bl2 (vB 18446744073709551616 a) - x))] = [qnD a_2, qnD b] ∧ (a_2.x < FP ∧ a_2.y < FP ∧ a_2.z < FP ∧ a_2.t < FP) ∧ b.x < FP ∧ b.y < FP ∧ b.z < FP ∧ b.t < FP) ∧ (Sk.st [Sk.arr 4, Sk.arr 4, Sk.arr 4, Sk.arr 4] = Sk.st [Sk.arr 4, Sk.arr 4, Sk.arr 4, Sk.arr 4] ∧ 16 ≠ 0 ∧ 16 = 16 ∧ false = false) ∧ (4 ≠ 0 ∧ 4 = 4 ∧ true = true) ∧ True ∧ (∃ (l : List Int), ∃ (i : Int), [D.arr .u64 4 a, D.val (.int .i64 ((↑x : Int) - (1 : Int)))] = [D.arr .u64 4 l, D.val (Value.int IntKind.i64 i)] ∧ isN l ∧ i64ok i) ∧ True ∧ match (↑(bitN (vB 18446744073709551616 a) ((↑x : Int) - (1 : Int))) : Int) == (1 : Int) with
   | true => (16 ≠ 0 ∧ 16 = 16 ∧ true = true) ∧ (16 ≠ 0 ∧ 16 = 16 ∧ true = true) ∧ (∃ (a_2 : QN), ∃ (b : QN), [qnD ((qnO (qnD (tmQ (q1 (vB 18446744073709551616 l) (vB 18446744073709551616 m)) (vB 18446744073709551616 a) (bl2 (vB 18446744073709551616 a)) (bl2 (vB 18446744073709551616 a) - x)))).pl (qnO (qnD (tmQ (q1 (vB 18446744073709551616 l) (vB 18446744073709551616 m)) (vB 18446744073709551616 a) (bl2 (vB 18446744073709551616 a)) (bl2 (vB 18446744073709551616 a) - x))))), D.st [D.arr .u64 4 l, D.arr .u64 4 m, D.arr .u64 4 [(1 : Int), (0 : Int), (0 : Int), (0 : Int)], D.arr .u64 4 (nB 18446744073709551616 4 (vB 18446744073709551616 l * vB 18446744073709551616 m % FP))]] = [qnD a_2, qnD b] ∧ (a_2.x < FP ∧ a_2.y < FP ∧ a_2.z < FP ∧ a_2.t < FP) ∧ b.x < FP ∧ b.y < FP ∧ b.z < FP ∧ b.t < FP) ∧ (Sk.st [Sk.arr 4, Sk.arr 4, Sk.arr 4, Sk.arr 4] = Sk.st [Sk.arr 4, Sk.arr 4, Sk.arr 4, Sk.arr 4] ∧ 16 ≠ 0 ∧ 16 = 16 ∧ false = false) ∧ True ∧ True ∧ True ∧ ((AV.d (D.val (.int .i64 (IntKind.i64.wrap ((↑x : Int) - (1 : Int) - (1 : Int))))) = AV.d (D.val (.int .i64 ((↑(IntKind.i64.wrap ((↑x : Int) - (1 : Int) - (1 : Int)) + (1 : Int)).toNat : Int) - (1 : Int)))) ∧ True) ∧ (sm (some (Blk.fix (D.arr .u64 4 a))) ∧ sm (some (Blk.fix (D.st [D.arr .u64 4 l, D.arr .u64 4 m]))) ∧ sm (some (Blk.fix (D.st [D.arr .u64 4 [(0 : Int), (0 : Int), (0 : Int), (0 : Int)], D.arr .u64 4 [(0 : Int), (0 : Int), (0 : Int), (0 : Int)]]))) ∧ some (Blk.fix (qnD ((qnO (qnD ((qnO (qnD (tmQ (q1 (vB 18446744073709551616 l) (vB 18446744073709551616 m)) (vB 18446744073709551616 a) (bl2 (vB 18446744073709551616 a)) (bl2 (vB 18446744073709551616 a) - x)))).pl (qnO (qnD (tmQ (q1 (vB 18446744073709551616 l) (vB 18446744073709551616 m)) (vB 18446744073709551616 a) (bl2 (vB 18446744073709551616 a)) (bl2 (vB 18446744073709551616 a) - x))))))).pl (qnO (D.st [D.arr .u64 4 l, D.arr .u64 4 m, D.arr .u64 4 [(1 : Int), (0 : Int), (0 : Int), (0 : Int)], D.arr .u64 4 (nB 18446744073709551616 4 (vB 18446744073709551616 l * vB 18446744073709551616 m % FP))]))))) = some (Blk.fix (qnD (tmQ (q1 (vB 18446744073709551616 l) (vB 18446744073709551616 m)) (vB 18446744073709551616 a) (bl2 (vB 18446744073709551616 a)) (bl2 (vB 18446744073709551616 a) - (IntKind.i64.wrap ((↑x : Int) - (1 : Int) - (1 : Int)) + (1 : Int)).toNat)))) ∧ sm (some (Blk.fix (D.st [D.arr .u64 4 l, D.arr .u64 4 m, D.arr .u64 4 [(1 : Int), (0 : Int), (0 : Int), (0 : Int)], D.arr .u64 4 (nB 18446744073709551616 4 (vB 18446744073709551616 l * vB 18446744073709551616 m % FP))]))) ∧ True) ∧ true = true) ∧ (IntKind.i64.wrap ((↑x : Int) - (1 : Int) - (1 : Int)) + (1 : Int)).toNat ≤ bl2 (vB 18446744073709551616 a) ∧ (IntKind.i64.wrap ((↑x : Int) - (1 : Int) - (1 : Int)) + (1 : Int)).toNat < x
   | false => True ∧ True ∧ True ∧ ((AV.d (D.val (.int .i64 (IntKind.i64.wrap ((↑x : Int) - (1 : Int) - (1 : Int))))) = AV.d (D.val (.int .i64 ((↑(IntKind.i64.wrap ((↑x : Int) - (1 : Int) - (1 : Int)) + (1 : Int)).toNat : Int) - (1 : Int)))) ∧ True) ∧ (sm (some (Blk.fix (D.arr .u64 4 a))) ∧ sm (some (Blk.fix (D.st [D.arr .u64 4 l, D.arr .u64 4 m]))) ∧ sm (some (Blk.fix (D.st [D.arr .u64 4 [(0 : Int), (0 : Int), (0 : Int), (0 : Int)], D.arr .u64 4 [(0 : Int), (0 : Int), (0 : Int), (0 : Int)]]))) ∧ some (Blk.fix (qnD ((qnO (qnD (tmQ (q1 (vB 18446744073709551616 l) (vB 18446744073709551616 m)) (vB 18446744073709551616 a) (bl2 (vB 18446744073709551616 a)) (bl2 (vB 18446744073709551616 a) - x)))).pl (qnO (qnD (tmQ (q1 (vB 18446744073709551616 l) (vB 18446744073709551616 m)) (vB 18446744073709551616 a) (bl2 (vB 18446744073709551616 a)) (bl2 (vB 18446744073709551616 a) - x))))))) = some (Blk.fix (qnD (tmQ (q1 (vB 18446744073709551616 l) (vB 18446744073709551616 m)) (vB 18446744073709551616 a) (bl2 (vB 18446744073709551616 a)) (bl2 (vB 18446744073709551616 a) - (IntKind.i64.wrap ((↑x : Int) - (1 : Int) - (1 : Int)) + (1 : Int)).toNat)))) ∧ sm (some (Blk.fix (D.st [D.arr .u64 4 l, D.arr .u64 4 m, D.arr .u64 4 [(1 : Int), (0 : Int), (0 : Int), (0 : Int)], D.arr .u64 4 (nB 18446744073709551616 4 (vB 18446744073709551616 l * vB 18446744073709551616 m % FP))]))) ∧ True) ∧ true = true) ∧ (IntKind.i64.wrap ((↑x : Int) - (1 : Int) - (1 : Int)) + (1 : Int)).toNat ≤ bl2 (vB 18446744073709551616 a) ∧ (IntKind.i64.wrap ((↑x : Int) - (1 : Int) - (1 : Int)) + (1 : Int)).toNat < x
  | false => (16 ≠ 0 ∧ 16 = 16 ∧ true = true) ∧ (∃ (a_2 : List Int), ∃ (b : List Int), ∃ (c : List Int), ∃ (d : List Int), [qnD (tmQ (q1 (vB 18446744073709551616 l) (vB 18446744073709551616 m)) (vB 18446744073709551616 a) (bl2 (vB 18446744073709551616 a)) (bl2 (vB 18446744073709551616 a) - x))] = [D.st [D.arr .u64 4 a_2, D.arr .u64 4 b, D.arr .u64 4 c, D.arr .u64 4 d]] ∧ isN a_2 ∧ isN b ∧ isN c ∧ isN d) ∧ (Sk.st [Sk.arr 4, Sk.arr 4] = Sk.st [Sk.arr 4, Sk.arr 4] ∧ 8 ≠ 0 ∧ 8 = 8 ∧ false = false) ∧ True ∧ ((8 ≠ 0 ∧ 8 = 8 ∧ true = true) ∧ false = false ∧ True) ∧ D.tup [D.st [D.arr .u64 4 (nB 18446744073709551616 4 (aff (vB 18446744073709551616 (nB 18446744073709551616 4 (tmQ (q1 (vB 18446744073709551616 l) (vB 18446744073709551616 m)) (vB 18446744073709551616 a) (bl2 (vB 18446744073709551616 a)) (bl2 (vB 18446744073709551616 a) - x)).x)) (vB 18446744073709551616 (nB 18446744073709551616 4 (tmQ (q1 (vB 18446744073709551616 l) (vB 18446744073709551616 m)) (vB 18446744073709551616 a) (bl2 (vB 18446744073709551616 a)) (bl2 (vB 18446744073709551616 a) - x)).z)))), D.arr .u64 4 (nB 18446744073709551616 4 (aff (vB 18446744073709551616 (nB 18446744073709551616 4 (tmQ (q1 (vB 18446744073709551616 l) (vB 18446744073709551616 m)) (vB 18446744073709551616 a) (bl2 (vB 18446744073709551616 a)) (bl2 (vB 18446744073709551616 a) - x)).y)) (vB 18446744073709551616 (nB 18446744073709551616 4 (tmQ (q1 (vB 18446744073709551616 l) (vB 18446744073709551616 m)) (vB 18446744073709551616 a) (bl2 (vB 18446744073709551616 a)) (bl2 (vB 18446744073709551616 a) - x)).z))))], D.val (.int .i64 0)] = F) := by kernel_rfl
set_option maxRecDepth 100000 in
theorem vc7  (p : PN) (a b c m : List Int) (F : D)  :
    (owed c7 (inv7 p m) Try.f7 [pjD a b c, dgs m] F) = (
 (True ∧ false = false) ∧ (True ∧ 48 ≠ 0) ∧ (∃ (n : Nat), [D.val (.int .i64 0)] = [D.val (.int .i64 (↑n : Int))] ∧ n < 65536) ∧ (∃ (n : Nat), [D.val (.int .i64 1)] = [D.val (.int .i64 (↑n : Int))] ∧ n < 65536) ∧ (∃ (n : Nat), [D.val (.int .i64 1)] = [D.val (.int .i64 (↑n : Int))] ∧ n < 65536) ∧ (false = false ∧ (0 < 3 ∧ Sk.arr 16 = Sk.arr 16) ∧ false = false ∧ (1 < 3 ∧ Sk.arr 16 = Sk.arr 16) ∧ false = false ∧ (2 < 3 ∧ Sk.arr 16 = Sk.arr 16) ∧ True) ∧ (True ∧ 48 ≠ 0) ∧ (Sk.st [Sk.arr 16, Sk.arr 16, Sk.arr 16] = Sk.st [Sk.arr 16, Sk.arr 16, Sk.arr 16] ∧ 48 ≠ 0 ∧ 48 = 48 ∧ false = false) ∧ True ∧ True ∧ True ∧ True ∧ (∃ (l : List Int), ∃ (n : Int), [D.ints .i64 m, D.val (.int .i64 (IntKind.i64.wrap ((16 : Int) * (↑m.length : Int))))] = [D.ints .i64 l, D.val (Value.int IntKind.i64 n)] ∧ okd l ∧ lenOk l ∧ (0 : Int) ≤ n ∧ n ≤ (16777216 : Int)) ∧ True ∧ True ∧ (((AV.d (D.val (.int .i64 0)) = AV.d (D.val (.int .i64 (↑(Int.toNat (0 : Int)) : Int))) ∧ True) ∧ (some (Blk.fix (D.st [D.arr .i64 16 a, D.arr .i64 16 b, D.arr .i64 16 c])) = some (Blk.fix (pnD (ofP p (vB 65536 m) (Int.toNat (0 : Int))).snd)) ∧ sm (some (Blk.fix (D.st [D.arr .i64 16 [(0 : Int), (0 : Int), (0 : Int), (0 : Int), (0 : Int), (0 : Int), (0 : Int), (0 : Int), (0 : Int), (0 : Int), (0 : Int), (0 : Int), (0 : Int), (0 : Int), (0 : Int), (0 : Int)], D.arr .i64 16 [(0 : Int), (0 : Int), (0 : Int), (0 : Int), (0 : Int), (0 : Int), (0 : Int), (0 : Int), (0 : Int), (0 : Int), (0 : Int), (0 : Int), (0 : Int), (0 : Int), (0 : Int), (0 : Int)], D.arr .i64 16 [(0 : Int), (0 : Int), (0 : Int), (0 : Int), (0 : Int), (0 : Int), (0 : Int), (0 : Int), (0 : Int), (0 : Int), (0 : Int), (0 : Int), (0 : Int), (0 : Int), (0 : Int), (0 : Int)]]))) ∧ some (Blk.fix (D.st [D.arr .i64 16 [(0 : Int), (0 : Int), (0 : Int), (0 : Int), (0 : Int), (0 : Int), (0 : Int), (0 : Int), (0 : Int), (0 : Int), (0 : Int), (0 : Int), (0 : Int), (0 : Int), (0 : Int), (0 : Int)], D.arr .i64 16 [(1 : Int), (0 : Int), (0 : Int), (0 : Int), (0 : Int), (0 : Int), (0 : Int), (0 : Int), (0 : Int), (0 : Int), (0 : Int), (0 : Int), (0 : Int), (0 : Int), (0 : Int), (0 : Int)], D.arr .i64 16 [(1 : Int), (0 : Int), (0 : Int), (0 : Int), (0 : Int), (0 : Int), (0 : Int), (0 : Int), (0 : Int), (0 : Int), (0 : Int), (0 : Int), (0 : Int), (0 : Int), (0 : Int), (0 : Int)]])) = some (Blk.fix (pnD (ofP p (vB 65536 m) (Int.toNat (0 : Int))).fst)) ∧ True) ∧ true = true) ∧ Int.toNat (0 : Int) ≤ 16 * m.length) ∧ ∀ (x : Nat), x ≤ 16 * m.length → true = true ∧ True ∧ match decide ((↑x : Int) < (↑(nB 2 (IntKind.i64.wrap ((16 : Int) * (↑m.length : Int))).toNat (vB 65536 m)).length : Int)) with
 | true => ((0 : Int) ≤ (↑x : Int) ∧ (↑x : Int) < (↑(nB 2 (IntKind.i64.wrap ((16 : Int) * (↑m.length : Int))).toNat (vB 65536 m)).length : Int) ∧ 1 = 1) ∧ (1 ≠ 0 ∧ 1 = 1 ∧ false = false) ∧ True ∧ True ∧ True ∧ match (nB 2 (IntKind.i64.wrap ((16 : Int) * (↑m.length : Int))).toNat (vB 65536 m)).getD (↑x : Int).toNat (0 : Int) == (1 : Int) with
  | true => (48 ≠ 0 ∧ 48 = 48 ∧ true = true) ∧ (48 ≠ 0 ∧ 48 = 48 ∧ true = true) ∧ (∃ (a : PN), ∃ (b : PN), [pnD (ofP p (vB 65536 m) x).fst, pnD (ofP p (vB 65536 m) x).snd] = [pnD a, pnD b] ∧ (a.x < FP ∧ a.y < FP ∧ a.z < FP) ∧ b.x < FP ∧ b.y < FP ∧ b.z < FP) ∧ (Sk.st [Sk.arr 16, Sk.arr 16, Sk.arr 16] = Sk.st [Sk.arr 16, Sk.arr 16, Sk.arr 16] ∧ 48 ≠ 0 ∧ 48 = 48 ∧ false = false) ∧ (48 ≠ 0 ∧ 48 = 48 ∧ true = true) ∧ (48 ≠ 0 ∧ 48 = 48 ∧ true = true) ∧ (∃ (a : PN), ∃ (b : PN), [pnD (ofP p (vB 65536 m) x).snd, pnD (ofP p (vB 65536 m) x).snd] = [pnD a, pnD b] ∧ (a.x < FP ∧ a.y < FP ∧ a.z < FP) ∧ b.x < FP ∧ b.y < FP ∧ b.z < FP) ∧ (Sk.st [Sk.arr 16, Sk.arr 16, Sk.arr 16] = Sk.st [Sk.arr 16, Sk.arr 16, Sk.arr 16] ∧ 48 ≠ 0 ∧ 48 = 48 ∧ false = false) ∧ True ∧ True ∧ ((AV.d (D.val (.int .i64 (IntKind.i64.wrap ((↑x : Int) + (1 : Int))))) = AV.d (D.val (.int .i64 (↑(IntKind.i64.wrap ((↑x : Int) + (1 : Int))).toNat : Int))) ∧ True) ∧ (some (Blk.fix (pnD ((pnO (pnD (ofP p (vB 65536 m) x).snd)).pl (pnO (pnD (ofP p (vB 65536 m) x).snd))))) = some (Blk.fix (pnD (ofP p (vB 65536 m) (IntKind.i64.wrap ((↑x : Int) + (1 : Int))).toNat).snd)) ∧ sm (some (Blk.fix (D.st [D.arr .i64 16 [(0 : Int), (0 : Int), (0 : Int), (0 : Int), (0 : Int), (0 : Int), (0 : Int), (0 : Int), (0 : Int), (0 : Int), (0 : Int), (0 : Int), (0 : Int), (0 : Int), (0 : Int), (0 : Int)], D.arr .i64 16 [(0 : Int), (0 : Int), (0 : Int), (0 : Int), (0 : Int), (0 : Int), (0 : Int), (0 : Int), (0 : Int), (0 : Int), (0 : Int), (0 : Int), (0 : Int), (0 : Int), (0 : Int), (0 : Int)], D.arr .i64 16 [(0 : Int), (0 : Int), (0 : Int), (0 : Int), (0 : Int), (0 : Int), (0 : Int), (0 : Int), (0 : Int), (0 : Int), (0 : Int), (0 : Int), (0 : Int), (0 : Int), (0 : Int), (0 : Int)]]))) ∧ some (Blk.fix (pnD ((pnO (pnD (ofP p (vB 65536 m) x).fst)).pl (pnO (pnD (ofP p (vB 65536 m) x).snd))))) = some (Blk.fix (pnD (ofP p (vB 65536 m) (IntKind.i64.wrap ((↑x : Int) + (1 : Int))).toNat).fst)) ∧ True) ∧ true = true) ∧ (IntKind.i64.wrap ((↑x : Int) + (1 : Int))).toNat ≤ 16 * m.length ∧ 16 * m.length - (IntKind.i64.wrap ((↑x : Int) + (1 : Int))).toNat < 16 * m.length - x
  | false => (48 ≠ 0 ∧ 48 = 48 ∧ true = true) ∧ (48 ≠ 0 ∧ 48 = 48 ∧ true = true) ∧ (∃ (a : PN), ∃ (b : PN), [pnD (ofP p (vB 65536 m) x).snd, pnD (ofP p (vB 65536 m) x).snd] = [pnD a, pnD b] ∧ (a.x < FP ∧ a.y < FP ∧ a.z < FP) ∧ b.x < FP ∧ b.y < FP ∧ b.z < FP) ∧ (Sk.st [Sk.arr 16, Sk.arr 16, Sk.arr 16] = Sk.st [Sk.arr 16, Sk.arr 16, Sk.arr 16] ∧ 48 ≠ 0 ∧ 48 = 48 ∧ false = false) ∧ True ∧ True ∧ ((AV.d (D.val (.int .i64 (IntKind.i64.wrap ((↑x : Int) + (1 : Int))))) = AV.d (D.val (.int .i64 (↑(IntKind.i64.wrap ((↑x : Int) + (1 : Int))).toNat : Int))) ∧ True) ∧ (some (Blk.fix (pnD ((pnO (pnD (ofP p (vB 65536 m) x).snd)).pl (pnO (pnD (ofP p (vB 65536 m) x).snd))))) = some (Blk.fix (pnD (ofP p (vB 65536 m) (IntKind.i64.wrap ((↑x : Int) + (1 : Int))).toNat).snd)) ∧ sm (some (Blk.fix (D.st [D.arr .i64 16 [(0 : Int), (0 : Int), (0 : Int), (0 : Int), (0 : Int), (0 : Int), (0 : Int), (0 : Int), (0 : Int), (0 : Int), (0 : Int), (0 : Int), (0 : Int), (0 : Int), (0 : Int), (0 : Int)], D.arr .i64 16 [(0 : Int), (0 : Int), (0 : Int), (0 : Int), (0 : Int), (0 : Int), (0 : Int), (0 : Int), (0 : Int), (0 : Int), (0 : Int), (0 : Int), (0 : Int), (0 : Int), (0 : Int), (0 : Int)], D.arr .i64 16 [(0 : Int), (0 : Int), (0 : Int), (0 : Int), (0 : Int), (0 : Int), (0 : Int), (0 : Int), (0 : Int), (0 : Int), (0 : Int), (0 : Int), (0 : Int), (0 : Int), (0 : Int), (0 : Int)]]))) ∧ some (Blk.fix (pnD (ofP p (vB 65536 m) x).fst)) = some (Blk.fix (pnD (ofP p (vB 65536 m) (IntKind.i64.wrap ((↑x : Int) + (1 : Int))).toNat).fst)) ∧ True) ∧ true = true) ∧ (IntKind.i64.wrap ((↑x : Int) + (1 : Int))).toNat ≤ 16 * m.length ∧ 16 * m.length - (IntKind.i64.wrap ((↑x : Int) + (1 : Int))).toNat < 16 * m.length - x
 | false => (48 ≠ 0 ∧ 48 = 48 ∧ true = true) ∧ (Sk.st [Sk.arr 16, Sk.arr 16, Sk.arr 16] = Sk.st [Sk.arr 16, Sk.arr 16, Sk.arr 16] ∧ 48 ≠ 0 ∧ 48 = 48 ∧ false = false) ∧ ((48 ≠ 0 ∧ 48 = 48 ∧ true = true) ∧ True) ∧ pnD (ofP p (vB 65536 m) x).fst = F) := by kernel_rfl
set_option maxRecDepth 100000 in
theorem vc3  (a l m : List Int) (F : D)  :
    (owed c3 (fun _ => none) Try.f3 [num4 a, ptD l m] F) = (
 (True ∧ false = false) ∧ (True ∧ false = false) ∧ True ∧ (4 ≠ 0 ∧ 4 = 4 ∧ true = true) ∧ (8 ≠ 0 ∧ 8 = 8 ∧ true = true) ∧ (∃ (a_1 : List Int), ∃ (l_1 : List Int), ∃ (m_1 : List Int), [D.arr .u64 4 a, D.st [D.arr .u64 4 l, D.arr .u64 4 m]] = [D.arr .u64 4 a_1, D.st [D.arr .u64 4 l_1, D.arr .u64 4 m_1]] ∧ isN a_1 ∧ isN l_1 ∧ isN m_1) ∧ True ∧ (0 < 2 ∧ false = false) ∧ (1 < 2 ∧ false = false) ∧ (True ∧ 8 ≠ 0) ∧ (Sk.st [Sk.arr 4, Sk.arr 4] = Sk.st [Sk.arr 4, Sk.arr 4] ∧ 8 ≠ 0 ∧ 8 = 8 ∧ false = false) ∧ True ∧ (8 ≠ 0 ∧ 8 = 8 ∧ true = true) ∧ (∃ (l_1 : List Int), ∃ (m_1 : List Int), [D.st [D.arr .u64 4 l, D.arr .u64 4 m]] = [D.st [D.arr .u64 4 l_1, D.arr .u64 4 m_1]] ∧ isN l_1 ∧ isN m_1) ∧ True ∧ match !onB (vB 18446744073709551616 l) (vB 18446744073709551616 m) with
 | true => (8 ≠ 0 ∧ 8 = 8 ∧ true = true) ∧ True ∧ (true = true ∧ Sk.st [Sk.arr 4, Sk.arr 4] = Sk.st [Sk.arr 4, Sk.arr 4] ∧ Sk.st [Sk.arr 4, Sk.arr 4] = Sk.st [Sk.arr 4, Sk.arr 4] ∧ true = true ∧ true = true ∧ (IntKind.u64 = IntKind.u64 ∧ IntKind.u64 = IntKind.u64 ∧ 4 = 4 ∧ 4 = 4 ∧ 1 = 1) ∧ true = true ∧ true = true ∧ (IntKind.u64 = IntKind.u64 ∧ IntKind.u64 = IntKind.u64 ∧ 4 = 4 ∧ 4 = 4 ∧ 1 = 1) ∧ True) ∧ True ∧ match eqB (nB 18446744073709551616 4 (tX (vB 18446744073709551616 l) (vB 18446744073709551616 m) (vB 18446744073709551616 a))) [(0 : Int), (0 : Int), (0 : Int), (0 : Int)] && (eqB (nB 18446744073709551616 4 (tY (vB 18446744073709551616 l) (vB 18446744073709551616 m) (vB 18446744073709551616 a))) [(0 : Int), (0 : Int), (0 : Int), (0 : Int)] && true) with
  | true => True ∧ True ∧ True ∧ True ∧ (false = false ∧ True) ∧ D.val (Value.bool (ngO (vB 18446744073709551616 l) (vB 18446744073709551616 m) == (1 : Int))) = F
  | false => True ∧ True ∧ (false = false ∧ True) ∧ D.val (Value.bool false) = F
 | false => True ∧ True ∧ True ∧ match ngO (vB 18446744073709551616 l) (vB 18446744073709551616 m) == (0 : Int) with
  | true => (8 ≠ 0 ∧ 8 = 8 ∧ true = true) ∧ (8 ≠ 0 ∧ 8 = 8 ∧ true = true) ∧ (∃ (l_1 : List Int), ∃ (m_1 : List Int), [D.st [D.arr .u64 4 l, D.arr .u64 4 m]] = [D.st [D.arr .u64 4 l_1, D.arr .u64 4 m_1]] ∧ isN l_1 ∧ isN m_1) ∧ (4 ≠ 0 ∧ 4 = 4 ∧ true = true) ∧ (∃ (l : List Int), [D.arr .u64 4 a] = [D.arr .u64 4 l] ∧ okw l ∧ l.length = 4) ∧ (∃ (a_1 : List Int), ∃ (b : List Int), ∃ (c : List Int), ∃ (m_1 : List Int), [D.st [D.arr .i64 16 (nB 65536 16 (vB 18446744073709551616 l % FP)), D.arr .i64 16 (nB 65536 16 (vB 18446744073709551616 m % FP)), D.arr .i64 16 oneF], D.ints .i64 (dg (vB 18446744073709551616 a))] = [D.st [D.arr .i64 16 a_1, D.arr .i64 16 b, D.arr .i64 16 c], D.ints .i64 m_1] ∧ (isF a_1 ∧ isF b ∧ isF c) ∧ (vB 65536 a_1 < FP ∧ vB 65536 b < FP ∧ vB 65536 c < FP) ∧ okd m_1 ∧ lenOk m_1 ∧ m_1.length ≤ 1000) ∧ (∃ (a_1 : List Int), ∃ (b : List Int), ∃ (c : List Int), [pnD (ofP (pnO (D.st [D.arr .i64 16 (nB 65536 16 (vB 18446744073709551616 l % FP)), D.arr .i64 16 (nB 65536 16 (vB 18446744073709551616 m % FP)), D.arr .i64 16 oneF])) (vB 65536 (dg (vB 18446744073709551616 a))) (16 * (dg (vB 18446744073709551616 a)).length)).fst] = [D.st [D.arr .i64 16 a_1, D.arr .i64 16 b, D.arr .i64 16 c]] ∧ isF a_1 ∧ isF b ∧ isF c) ∧ (true = true ∧ Sk.st [Sk.arr 4, Sk.arr 4] = Sk.st [Sk.arr 4, Sk.arr 4] ∧ Sk.st [Sk.arr 4, Sk.arr 4] = Sk.st [Sk.arr 4, Sk.arr 4] ∧ true = true ∧ true = true ∧ (IntKind.u64 = IntKind.u64 ∧ IntKind.u64 = IntKind.u64 ∧ 4 = 4 ∧ 4 = 4 ∧ 1 = 1) ∧ true = true ∧ true = true ∧ (IntKind.u64 = IntKind.u64 ∧ IntKind.u64 = IntKind.u64 ∧ 4 = 4 ∧ 4 = 4 ∧ 1 = 1) ∧ True) ∧ True ∧ True ∧ (false = false ∧ True) ∧ D.val (Value.bool (eqB (nB 18446744073709551616 4 (tX (vB 18446744073709551616 l) (vB 18446744073709551616 m) (vB 18446744073709551616 a))) (nB 18446744073709551616 4 (aff (vB 65536 (nB 65536 16 (ofP (pnO (D.st [D.arr .i64 16 (nB 65536 16 (vB 18446744073709551616 l % FP)), D.arr .i64 16 (nB 65536 16 (vB 18446744073709551616 m % FP)), D.arr .i64 16 oneF])) (vB 65536 (dg (vB 18446744073709551616 a))) (16 * (dg (vB 18446744073709551616 a)).length)).fst.x)) (vB 65536 (nB 65536 16 (ofP (pnO (D.st [D.arr .i64 16 (nB 65536 16 (vB 18446744073709551616 l % FP)), D.arr .i64 16 (nB 65536 16 (vB 18446744073709551616 m % FP)), D.arr .i64 16 oneF])) (vB 65536 (dg (vB 18446744073709551616 a))) (16 * (dg (vB 18446744073709551616 a)).length)).fst.z)))) && (eqB (nB 18446744073709551616 4 (tY (vB 18446744073709551616 l) (vB 18446744073709551616 m) (vB 18446744073709551616 a))) (nB 18446744073709551616 4 (aff (vB 65536 (nB 65536 16 (ofP (pnO (D.st [D.arr .i64 16 (nB 65536 16 (vB 18446744073709551616 l % FP)), D.arr .i64 16 (nB 65536 16 (vB 18446744073709551616 m % FP)), D.arr .i64 16 oneF])) (vB 65536 (dg (vB 18446744073709551616 a))) (16 * (dg (vB 18446744073709551616 a)).length)).fst.y)) (vB 65536 (nB 65536 16 (ofP (pnO (D.st [D.arr .i64 16 (nB 65536 16 (vB 18446744073709551616 l % FP)), D.arr .i64 16 (nB 65536 16 (vB 18446744073709551616 m % FP)), D.arr .i64 16 oneF])) (vB 65536 (dg (vB 18446744073709551616 a)))
   (16 * (dg (vB 18446744073709551616 a)).length)).fst.z)))) && true))) = F
  | false => True ∧ True ∧ (false = false ∧ True) ∧ D.val (Value.bool false) = F) := by kernel_rfl
end Go.Proofs.Ytpkcmjfmoemekaa
namespace Go.Proofs.Ytpkcmjfmoemekaa
open Go Go.Vg
theorem lF {a : Nat} (h : a < FP) : a < 115792089237316195423570985008687907853269984665640564039457584007913129639936 := by rw [FP_eq] at h; omega
theorem wl {a : Nat} (h : a < FP) : vB 18446744073709551616 (nB 18446744073709551616 4 a) = a := wn (lF h)
theorem fl {a : Nat} (h : a < FP) : vB 65536 (nB 65536 16 a) = a := fn (lF h)
theorem qn_w {q : QN} (h : q.ok) : qnO (qnD q) = q := by
 obtain ⟨x, y, z, t⟩ := q
 obtain ⟨h1, h2, h3, h4⟩ := h
 show (⟨vB 18446744073709551616 (nB 18446744073709551616 4 x), vB 18446744073709551616 (nB 18446744073709551616 4 y), vB 18446744073709551616 (nB 18446744073709551616 4 z), vB 18446744073709551616 (nB 18446744073709551616 4 t)⟩ : QN) = _
 rw [wl h1, wl h2, wl h3, wl h4]
theorem pn_w {q : PN} (h : q.ok) : pnO (pnD q) = q := by
 obtain ⟨x, y, z⟩ := q
 obtain ⟨h1, h2, h3⟩ := h
 show (⟨vB 65536 (nB 65536 16 x), vB 65536 (nB 65536 16 y), vB 65536 (nB 65536 16 z)⟩ : PN) = _
 rw [fl h1, fl h2, fl h3]
theorem QN.pl_ok (a b : QN) : (a.pl b).ok := ⟨mlt _, mlt _, mlt _, mlt _⟩
theorem PN.pl_ok (a b : PN) : (a.pl b).ok := ⟨mlt _, mlt _, mlt _⟩
theorem oneFP : 1 < FP := by decide
theorem tm_ok {q : QN} (N L : Nat) : ∀ k, (tmQ q N L k).ok
 | 0 => ⟨FP_pos, oneFP, oneFP, mlt _⟩
 | k + 1 => by
  unfold tmQ
  split
  ·exact QN.pl_ok _ _
  ·exact QN.pl_ok _ _
theorem of_ok {p : PN} (h : p.ok) (N : Nat) : ∀ k, (ofP p N k).1.ok ∧ (ofP p N k).2.ok
 | 0 => ⟨⟨FP_pos, oneFP, oneFP⟩, h⟩
 | k + 1 => by
  refine ⟨?_, PN.pl_ok _ _⟩
  show (if N / 2 ^ k % 2 = 1 then (ofP p N k).1.pl (ofP p N k).2 else (ofP p N k).1).ok
  split
  ·exact PN.pl_ok _ _
  ·exact (of_ok h N k).1
theorem tm_is {x y : Nat} (h : onB x y = true) {N L : Nat} (hN : N < 2 ^ L) : ∀ k, k ≤ L → (tmQ (q1 x y) N L k).is x y (N / 2 ^ (L - k))
 | 0, _ => by
  rw [Nat.sub_zero, Nat.div_eq_of_lt hN]
  exact QN.zero x y
 | k + 1, hk => by
  have ih := tm_is h hN k (by omega)
  have hh := half_bit N (L - (k + 1))
  have e : L - (k + 1) + 1 = L - k := by omega
  have e2 : L - 1 - k = L - (k + 1) := by omega
  rw [e] at hh
  have hd := QN.pl_is h ih ih
  unfold tmQ
  rw [e2]
  split
  ·rename_i hb
   rw [hb] at hh
   have := QN.pl_is h hd (QN.one x y)
   rw [hh]
   exact this
  ·rename_i hb
   have hb : N / 2 ^ (L - (k + 1)) % 2 = 0 := by omega
   rw [hb, Nat.add_zero] at hh
   rw [hh]
   exact hd
theorem of_is {x y : Nat} (h : onB x y = true) (N : Nat) : ∀ k, (ofP ⟨x % FP, y % FP, 1⟩ N k).1.is x y (N % 2 ^ k) ∧ (ofP ⟨x % FP, y % FP, 1⟩ N k).2.is x y (2 ^ k)
 | 0 => by
  rw [Nat.pow_zero, Nat.mod_one]
  exact ⟨PN.zero x y, PN.one x y⟩
 | k + 1 => by
  obtain ⟨h1, h2⟩ := of_is h N k
  have hd := PN.pl_is h h2 h2
  have e1 : N % 2 ^ (k + 1) = N % 2 ^ k + 2 ^ k * (N / 2 ^ k % 2) := by rw [Nat.mod_pow_succ]
  refine ⟨?_, by rw [Nat.pow_succ, Nat.mul_two]; exact hd⟩
  show PN.is (if N / 2 ^ k % 2 = 1 then (ofP ⟨x % FP, y % FP, 1⟩ N k).1.pl (ofP ⟨x % FP, y % FP, 1⟩ N k).2 else (ofP ⟨x % FP, y % FP, 1⟩ N k).1) x y _
  rw [e1]
  split
  ·rename_i hb
   rw [hb, Nat.mul_one]
   exact PN.pl_is h h1 h2
  ·rename_i hb
   have hb : N / 2 ^ k % 2 = 0 := by omega
   rw [hb, Nat.mul_zero, Nat.add_zero]
   exact h1
theorem q1_O {l m : List Int} : qnO (quD l m [1, 0, 0, 0] (nB 18446744073709551616 4 (wv l * wv m % FP))) = q1 (wv l) (wv m) := by
 show (⟨wv l, wv m, 1, vB 18446744073709551616 (nB 18446744073709551616 4 (wv l * wv m % FP))⟩ : QN) = _
 rw [wnm]
 rfl
theorem q1_D {l m : List Int} (hl : isN l) (hm : isN m) : quD l m [1, 0, 0, 0] (nB 18446744073709551616 4 (wv l * wv m % FP)) = qnD (q1 (wv l) (wv m)) := by
 show quD l m [1, 0, 0, 0] (nB 18446744073709551616 4 (wv l * wv m % FP)) = quD (nB 18446744073709551616 4 (wv l)) (nB 18446744073709551616 4 (wv m)) (nB 18446744073709551616 4 1) (nB 18446744073709551616 4 (wv l * wv m % FP))
 rw [num_nB hl, num_nB hm]
 rfl
theorem on_lt {x y : Nat} (h : onB x y = true) : x < FP ∧ y < FP := by
 unfold onB at h
 rw [Bool.and_eq_true, Bool.and_eq_true] at h
 exact ⟨of_decide_eq_true h.1.1, of_decide_eq_true h.1.2⟩
theorem q1_ok {x y : Nat} (h : onB x y = true) : (q1 x y).ok := ⟨(on_lt h).1, (on_lt h).2, oneFP, mlt _⟩
theorem fe_nB {l : List Int} (h : isF l) : nB 65536 16 (vB 65536 l) = l := by
 have := nB_vB (b := 65536) (l := l) (fun x hx => h.1 x hx)
 rwa [h.2] at this
theorem p_D {a b c : List Int} (ha : isF a) (hb : isF b) (hc : isF c) : pnD (pnO (pjD a b c)) = pjD a b c := by
 show pjD (nB 65536 16 (vB 65536 a)) (nB 65536 16 (vB 65536 b)) (nB 65536 16 (vB 65536 c)) = _
 rw [fe_nB ha, fe_nB hb, fe_nB hc]
namespace Q
set_option maxRecDepth 100000 in
theorem m14 : Meets Try.prog 14 sp14q := by
 refine meets_of_owed (C := c10) ⟨tab_ok, lkS_ok ⟨m27, m28, m29, m30, m31, trivial⟩⟩ (by kernel_rfl) (by kernel_rfl : Try.prog.funcs[14]? = some Try.f14) (by kernel_rfl) (by kernel_rfl) (by kernel_rfl) _ ?_
 rintro _ ⟨a, b, rfl, ha, hb⟩
 refine ⟨fun _ => rfl, fun _ => none, ?_⟩
 show owed c10 (fun _ => none) Try.f14 [quD (nB 18446744073709551616 4 a.x) (nB 18446744073709551616 4 a.y) (nB 18446744073709551616 4 a.z) (nB 18446744073709551616 4 a.t), quD (nB 18446744073709551616 4 b.x) (nB 18446744073709551616 4 b.y) (nB 18446744073709551616 4 b.z) (nB 18446744073709551616 4 b.t)] (qnD ((qnO (qnD a)).pl (qnO (qnD b))))
 rw [vc14, qn_w ha, qn_w hb]
 have hdN := N_d
 unfold qnD QN.pl qE qF qG qH qA qB qC qZ
 simp (decide := true) only [eq_self, true_and, and_true, ne_eq, not_false_eq_true, wnm, wns, wdN, wl ha.1, wl ha.2.1, wl ha.2.2.1, wl ha.2.2.2, wl hb.1, wl hb.2.1, wl hb.2.2.1, wl hb.2.2.2]
 and_intros <;> first | exact True.intro | (refine ⟨_, _, rfl, ?_, ?_⟩ <;> first | exact nN _ | assumption) | rfl
set_option maxRecDepth 100000 in
theorem m24 : Meets Try.prog 24 sp24q := by
 refine meets_of_owed (C := c24) ⟨tab_ok, lkS_ok ⟨m19, m21, m40, m22, trivial⟩⟩ (by kernel_rfl) (by kernel_rfl : Try.prog.funcs[24]? = some Try.f24) (by kernel_rfl) (by kernel_rfl) (by kernel_rfl) _ ?_
 rintro _ ⟨a, b, rfl, ha, hb⟩
 refine ⟨fun _ => rfl, fun _ => none, ?_⟩
 show owed c24 (fun _ => none) Try.f24 [pjD (nB 65536 16 a.x) (nB 65536 16 a.y) (nB 65536 16 a.z), pjD (nB 65536 16 b.x) (nB 65536 16 b.y) (nB 65536 16 b.z)] (pnD ((pnO (pnD a)).pl (pnO (pnD b))))
 rw [vc24, pn_w ha, pn_w hb]
 have hdN := F_d
 unfold pnD PN.pl rX rY rZ rE rB rS
 simp (decide := true) only [eq_self, true_and, and_true, ne_eq, not_false_eq_true, fnm, fns, fdN, fl ha.1, fl ha.2.1, fl ha.2.2, fl hb.1, fl hb.2.1, fl hb.2.2]
 and_intros <;> first | exact True.intro | (refine ⟨_, _, rfl, ?_, ?_⟩ <;> first | exact nF _ | assumption) | rfl
end Q
end Go.Proofs.Ytpkcmjfmoemekaa
namespace Go.Proofs.Ytpkcmjfmoemekaa
open Go Go.Vg
set_option maxRecDepth 100000 in
theorem ok247  (d : D)  :
    (OkT tab 7 24 d) = (
 ∃ (l : List Int), d = D.arr .u64 4 l ∧ l.length = 4 ∧ ∀ (z : Int), z ∈ l → (0 : Int) ≤ z ∧ z ≤ IntKind.u64.max) := by kernel_rfl
set_option maxRecDepth 100000 in
theorem ok67  (d : D)  :
    (OkT tab 8 26 d) = (
 ∃ (ds : List D), d = D.st ds ∧ OkL (OkT tab 7) [(0, (24 : TypeId)), (4, (24 : TypeId))] ds) := by kernel_rfl
theorem num_of7 {d : D} (h : OkT tab 7 24 d) : ∃ l, d = num4 l ∧ okw l ∧ l.length = 4 := by
 rw [ok247] at h
 obtain ⟨l, rfl, h1, h2⟩ := h
 exact ⟨l, rfl, fun x hx => ⟨(h2 x hx).1, Int.lt_of_le_of_lt (h2 x hx).2 (by decide)⟩, h1⟩
theorem pt_of {d : D} (h : OkT tab 8 26 d) : ∃ l m, d = ptD l m ∧ isN l ∧ isN m := by
 rw [ok67] at h
 obtain ⟨ds, rfl, h⟩ := h
 match ds, h with
 | [x, y], h =>
  have h1 : OkT tab 7 24 x := h.1
  have h2 : OkT tab 7 24 y := h.2.1
  obtain ⟨l, rfl, a1, a2⟩ := num_of7 h1
  obtain ⟨m, rfl, b1, b2⟩ := num_of7 h2
  exact ⟨l, m, rfl, ⟨a1, a2⟩, b1, b2⟩
 | _ :: _ :: _ :: _, h => cases h.2.2
 | [_], h => cases h.2
 | [], h => cases h
theorem eqB_refl (l : List Int) : eqB l l = true := by rw [eqB_iff]
theorem t_no {x y : Nat} (h : onB x y = false) (n : Nat) : tX x y n = 0 ∧ tY x y n = 0 ∧ ngO x y = 1 := by
 unfold tX tY ngO
 rw [h]
 exact ⟨if_neg (by decide), if_neg (by decide), if_neg (by decide)⟩
theorem t_yes {x y : Nat} (h : onB x y = true) (n : Nat) : tX x y n = (mlN x y n).1.val ∧ tY x y n = (mlN x y n).2.val ∧ ngO x y = 0 := by
 unfold tX tY ngO
 rw [h]
 exact ⟨if_pos rfl, if_pos rfl, if_pos rfl⟩
theorem wF_qn {q : QN} (h : q.ok) : wF (qnD q) 0 = q.x ∧ wF (qnD q) 1 = q.y ∧ wF (qnD q) 2 = q.z := ⟨wl h.1, wl h.2.1, wl h.2.2.1⟩
theorem q0_D (q : QN) (N L : Nat) : quD [0, 0, 0, 0] [1, 0, 0, 0] [1, 0, 0, 0] (nB 18446744073709551616 4 (0 * 1 % FP)) = qnD (tmQ q N L 0) := by
 show _ = quD (nB 18446744073709551616 4 0) (nB 18446744073709551616 4 1) (nB 18446744073709551616 4 1) (nB 18446744073709551616 4 (0 * 1 % FP))
 rw [show nB 18446744073709551616 4 0 = [0, 0, 0, 0] from rfl, show nB 18446744073709551616 4 1 = [1, 0, 0, 0] from rfl]
theorem p0_D (p : PN) (N : Nat) : pjD [0, 0, 0, 0, 0, 0, 0, 0, 0, 0, 0, 0, 0, 0, 0, 0] [1, 0, 0, 0, 0, 0, 0, 0, 0, 0, 0, 0, 0, 0, 0, 0] [1, 0, 0, 0, 0, 0, 0, 0, 0, 0, 0, 0, 0, 0, 0, 0] = pnD (ofP p N 0).1 := by
 show _ = pjD (nB 65536 16 0) (nB 65536 16 1) (nB 65536 16 1)
 rw [show nB 65536 16 0 = [0, 0, 0, 0, 0, 0, 0, 0, 0, 0, 0, 0, 0, 0, 0, 0] from rfl, show nB 65536 16 1 = [1, 0, 0, 0, 0, 0, 0, 0, 0, 0, 0, 0, 0, 0, 0, 0] from rfl]
namespace T
set_option maxRecDepth 100000 in
theorem m4 : Meets Try.prog 4 sp4 := by
 refine meets_of_owed (C := c4) ⟨tab_ok, lkS_ok ⟨m10, m11, m12, m13, Q.m14, m15, m16, trivial⟩⟩ (by kernel_rfl) (by kernel_rfl : Try.prog.funcs[4]? = some Try.f4) (by kernel_rfl) (by kernel_rfl) (by kernel_rfl) _ ?_
 rintro _ ⟨a, l, m, rfl, ha, hl, hm⟩
 refine ⟨fun _ => rfl, inv4 a l m, ?_⟩
 show owed c4 (inv4 a l m) Try.f4 [num4 a, ptD l m] (.tup [.st [n4 (tX (wv l) (wv m) (wv a)), n4 (tY (wv l) (wv m) (wv a))], i64 (ngO (wv l) (wv m))])
 rw [vc4]
 have hq1 := q1_D hl hm
 have hqO := q1_O (l := l) (m := m)
 simp only [quD, num4] at hq1 hqO
 have h2 := wv_lt' ha
 have hA : wv a = vB 18446744073709551616 a := rfl
 have hL : wv l = vB 18446744073709551616 l := rfl
 have hM : wv m = vB 18446744073709551616 m := rfl
 rw [hL, hM] at hq1 hqO
 simp only [hq1] at hqO ⊢
 rw [hA, hL, hM]
 generalize vB 18446744073709551616 a = N at h2 ⊢
 have b1 := bl2_lt N
 have b2 := bl2_le h2
 simp (decide := true) only [eq_self, true_and, and_true, ne_eq, not_false_eq_true, Int.toNat_natCast]
 cases h : onB (vB 18446744073709551616 l) (vB 18446744073709551616 m) with
 | false =>
  obtain ⟨e1, e2, e3⟩ := t_no h N
  rw [e1, e2, e3]
  exact ⟨⟨_, _, rfl, hl, hm⟩, rfl⟩
 | true =>
  obtain ⟨e1, e2, e3⟩ := t_yes h N
  rw [e1, e2, e3]
  have g1 : IntKind.i64.wrap ((bl2 N : Int) - 1) = (bl2 N : Int) - 1 := wi (by omega) (by omega)
  have g2 : ((bl2 N : Int) - 1 + 1).toNat = bl2 N := by omega
  have hq := q1_ok h
  have hT : ∀ k, (tmQ (q1 (vB 18446744073709551616 l) (vB 18446744073709551616 m)) N (bl2 N) k).ok := tm_ok N (bl2 N)
  simp (decide := true) only [g1, g2, w0, w1, Nat.sub_self, eq_self, true_and, and_true, ne_eq, not_false_eq_true, Bool.not_true]
  refine ⟨⟨_, _, rfl, hl, hm⟩, ⟨_, _, rfl, N_0, N_1⟩, ⟨_, _, rfl, hl, hm⟩, ⟨_, rfl, ha⟩, ⟨congrArg (fun d => some (Blk.fix d)) (q0_D _ _ _), Nat.le_refl _⟩, ?_⟩
  intro x hx
  split
  ·rename_i hd
   have hd := of_decide_eq_true hd
   obtain ⟨y, rfl⟩ : ∃ y, x = y + 1 := ⟨x - 1, by omega⟩
   have e3 : (((y + 1 : Nat) : Int) - 1) = (y : Int) := by omega
   have e4 : IntKind.i64.wrap ((y : Int) - 1) = (y : Int) - 1 := wi (by omega) (by omega)
   have e5 : ((y : Int) - 1 + 1).toNat = y := by omega
   have hb : bitN N (y : Int) = N / 2 ^ y % 2 := by
    unfold bitN
    rw [if_pos ⟨by omega, by omega⟩, Int.toNat_natCast]
   have hi : i64ok (y : Int) := by unfold i64ok; omega
   have e6 : bl2 N - y = (bl2 N - (y + 1)) + 1 := by omega
   have e7 : bl2 N - 1 - (bl2 N - (y + 1)) = y := by omega
   have hk := hT (bl2 N - (y + 1))
   rw [e3, e4, e5, e6, hb, qn_w hk, qn_w (QN.pl_ok _ _), qn_w hq]
   have hstep : tmQ (q1 (vB 18446744073709551616 l) (vB 18446744073709551616 m)) N (bl2 N) (bl2 N - (y + 1) + 1) = if N / 2 ^ y % 2 = 1 then ((tmQ (q1 (vB 18446744073709551616 l) (vB 18446744073709551616 m)) N (bl2 N) (bl2 N - (y + 1))).pl (tmQ (q1 (vB 18446744073709551616 l) (vB 18446744073709551616 m)) N (bl2 N) (bl2 N - (y + 1)))).pl (q1 (vB 18446744073709551616 l) (vB 18446744073709551616 m)) else (tmQ (q1 (vB 18446744073709551616 l) (vB 18446744073709551616 m)) N (bl2 N) (bl2 N - (y + 1))).pl (tmQ (q1 (vB 18446744073709551616 l) (vB 18446744073709551616 m)) N (bl2 N) (bl2 N - (y + 1))) := by
    rw [tmQ, e7]
   rw [hstep]
   generalize tmQ (q1 (vB 18446744073709551616 l) (vB 18446744073709551616 m)) N (bl2 N) (bl2 N - (y + 1)) = w at hk ⊢
   have hbit : N / 2 ^ y % 2 = 0 ∨ N / 2 ^ y % 2 = 1 := by omega
   refine ⟨⟨_, _, rfl, hk, hk⟩, ⟨_, _, rfl, ha, hi⟩, ?_⟩
   rcases hbit with hbit | hbit
   ·rw [hbit, if_neg (by decide)]
    refine ⟨⟨rfl, rfl⟩, ?_⟩
    omega
   ·rw [hbit, if_pos rfl]
    refine ⟨⟨_, _, rfl, QN.pl_ok _ _, hq⟩, ⟨rfl, rfl⟩, ?_⟩
    omega
  ·rename_i hd
   have hd := of_decide_eq_false hd
   have hx : x = 0 := by omega
   subst hx
   have hk := hT (bl2 N)
   have hi := tm_is h b1 (bl2 N) (Nat.le_refl _)
   rw [Nat.sub_self, Nat.pow_zero, Nat.div_one] at hi
   rw [Nat.sub_zero]
   generalize tmQ (q1 (vB 18446744073709551616 l) (vB 18446744073709551616 m)) N (bl2 N) (bl2 N) = w at hk hi ⊢
   have ho := QN.out hi hk.2.2.1
   obtain ⟨f1, f2, f3⟩ := wF_qn hk
   rw [wl hk.1, wl hk.2.1, wl hk.2.2.1, ho.1, ho.2]
   exact ⟨⟨_, _, _, _, rfl, nN _, nN _, nN _, nN _⟩, rfl⟩
set_option maxRecDepth 100000 in
theorem m7 : Meets Try.prog 7 sp7 := by
 refine meets_of_owed (C := c7) ⟨tab_ok, lkS_ok ⟨m20, m23, Q.m24, trivial⟩⟩ (by kernel_rfl) (by kernel_rfl : Try.prog.funcs[7]? = some Try.f7) (by kernel_rfl) (by kernel_rfl) (by kernel_rfl) _ ?_
 rintro _ ⟨a, b, c, m, rfl, ⟨ha, hb, hc⟩, ⟨la, lb, lc⟩, hm, hml, hlen⟩
 refine ⟨fun _ => rfl, inv7 (pnO (pjD a b c)) m, ?_⟩
 show owed c7 (inv7 (pnO (pjD a b c)) m) Try.f7 [pjD a b c, dgs m] (pnD (ofP (pnO (pjD a b c)) (vB 65536 m) (16 * m.length)).1)
 rw [vc7]
 have hp : (pnO (pjD a b c)).ok := ⟨la, lb, lc⟩
 have hpD := p_D ha hb hc
 simp only [pjD, fel] at hp hpD
 generalize pnO (D.st [D.arr IntKind.i64 16 a, D.arr IntKind.i64 16 b, D.arr IntKind.i64 16 c]) = p at hp hpD ⊢
 generalize vB 65536 m = N
 have g1 : IntKind.i64.wrap (16 * (m.length : Int)) = ((16 * m.length : Nat) : Int) := by rw [wi (by omega) (by omega)]; omega
 have hO := of_ok hp N
 simp (decide := true) only [g1, Int.toNat_natCast, show Int.toNat 0 = 0 from rfl, nB_length, eq_self, true_and, and_true, ne_eq, not_false_eq_true]
 refine ⟨⟨0, rfl, by decide⟩, ⟨1, rfl, by decide⟩, ⟨1, rfl, by decide⟩, ⟨_, _, rfl, hm, hml, by omega, by omega⟩, ⟨⟨rfl, congrArg (fun d => some (Blk.fix d)) hpD.symm, congrArg (fun d => some (Blk.fix d)) (p0_D p N)⟩, Nat.zero_le _⟩, fun x hx => ?_⟩
 split
 ·rename_i h
  have h : x < 16 * m.length := by have := of_decide_eq_true h; omega
  have hb := nB_get 2 (16 * m.length) N x h
  have hk := hO x
  have e1 : IntKind.i64.wrap ((x : Int) + 1) = ((x + 1 : Nat) : Int) := by rw [wi (by omega) (by omega)]; omega
  rw [hb, e1, Int.toNat_natCast, pn_w hk.1, pn_w hk.2]
  have s1 : (ofP p N (x + 1)).1 = if N / 2 ^ x % 2 = 1 then (ofP p N x).1.pl (ofP p N x).2 else (ofP p N x).1 := rfl
  have s2 : (ofP p N (x + 1)).2 = (ofP p N x).2.pl (ofP p N x).2 := rfl
  rw [s1, s2]
  have hbit : N / 2 ^ x % 2 = 0 ∨ N / 2 ^ x % 2 = 1 := by omega
  rcases hbit with hbit | hbit
  ·rw [hbit, if_neg (by decide)]
   refine ⟨⟨by omega, by omega⟩, ⟨_, _, rfl, hk.2, hk.2⟩, ?_⟩
   and_intros <;> first | trivial | rfl | omega
  ·rw [hbit, if_pos rfl]
   refine ⟨⟨by omega, by omega⟩, ⟨_, _, rfl, hk.1, hk.2⟩, ⟨_, _, rfl, hk.2, hk.2⟩, ?_⟩
   and_intros <;> first | trivial | rfl | omega
 ·rename_i h
  have h : x = 16 * m.length := by have := of_decide_eq_false h; omega
  subst h
  rfl
end T
set_option maxRecDepth 100000 in
theorem m3 : Meets Try.prog 3 (lawSpec tab Try.f3.params.toList) := by
 refine meets_of_owed (C := c3) ⟨tab_ok, lkS_ok ⟨T.m4, m5, m6, T.m7, m8, m9, trivial⟩⟩ (by kernel_rfl) (by kernel_rfl : Try.prog.funcs[3]? = some Try.f3) (by kernel_rfl) (by kernel_rfl) (by kernel_rfl) _ ?_
 intro ds hds
 obtain ⟨a, l, m, rfl, ha, hl, hm⟩ : ∃ a l m, ds = [num4 a, ptD l m] ∧ isN a ∧ isN l ∧ isN m := by
  have h : OkAll tab 8 [24, 26] ds := hds
  match ds, h with
  | [x, y], h =>
   obtain ⟨a, rfl, h1, h2⟩ := num_of h.1
   obtain ⟨l', m', rfl, h3⟩ := pt_of h.2.1
   exact ⟨a, l', m', rfl, ⟨h1, h2⟩, h3⟩
  | _ :: _ :: _ :: _, h => cases h.2.2
  | [_], h => cases h.2
  | [], h => cases h
 refine ⟨fun _ => rfl, fun _ => none, ?_⟩
 show owed c3 (fun _ => none) Try.f3 [num4 a, ptD l m] (bl true)
 rw [vc3]
 have h2 := wv_lt' ha
 generalize hN : vB 18446744073709551616 a = N at h2 ⊢
 have hdl : (dg N).length ≤ 16 := dg_len 16 N (Nat.lt_of_lt_of_le h2 (by decide))
 have hdk := dg_ok N
 have hdv := vl_dg N
 have hlt := vB_lt (b := 65536) hdk
 rw [hdv] at hlt
 simp (decide := true) only [hdv, eq_self, true_and, and_true, ne_eq, not_false_eq_true]
 refine ⟨⟨_, _, _, rfl, ha, hl, hm⟩, ⟨_, _, rfl, hl, hm⟩, ?_⟩
 cases h : onB (vB 18446744073709551616 l) (vB 18446744073709551616 m) with
 | false =>
  obtain ⟨e1, e2, e3⟩ := t_no h N
  rw [e1, e2, e3, show nB 18446744073709551616 4 0 = [0, 0, 0, 0] from rfl, eqB_refl]
  rfl
 | true =>
  obtain ⟨e1, e2, e3⟩ := t_yes h N
  obtain ⟨hx, hy⟩ := on_lt h
  rw [e1, e2, e3]
  have hp : pnO (pjD (nB 65536 16 (vB 18446744073709551616 l % FP)) (nB 65536 16 (vB 18446744073709551616 m % FP)) oneF) = ⟨vB 18446744073709551616 l % FP, vB 18446744073709551616 m % FP, 1⟩ := by
   show (⟨vB 65536 (nB 65536 16 (vB 18446744073709551616 l % FP)), vB 65536 (nB 65536 16 (vB 18446744073709551616 m % FP)), vB 65536 oneF⟩ : PN) = _
   rw [fnm, fnm, f1]
  simp only [pjD, fel] at hp
  simp only [hp]
  have hpo : PN.ok ⟨vB 18446744073709551616 l % FP, vB 18446744073709551616 m % FP, 1⟩ := ⟨mlt _, mlt _, oneFP⟩
  have hk := (of_ok hpo N (16 * (dg N).length)).1
  have hi := (of_is h N (16 * (dg N).length)).1
  rw [Nat.mod_eq_of_lt (show N < 2 ^ (16 * (dg N).length) by rw [Nat.pow_mul]; exact hlt)] at hi
  generalize (ofP ⟨vB 18446744073709551616 l % FP, vB 18446744073709551616 m % FP, 1⟩ N (16 * (dg N).length)).1 = w at hk hi ⊢
  have ho := PN.out hi hk.2.2
  rw [fl hk.1, fl hk.2.1, fl hk.2.2, ho.1, ho.2, eqB_refl, eqB_refl]
  have lo : lenOk (dg N) := by unfold lenOk; omega
  refine ⟨⟨_, _, rfl, hl, hm⟩, ⟨_, rfl, ha⟩, ⟨_, _, _, _, rfl, ⟨nF _, nF _, F_1⟩, ⟨?_, ?_, ?_⟩, hdk, lo, by omega⟩, ⟨_, _, _, rfl, nF _, nF _, nF _⟩, rfl⟩
  ·rw [fnm]; exact mlt _
  ·rw [fnm]; exact mlt _
  ·rw [f1]; exact oneFP
end Go.Proofs.Ytpkcmjfmoemekaa
