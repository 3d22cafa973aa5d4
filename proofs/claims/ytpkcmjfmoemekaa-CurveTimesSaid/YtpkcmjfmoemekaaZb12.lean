/- The numbers modulo 2^255 - 19 of the reference: specs. -/
import Derived.Test.YtpkcmjfmoemekaaZb11
import Derived.Test.YtpkcmjfmoemekaaZb9
namespace Go.Proofs.Ytpkcmjfmoemekaa
open Go Go.Vg
abbrev fel (l : List Int) : D := .arr .i64 16 l
abbrev fe (v : Nat) : D := fel (nB 65536 16 v)
abbrev fA (ds : List D) : Nat := vB 65536 (arrOf (ds.headD default))
abbrev fB (ds : List D) : Nat := vB 65536 (arrOf (ds.getD 1 default))
def isF (l : List Int) : Prop := okd l ∧ l.length = 16
def okL (l : List Int) : Prop := (∀ x ∈ l, 0 ≤ x ∧ x < 1099511627776) ∧ l.length = 17
noncomputable def dgF : List Int := opq (dg FP)
def dFe : List Int := [30883, 4953, 19914, 30187, 55467, 16705, 2637, 112, 59544, 30585, 16505, 36039, 65139, 11119, 27886, 20995]
def lsN (t : List Int) : Nat := vB 65536 (t.take 16) + 38 * (t.getD 16 0).toNat
def lsR (t : List Int) : Nat → List Int
 | 0 => t
 | r + 1 => nB 65536 16 (lsN (lsR t r)) ++ [((lsN (lsR t r) / 115792089237316195423570985008687907853269984665640564039457584007913129639936 : Nat) : Int)]
def lsI (l : List Int) (c i : Nat) : List Int := nB 65536 i (c + vB 65536 (l.take i)) ++ l.drop i
def lsC (l : List Int) (c i : Nat) : Nat := (c + vB 65536 (l.take i)) / 65536 ^ i
def mdF (i : Nat) : Int := if i = 0 then 65517 else if i = 15 then 32767 else 65535
def lsB (l : List Int) (i : Nat) : Nat := bor (vB 65536 (l.take i)) (FP % 65536 ^ i)
def lsD (l : List Int) (i : Nat) : List Int := nB 65536 i (vB 65536 (l.take i) + 65536 ^ i - FP % 65536 ^ i) ++ List.replicate (16 - i) 0
noncomputable def sp36 : Go.Vg.Spec := ⟨fun ds => ds.length = 0, fun _ => dgs dgF, false, []⟩
def sp22 : Go.Vg.Spec := ⟨fun ds => ds.length = 0, fun _ => fel dFe, true, []⟩
def sp20 : Go.Vg.Spec := ⟨fun ds => ∃ n, ds = [i64n n] ∧ n < 65536, fun ds => fel [numOf (ds.headD default), 0, 0, 0, 0, 0, 0, 0, 0, 0, 0, 0, 0, 0, 0, 0], true, [3]⟩
def sp38 : Go.Vg.Spec := ⟨fun ds => ∃ t, ds = [.arr .i64 17 t] ∧ okL t, fun ds => fe (fA ds % FP), true, [64]⟩
def sp34 : Go.Vg.Spec := ⟨fun ds => ∃ l, ds = [dgs l] ∧ okd l ∧ lenOk l, fun ds => fe (vB 65536 (intsOf (ds.headD default))), true, [37]⟩
def sp17 : Go.Vg.Spec := ⟨fun ds => ∃ l, ds = [num4 l] ∧ isN l, fun ds => fe (wA ds % FP), true, [24]⟩
def sp18 : Go.Vg.Spec := ⟨fun ds => ∃ l, ds = [fel l] ∧ isF l, fun ds => n4 (fA ds), true, [32]⟩
def sp21 : Go.Vg.Spec := ⟨fun ds => ∃ l m, ds = [fel l, fel m] ∧ isF l ∧ isF m, fun ds => fe ((fA ds + fB ds) % FP), true, [32, 32]⟩
def sp40 : Go.Vg.Spec := ⟨fun ds => ∃ l m, ds = [fel l, fel m] ∧ isF l ∧ isF m, fun ds => fe (fsb (fA ds) (fB ds)), true, [32, 32]⟩
def sp19 : Go.Vg.Spec := ⟨fun ds => ∃ l m, ds = [fel l, fel m] ∧ isF l ∧ isF m, fun ds => fe (fA ds * fB ds % FP), true, [32, 32]⟩
noncomputable def sp42 : Go.Vg.Spec := ⟨fun ds => ∃ l m, ds = [fel l, dgs m] ∧ isF l ∧ okd m ∧ lenOk m ∧ vB 65536 m < 2 ^ 256, fun ds => fe (fpw (fA ds) (vB 65536 (intsOf (ds.getD 1 default)))), true, [32, 37]⟩
noncomputable def sp26 : Go.Vg.Spec := ⟨fun ds => ∃ l, ds = [fel l] ∧ isF l, fun ds => fe (fpw (fA ds) (FP - 2)), true, [32]⟩
noncomputable def c36 : Ctx := ⟨tab, lkS [(52, sp52), (43, sp43)], [], []⟩
def c34 : Ctx := ⟨tab, lkS [(39, sp39)], [], []⟩
noncomputable def c17 : Ctx := ⟨tab, lkS [(8, sp8), (36, sp36), (35, sp35), (34, sp34)], [], []⟩
def c18 : Ctx := ⟨tab, lkS [(37, sp37)], [], []⟩
def c21 : Ctx := ⟨tab, lkS [(38, sp38)], [], []⟩
noncomputable def c42 : Ctx := ⟨tab, lkS [(20, sp20), (23, sp23), (19, sp19)], [], []⟩
noncomputable def c26 : Ctx := ⟨tab, lkS [(36, sp36), (43, sp43), (42, sp42)], [], []⟩
def inv38 (t : List Int) : Nat → Option Inv
 | 2 => some ⟨Nat, fun r => [(11, .d (i64n r))], fun r => [(1, .fix (.arr .i64 17 (lsR t r)))], fun s => (slotN s 11).toNat, fun _ r => r ≤ 3, fun r => 3 - r⟩
 | 6 => some ⟨Nat × Nat × List Int, fun x => [(17, .d (i64n x.1)), (3, .d (i64n x.2.1))], fun x => [(1, .fix (.arr .i64 17 x.2.2))], fun s => ((slotN s 17).toNat, (slotN s 3).toNat, rowD s 1),
   fun s x => x.1 ≤ 16 ∧ x.2.1 = lsC (rowD s 1) (slotN s 3).toNat x.1 ∧ x.2.2 = lsI (rowD s 1) (slotN s 3).toNat x.1, fun x => 16 - x.1⟩
 | 16 => some ⟨Nat, fun _ => [], fun v => [(5, .fix (fe v))], fun s => vB 65536 (rowD s 5), fun s v => v < 2 ^ 256 ∧ v % FP = vB 65536 (rowD s 5) % FP, fun v => v⟩
 | 100023 => some ⟨Nat, fun i => [(9, .d (i64 (mdF i)))], fun _ => [], fun s => (slotN s 8).toNat, fun s i => (i : Int) = slotN s 8, fun _ => 0⟩
 | 19 => some ⟨Nat × Nat × List Int, fun x => [(38, .d (i64n x.1)), (6, .d (i64n x.2.1))], fun x => [(7, .fix (fel x.2.2))], fun s => ((slotN s 38).toNat, (slotN s 6).toNat, rowD s 7),
   fun s x => x.1 ≤ 16 ∧ x.2.1 = lsB (rowD s 5) x.1 ∧ x.2.2 = lsD (rowD s 5) x.1, fun x => 16 - x.1⟩
 | _ => none
def inv34 (l : List Int) : Nat → Option Inv
 | 3 => some ⟨Nat, fun i => [(5, .d (i64n i))], fun i => [(3, .fix (fel (nB 65536 i (vB 65536 l) ++ List.replicate (16 - i) 0)))], fun s => (slotN s 5).toNat, fun _ i => i ≤ 16, fun i => 16 - i⟩
 | _ => none
def plF (l m : List Int) (i : Nat) : List Int := (List.range i).map fun j => l.getD j 0 + m.getD j 0
def miF (i : Nat) : Int := if i = 0 then 262068 else if i = 15 then 131068 else 262140
def lsF (l m : List Int) (i : Nat) : List Int := (List.range i).map fun j => l.getD j 0 + miF j - m.getD j 0
def inv21 (l m : List Int) : Nat → Option Inv
 | 3 => some ⟨Nat, fun i => [(7, .d (i64n i))], fun i => [(5, .fix (.arr .i64 17 (plF l m i ++ List.replicate (17 - i) 0)))], fun s => (slotN s 7).toNat, fun _ i => i ≤ 16, fun i => 16 - i⟩
 | _ => none
def inv40 (l m : List Int) : Nat → Option Inv
 | 3 => some ⟨Nat, fun i => [(8, .d (i64n i))], fun i => [(5, .fix (.arr .i64 17 (lsF l m i ++ List.replicate (17 - i) 0)))], fun s => (slotN s 8).toNat, fun _ i => i ≤ 16, fun i => 16 - i⟩
 | 100007 => some ⟨Nat, fun i => [(7, .d (i64 (miF i)))], fun _ => [], fun s => (slotN s 6).toNat, fun s i => (i : Int) = slotN s 6, fun _ => 0⟩
 | _ => none
structure ByI (l m : List Int) (i : Nat) (out : List Int) : Prop where
 len : out.length = 32
 ok : ∀ j, 0 ≤ out.getD j 0 ∧ out.getD j 0 ≤ i * 4294836225
 val : vB 65536 out = vB 65536 (l.take i) * vB 65536 m
structure ByJ (l m : List Int) (i k : Nat) (out : List Int) : Prop where
 len : out.length = 32
 ok : ∀ j, 0 ≤ out.getD j 0 ∧ out.getD j 0 ≤ i * 4294836225 + (if j < i + k then 4294836225 else 0)
 val : vB 65536 out = vB 65536 (l.take i) * vB 65536 m + 65536 ^ i * ((l.getD i 0).toNat * vB 65536 (m.take k))
def byS (p : List Int) (i : Nat) : Nat := vB 65536 (p.take i) + 38 * vB 65536 ((p.drop 16).take i)
def inv19 (l m : List Int) : Nat → Option Inv
 | 3 => some ⟨Nat × List Int, fun x => [(11, .d (i64n x.1))], fun x => [(5, .fix (.arr .i64 32 x.2))], fun s => ((slotN s 11).toNat, rowD s 5), fun _ x => x.1 ≤ 16 ∧ ByI l m x.1 x.2, fun x => 16 - x.1⟩
 | 6 => some ⟨Nat × List Int, fun x => [(14, .d (i64n x.1))], fun x => [(5, .fix (.arr .i64 32 x.2))], fun s => ((slotN s 14).toNat, rowD s 5), fun s x => x.1 ≤ 16 ∧ ByJ l m (slotN s 11).toNat x.1 x.2, fun x => 16 - x.1⟩
 | 14 => some ⟨Nat × Nat × List Int, fun x => [(33, .d (i64n x.1)), (9, .d (i64n x.2.1))], fun x => [(8, .fix (.arr .i64 17 x.2.2))], fun s => ((slotN s 33).toNat, (slotN s 9).toNat, rowD s 8),
   fun s x => x.1 ≤ 16 ∧ x.2.1 = byS (rowD s 5) x.1 / 65536 ^ x.1 ∧ x.2.2 = nB 65536 x.1 (byS (rowD s 5) x.1) ++ List.replicate (17 - x.1) 0, fun x => 16 - x.1⟩
 | _ => none
noncomputable def twF (l : List Int) (i : Nat) : List Int := if i = 0 then l else nB 65536 16 (fpw (vB 65536 l) (2 ^ i))
noncomputable def inv42 (l m : List Int) : Nat → Option Inv
 | 3 => some ⟨Nat, fun i => [(12, .d (i64n i))], fun i => [(5, .fix (fe (fpw (vB 65536 l) (vB 65536 m % 2 ^ i)))), (2, .fix (fel (twF l i)))], fun s => (slotN s 12).toNat, fun _ i => i ≤ 256, fun i => 256 - i⟩
 | _ => none
set_option maxRecDepth 100000 in
theorem vc36  (F : D)  :
    (owed c36 (fun _ => none) Try.f36 [] F) = (
 True ∧ (∃ (n : Int), [D.val (.int .i64 255)] = [D.val (Value.int IntKind.i64 n)] ∧ (0 : Int) ≤ n ∧ n ≤ (1048576 : Int)) ∧ (1 = 1 ∧ 1 ≤ 4096) ∧ (∃ (l : List Int), ∃ (m : List Int), [D.ints .i64 (dgP 255), D.ints .i64 [(19 : Int)]] = [D.ints .i64 l, D.ints .i64 m] ∧ (okd l ∧ lenS l) ∧ (okd m ∧ lenS m) ∧ vB 65536 m ≤ vB 65536 l) ∧ True ∧ (false = false ∧ True) ∧ D.ints .i64 (dg (vB 65536 (dgP 255) - vB 65536 [(19 : Int)])) = F) := by kernel_rfl
set_option maxRecDepth 100000 in
theorem vc22  (F : D)  :
    (owed c39 (fun _ => none) Try.f22 [] F) = (
 (True ∧ 16 ≠ 0) ∧ (1 = 1 ∧ false = false ∧ (0 < 16 ∧ ([] : List Nat) = [] ∧ true = true) ∧ false = false ∧ (1 < 16 ∧ ([] : List Nat) = [] ∧ true = true) ∧ false = false ∧ (2 < 16 ∧ ([] : List Nat) = [] ∧ true = true) ∧ false = false ∧ (3 < 16 ∧ ([] : List Nat) = [] ∧ true = true) ∧ false = false ∧ (4 < 16 ∧ ([] : List Nat) = [] ∧ true = true) ∧ false = false ∧ (5 < 16 ∧ ([] : List Nat) = [] ∧ true = true) ∧ false = false ∧ (6 < 16 ∧ ([] : List Nat) = [] ∧ true = true) ∧ false = false ∧ (7 < 16 ∧ ([] : List Nat) = [] ∧ true = true) ∧ false = false ∧ (8 < 16 ∧ ([] : List Nat) = [] ∧ true = true) ∧ false = false ∧ (9 < 16 ∧ ([] : List Nat) = [] ∧ true = true) ∧ false = false ∧ (10 < 16 ∧ ([] : List Nat) = [] ∧ true = true) ∧ false = false ∧ (11 < 16 ∧ ([] : List Nat) = [] ∧ true = true) ∧ false = false ∧ (12 < 16 ∧ ([] : List Nat) = [] ∧ true = true) ∧ false = false ∧ (13 < 16 ∧ ([] : List Nat) = [] ∧ true = true) ∧ false = false ∧ (14 < 16 ∧ ([] : List Nat) = [] ∧ true = true) ∧ false = false ∧ (15 < 16 ∧ ([] : List Nat) = [] ∧ true = true) ∧ True) ∧ (Sk.arr 16 = Sk.arr 16 ∧ 16 ≠ 0 ∧ 16 = 16 ∧ false = false) ∧ ((16 ≠ 0 ∧ 16 = 16 ∧ true = true) ∧ True) ∧ D.arr .i64 16 [(30883 : Int), (4953 : Int), (19914 : Int), (30187 : Int), (55467 : Int), (16705 : Int), (2637 : Int), (112 : Int), (59544 : Int), (30585 : Int), (16505 : Int), (36039 : Int), (65139 : Int), (11119 : Int), (27886 : Int), (20995 : Int)] = F) := by kernel_rfl
set_option maxRecDepth 100000 in
theorem vc20  (n : Nat) (F : D)  :
    (owed c39 (fun _ => none) Try.f20 [i64n n] F) = (
 (True ∧ 16 ≠ 0) ∧ True ∧ (1 = 1 ∧ false = false ∧ (0 < 16 ∧ ([] : List Nat) = [] ∧ true = true) ∧ True) ∧ (Sk.arr 16 = Sk.arr 16 ∧ 16 ≠ 0 ∧ 16 = 16 ∧ false = false) ∧ ((16 ≠ 0 ∧ 16 = 16 ∧ true = true) ∧ True) ∧ D.arr .i64 16 [(↑n : Int), (0 : Int), (0 : Int), (0 : Int), (0 : Int), (0 : Int), (0 : Int), (0 : Int), (0 : Int), (0 : Int), (0 : Int), (0 : Int), (0 : Int), (0 : Int), (0 : Int), (0 : Int)] = F) := by kernel_rfl
set_option maxRecDepth 100000 in
theorem vc38  (t : List Int) (F : D)  :
    (owed c39 (inv38 t) Try.f38 [.arr .i64 17 t] F) = (
 (True ∧ false = false) ∧ (True ∧ 16 ≠ 0) ∧ True ∧ (((AV.d (D.val (.int .i64 0)) = AV.d (D.val (.int .i64 (↑(Int.toNat (0 : Int)) : Int))) ∧ True) ∧ (some (Blk.fix (D.arr .i64 17 t)) = some (Blk.fix (D.arr .i64 17 (lsR t (Int.toNat (0 : Int))))) ∧ sm (some (Blk.fix (D.arr .i64 16 [(0 : Int), (0 : Int), (0 : Int), (0 : Int), (0 : Int), (0 : Int), (0 : Int), (0 : Int), (0 : Int), (0 : Int), (0 : Int), (0 : Int), (0 : Int), (0 : Int), (0 : Int), (0 : Int)]))) ∧ True) ∧ true = true) ∧ Int.toNat (0 : Int) ≤ 3) ∧ ∀ (x : Nat), x ≤ 3 → true = true ∧ True ∧ match decide ((↑x : Int) < (3 : Int)) with
 | true => ((0 : Int) ≤ 16 ∧ (16 : Int) < (↑(17 : Nat) : Int) ∧ 17 = 17 ∧ 1 = 1) ∧ (1 ≠ 0 ∧ 1 = 1 ∧ false = false) ∧ True ∧ True ∧ ((0 : Int) ≤ 16 ∧ (16 : Int) < (↑(17 : Nat) : Int) ∧ 17 = 17 ∧ 1 = 1) ∧ ((16 < 17 ∧ ([] : List Nat) = [] ∧ true = true) ∧ 1 ≠ 0 ∧ 1 = 1 ∧ false = false) ∧ True ∧ (((AV.d (D.val (.int .i64 0)) = AV.d (D.val (.int .i64 (↑(0 : Nat) : Int))) ∧ AV.d (D.val (.int .i64 (IntKind.i64.wrap ((lsR t x).getD 16 (0 : Int) * (38 : Int))))) = AV.d (D.val (.int .i64 (↑(IntKind.i64.wrap ((lsR t x).getD 16 (0 : Int) * (38 : Int))).toNat : Int))) ∧ True) ∧ (sm (some (Blk.fix (D.arr .i64 17 ((lsR t x).set 16 (0 : Int))))) ∧ sm (some (Blk.fix (D.arr .i64 16 [(0 : Int), (0 : Int), (0 : Int), (0 : Int), (0 : Int), (0 : Int), (0 : Int), (0 : Int), (0 : Int), (0 : Int), (0 : Int), (0 : Int), (0 : Int), (0 : Int), (0 : Int), (0 : Int)]))) ∧ True) ∧ true = true) ∧ 0 ≤ 16 ∧ (IntKind.i64.wrap ((lsR t x).getD 16 (0 : Int) * (38 : Int))).toNat = lsC ((lsR t x).set 16 (0 : Int)) (IntKind.i64.wrap ((lsR t x).getD 16 (0 : Int) * (38 : Int))).toNat 0 ∧ (lsR t x).set 16 (0 : Int) = lsI ((lsR t x).set 16 (0 : Int)) (IntKind.i64.wrap ((lsR t x).getD 16 (0 : Int) * (38 : Int))).toNat 0) ∧ ∀ (x_1 : Nat × Nat × List Int), x_1.fst ≤ 16 ∧ x_1.snd.fst = lsC ((lsR t x).set 16 (0 : Int)) (IntKind.i64.wrap ((lsR t x).getD 16 (0 : Int) * (38 : Int))).toNat x_1.fst ∧ x_1.snd.snd = lsI ((lsR t x).set 16 (0 : Int)) (IntKind.i64.wrap ((lsR t x).getD 16 (0 : Int) * (38 : Int))).toNat x_1.fst → true = true ∧ True ∧ match decide ((↑x_1.fst : Int) < (16 : Int)) with
  | true => True ∧ True ∧ True ∧ True ∧ ((0 : Int) ≤ (↑x_1.fst : Int) ∧ (↑x_1.fst : Int) < (↑(17 : Nat) : Int) ∧ 17 = 17 ∧ 1 = 1) ∧ (1 ≠ 0 ∧ 1 = 1 ∧ false = false) ∧ True ∧ True ∧ True ∧ True ∧ True ∧ ((0 : Int) ≤ (↑x_1.fst : Int) ∧ (↑x_1.fst : Int) < (↑(17 : Nat) : Int) ∧ 17 = 17 ∧ 1 = 1) ∧ (((↑x_1.fst : Int).toNat < 17 ∧ ([] : List Nat) = [] ∧ true = true) ∧ 1 ≠ 0 ∧ 1 = 1 ∧ false = false) ∧ True ∧ (0 : Int) ≤ 16 ∧ True ∧ True ∧ True ∧ ((AV.d (D.val (.int .i64 (IntKind.i64.wrap ((↑x_1.fst : Int) + (1 : Int))))) = AV.d (D.val (.int .i64 (↑(IntKind.i64.wrap ((↑x_1.fst : Int) + (1 : Int))).toNat : Int))) ∧ AV.d (D.val (.int .i64 (ishr IntKind.i64 (IntKind.i64.wrap ((↑x_1.snd.fst : Int) + x_1.snd.snd.getD (↑x_1.fst : Int).toNat (0 : Int))) (16 : Int)))) = AV.d (D.val (.int .i64 (↑(ishr IntKind.i64 (IntKind.i64.wrap ((↑x_1.snd.fst : Int) + x_1.snd.snd.getD (↑x_1.fst : Int).toNat (0 : Int))) (16 : Int)).toNat : Int))) ∧ True) ∧ (sm (some (Blk.fix (D.arr .i64 17 (x_1.snd.snd.set (↑x_1.fst : Int).toNat (iand IntKind.i64 (IntKind.i64.wrap ((↑x_1.snd.fst : Int) + x_1.snd.snd.getD (↑x_1.fst : Int).toNat (0 : Int))) (65535 : Int)))))) ∧ sm (some (Blk.fix (D.arr .i64 16 [(0 : Int), (0 : Int), (0 : Int), (0 : Int), (0 : Int), (0 : Int), (0 : Int), (0 : Int), (0 : Int), (0 : Int), (0 : Int), (0 : Int), (0 : Int), (0 : Int), (0 : Int), (0 : Int)]))) ∧ True) ∧ true = true) ∧ ((IntKind.i64.wrap ((↑x_1.fst : Int) + (1 : Int))).toNat ≤ 16 ∧ (ishr IntKind.i64 (IntKind.i64.wrap ((↑x_1.snd.fst : Int) + x_1.snd.snd.getD (↑x_1.fst : Int).toNat (0 : Int))) (16 : Int)).toNat = lsC ((lsR t x).set 16 (0 : Int)) (IntKind.i64.wrap ((lsR t x).getD 16 (0 : Int) * (38 : Int))).toNat (IntKind.i64.wrap ((↑x_1.fst : Int) + (1 : Int))).toNat ∧ x_1.snd.snd.set (↑x_1.fst : Int).toNat (iand IntKind.i64 (IntKind.i64.wrap ((↑x_1.snd.fst : Int) + x_1.snd.snd.getD (↑x_1.fst : Int).toNat (0 : Int))) (65535 : Int)) = lsI ((lsR t x).set 16 (0 : Int)) (IntKind.i64.wrap ((lsR t x).getD 16 (0 : Int) * (38 : Int))).toNat (IntKind.i64.wrap ((↑x_1.fst : Int) + (1 : Int))).toNat) ∧ 16 - (IntKind.i64.wrap ((↑x_1.fst : Int) + (1 : Int))).toNat < 16 - x_1.fst
  | false => True ∧ ((0 : Int) ≤ 16 ∧ (16 : Int) < (↑(17 : Nat) : Int) ∧ 17 = 17 ∧ 1 = 1) ∧ ((16 < 17 ∧ ([] : List Nat) = [] ∧ true = true) ∧ 1 ≠ 0 ∧ 1 = 1 ∧ false = false) ∧ True ∧ True ∧ ((AV.d (D.val (.int .i64 (IntKind.i64.wrap ((↑x : Int) + (1 : Int))))) = AV.d (D.val (.int .i64 (↑(IntKind.i64.wrap ((↑x : Int) + (1 : Int))).toNat : Int))) ∧ True) ∧ (some (Blk.fix (D.arr .i64 17 (x_1.snd.snd.set 16 (↑x_1.snd.fst : Int)))) = some (Blk.fix (D.arr .i64 17 (lsR t (IntKind.i64.wrap ((↑x : Int) + (1 : Int))).toNat))) ∧ sm (some (Blk.fix (D.arr .i64 16 [(0 : Int), (0 : Int), (0 : Int), (0 : Int), (0 : Int), (0 : Int), (0 : Int), (0 : Int), (0 : Int), (0 : Int), (0 : Int), (0 : Int), (0 : Int), (0 : Int), (0 : Int), (0 : Int)]))) ∧ True) ∧ true = true) ∧ (IntKind.i64.wrap ((↑x : Int) + (1 : Int))).toNat ≤ 3 ∧ 3 - (IntKind.i64.wrap ((↑x : Int) + (1 : Int))).toNat < 3 - x
 | false => (True ∧ 16 ≠ 0) ∧ ((0 : Int) ≤ 0 ∧ (0 : Int) ≤ (↑(16 : Nat) : Int) ∧ (↑(16 : Nat) : Int) ≤ (↑(16 : Nat) : Int) ∧ 16 = 16 ∧ 1 = 1) ∧ ((0 : Int) ≤ 0 ∧ (0 : Int) ≤ 16 ∧ (16 : Int) ≤ (↑(17 : Nat) : Int) ∧ 17 = 17 ∧ 1 = 1) ∧ (IntKind.i64 = IntKind.i64 ∧ 1 = 1) ∧ ((True ∧ (sm (some (Blk.fix (D.arr .i64 17 (lsR t x)))) ∧ sm (some (Blk.fix (D.arr .i64 16 [(0 : Int), (0 : Int), (0 : Int), (0 : Int), (0 : Int), (0 : Int), (0 : Int), (0 : Int), (0 : Int), (0 : Int), (0 : Int), (0 : Int), (0 : Int), (0 : Int), (0 : Int), (0 : Int)]))) ∧ some (Blk.fix (D.arr .i64 16 (List.take ((List.take 16 (List.drop 0 (lsR t x))).length.min ((↑(16 : Nat) : Int).toNat - Int.toNat (0 : Int))) (List.take 16 (List.drop 0 (lsR t x))) ++ List.drop (0 + (List.take 16 (List.drop 0 (lsR t x))).length.min ((↑(16 : Nat) : Int).toNat - Int.toNat (0 : Int))) [(0 : Int), (0 : Int), (0 : Int), (0 : Int), (0 : Int), (0 : Int), (0 : Int), (0 : Int), (0 : Int), (0 : Int), (0 : Int), (0 : Int), (0 : Int), (0 : Int), (0 : Int), (0 : Int)]))) = some (Blk.fix (D.arr .i64 16 (nB 65536 16 (vB 65536 (List.take ((List.take 16 (List.drop 0 (lsR t x))).length.min ((↑(16 : Nat) : Int).toNat - Int.toNat (0 : Int))) (List.take 16 (List.drop 0 (lsR t x))) ++ List.drop (0 + (List.take 16 (List.drop 0 (lsR t x))).length.min ((↑(16 : Nat) : Int).toNat - Int.toNat (0 : Int))) [(0 : Int), (0 : Int), (0 : Int), (0 : Int), (0 : Int), (0 : Int), (0 : Int), (0 : Int), (0 : Int), (0 : Int), (0 : Int), (0 : Int), (0 : Int), (0 : Int), (0 : Int), (0 : Int)]))))) ∧ True) ∧ true = true) ∧ vB 65536 (List.take ((List.take 16 (List.drop 0 (lsR t x))).length.min ((↑(16 : Nat) : Int).toNat - Int.toNat (0 : Int))) (List.take 16 (List.drop 0 (lsR t x))) ++ List.drop (0 + (List.take 16 (List.drop 0 (lsR t x))).length.min ((↑(16 : Nat) : Int).toNat - Int.toNat (0 : Int))) [(0 : Int), (0 : Int), (0 : Int), (0 : Int), (0 : Int), (0 : Int), (0 : Int), (0 : Int), (0 : Int), (0 : Int), (0 : Int), (0 : Int), (0 : Int), (0 : Int), (0 : Int), (0 : Int)]) < 115792089237316195423570985008687907853269984665640564039457584007913129639936 ∧ vB 65536 (List.take ((List.take 16 (List.drop 0 (lsR t x))).length.min ((↑(16 : Nat) : Int).toNat - Int.toNat (0 : Int))) (List.take 16 (List.drop 0 (lsR t x))) ++ List.drop (0 + (List.take 16 (List.drop 0 (lsR t x))).length.min ((↑(16 : Nat) : Int).toNat - Int.toNat (0 : Int))) [(0 : Int), (0 : Int), (0 : Int), (0 : Int), (0 : Int), (0 : Int), (0 : Int), (0 : Int), (0 : Int), (0 : Int), (0 : Int), (0 : Int), (0 : Int), (0 : Int), (0 : Int), (0 : Int)]) % FP = vB 65536 (List.take ((List.take 16 (List.drop 0 (lsR t x))).length.min ((↑(16 : Nat) : Int).toNat - Int.toNat (0 : Int))) (List.take 16 (List.drop 0 (lsR t x))) ++ List.drop (0 + (List.take 16 (List.drop 0 (lsR t x))).length.min ((↑(16 : Nat) : Int).toNat - Int.toNat (0 : Int))) [(0 : Int), (0 : Int), (0 : Int), (0 : Int), (0 : Int), (0 : Int), (0 : Int), (0 : Int), (0 : Int), (0 : Int), (0 : Int), (0 : Int), (0 : Int), (0 : Int), (0 : Int), (0 : Int)]) %
  FP) ∧ ∀ (x_1 : Nat), x_1 < 115792089237316195423570985008687907853269984665640564039457584007913129639936 ∧ x_1 % FP = vB 65536 (List.take ((List.take 16 (List.drop 0 (lsR t x))).length.min ((↑(16 : Nat) : Int).toNat - Int.toNat (0 : Int))) (List.take 16 (List.drop 0 (lsR t x))) ++ List.drop (0 + (List.take 16 (List.drop 0 (lsR t x))).length.min ((↑(16 : Nat) : Int).toNat - Int.toNat (0 : Int))) [(0 : Int), (0 : Int), (0 : Int), (0 : Int), (0 : Int), (0 : Int), (0 : Int), (0 : Int), (0 : Int), (0 : Int), (0 : Int), (0 : Int), (0 : Int), (0 : Int), (0 : Int), (0 : Int)]) % FP → true = true ∧ True ∧ (True ∧ 16 ≠ 0) ∧ True ∧ (((AV.d (D.val (.int .i64 0)) = AV.d (D.val (.int .i64 (↑(0 : Nat) : Int))) ∧ AV.d (D.val (.int .i64 0)) = AV.d (D.val (.int .i64 (↑(0 : Nat) : Int))) ∧ True) ∧ (sm (some (Blk.fix (D.arr .i64 17 (lsR t x)))) ∧ sm (some (Blk.fix (D.arr .i64 16 [(0 : Int), (0 : Int), (0 : Int), (0 : Int), (0 : Int), (0 : Int), (0 : Int), (0 : Int), (0 : Int), (0 : Int), (0 : Int), (0 : Int), (0 : Int), (0 : Int), (0 : Int), (0 : Int)]))) ∧ sm (some (Blk.fix (D.arr .i64 16 (nB 65536 16 x_1)))) ∧ sm (some (Blk.fix (D.arr .i64 16 [(0 : Int), (0 : Int), (0 : Int), (0 : Int), (0 : Int), (0 : Int), (0 : Int), (0 : Int), (0 : Int), (0 : Int), (0 : Int), (0 : Int), (0 : Int), (0 : Int), (0 : Int), (0 : Int)]))) ∧ True) ∧ true = true) ∧ 0 ≤ 16 ∧ 0 = lsB (nB 65536 16 x_1) 0 ∧ [(0 : Int), (0 : Int), (0 : Int), (0 : Int), (0 : Int), (0 : Int), (0 : Int), (0 : Int), (0 : Int), (0 : Int), (0 : Int), (0 : Int), (0 : Int), (0 : Int), (0 : Int), (0 : Int)] = lsD (nB 65536 16 x_1) 0) ∧ ∀ (x_2 : Nat × Nat × List Int), x_2.fst ≤ 16 ∧ x_2.snd.fst = lsB (nB 65536 16 x_1) x_2.fst ∧ x_2.snd.snd = lsD (nB 65536 16 x_1) x_2.fst → true = true ∧ True ∧ match decide ((↑x_2.fst : Int) < (16 : Int)) with
  | true => True ∧ True ∧ True ∧ True ∧ True ∧ (match (↑x_2.fst : Int) == (0 : Int) with
   | true => True ∧ ((AV.d (D.val (.int .i64 65517)) = AV.d (D.val (.int .i64 (mdF (↑x_2.fst : Int).toNat))) ∧ True) ∧ (sm (some (Blk.fix (D.arr .i64 17 (lsR t x)))) ∧ sm (some (Blk.fix (D.arr .i64 16 [(0 : Int), (0 : Int), (0 : Int), (0 : Int), (0 : Int), (0 : Int), (0 : Int), (0 : Int), (0 : Int), (0 : Int), (0 : Int), (0 : Int), (0 : Int), (0 : Int), (0 : Int), (0 : Int)]))) ∧ sm (some (Blk.fix (D.arr .i64 16 (nB 65536 16 x_1)))) ∧ sm (some (Blk.fix (D.arr .i64 16 x_2.snd.snd))) ∧ True) ∧ true = true) ∧ (↑(↑x_2.fst : Int).toNat : Int) = (↑x_2.fst : Int)
   | false => True ∧ True ∧ match (↑x_2.fst : Int) == (15 : Int) with
    | true => True ∧ ((AV.d (D.val (.int .i64 32767)) = AV.d (D.val (.int .i64 (mdF (↑x_2.fst : Int).toNat))) ∧ True) ∧ (sm (some (Blk.fix (D.arr .i64 17 (lsR t x)))) ∧ sm (some (Blk.fix (D.arr .i64 16 [(0 : Int), (0 : Int), (0 : Int), (0 : Int), (0 : Int), (0 : Int), (0 : Int), (0 : Int), (0 : Int), (0 : Int), (0 : Int), (0 : Int), (0 : Int), (0 : Int), (0 : Int), (0 : Int)]))) ∧ sm (some (Blk.fix (D.arr .i64 16 (nB 65536 16 x_1)))) ∧ sm (some (Blk.fix (D.arr .i64 16 x_2.snd.snd))) ∧ True) ∧ true = true) ∧ (↑(↑x_2.fst : Int).toNat : Int) = (↑x_2.fst : Int)
    | false => ((AV.d (D.val (.int .i64 65535)) = AV.d (D.val (.int .i64 (mdF (↑x_2.fst : Int).toNat))) ∧ True) ∧ (sm (some (Blk.fix (D.arr .i64 17 (lsR t x)))) ∧ sm (some (Blk.fix (D.arr .i64 16 [(0 : Int), (0 : Int), (0 : Int), (0 : Int), (0 : Int), (0 : Int), (0 : Int), (0 : Int), (0 : Int), (0 : Int), (0 : Int), (0 : Int), (0 : Int), (0 : Int), (0 : Int), (0 : Int)]))) ∧ sm (some (Blk.fix (D.arr .i64 16 (nB 65536 16 x_1)))) ∧ sm (some (Blk.fix (D.arr .i64 16 x_2.snd.snd))) ∧ True) ∧ true = true) ∧ (↑(↑x_2.fst : Int).toNat : Int) = (↑x_2.fst : Int)) ∧ ∀ (z : Nat), (↑z : Int) = (↑x_2.fst : Int) → true = true ∧ True ∧ ((0 : Int) ≤ (↑x_2.fst : Int) ∧ (↑x_2.fst : Int) < (↑(16 : Nat) : Int) ∧ 16 = 16 ∧ 1 = 1) ∧ (1 ≠ 0 ∧ 1 = 1 ∧ false = false) ∧ True ∧ True ∧ True ∧ True ∧ True ∧ True ∧ True ∧ True ∧ match decide (IntKind.i64.wrap (IntKind.i64.wrap ((nB 65536 16 x_1).getD (↑x_2.fst : Int).toNat (0 : Int) - mdF z) - (↑x_2.snd.fst : Int)) < (0 : Int)) with
    | true => True ∧ True ∧ True ∧ True ∧ True ∧ True ∧ ((0 : Int) ≤ (↑x_2.fst : Int) ∧ (↑x_2.fst : Int) < (↑(16 : Nat) : Int) ∧ 16 = 16 ∧ 1 = 1) ∧ (((↑x_2.fst : Int).toNat < 16 ∧ ([] : List Nat) = [] ∧ true = true) ∧ 1 ≠ 0 ∧ 1 = 1 ∧ false = false) ∧ True ∧ True ∧ ((AV.d (D.val (.int .i64 (IntKind.i64.wrap ((↑x_2.fst : Int) + (1 : Int))))) = AV.d (D.val (.int .i64 (↑(IntKind.i64.wrap ((↑x_2.fst : Int) + (1 : Int))).toNat : Int))) ∧ AV.d (D.val (.int .i64 1)) = AV.d (D.val (.int .i64 (↑(1 : Nat) : Int))) ∧ True) ∧ (sm (some (Blk.fix (D.arr .i64 17 (lsR t x)))) ∧ sm (some (Blk.fix (D.arr .i64 16 [(0 : Int), (0 : Int), (0 : Int), (0 : Int), (0 : Int), (0 : Int), (0 : Int), (0 : Int), (0 : Int), (0 : Int), (0 : Int), (0 : Int), (0 : Int), (0 : Int), (0 : Int), (0 : Int)]))) ∧ sm (some (Blk.fix (D.arr .i64 16 (nB 65536 16 x_1)))) ∧ sm (some (Blk.fix (D.arr .i64 16 (x_2.snd.snd.set (↑x_2.fst : Int).toNat (IntKind.i64.wrap (IntKind.i64.wrap (IntKind.i64.wrap ((nB 65536 16 x_1).getD (↑x_2.fst : Int).toNat (0 : Int) - mdF z) - (↑x_2.snd.fst : Int)) + (65536 : Int))))))) ∧ True) ∧ true = true) ∧ ((IntKind.i64.wrap ((↑x_2.fst : Int) + (1 : Int))).toNat ≤ 16 ∧ 1 = lsB (nB 65536 16 x_1) (IntKind.i64.wrap ((↑x_2.fst : Int) + (1 : Int))).toNat ∧ x_2.snd.snd.set (↑x_2.fst : Int).toNat (IntKind.i64.wrap (IntKind.i64.wrap (IntKind.i64.wrap ((nB 65536 16 x_1).getD (↑x_2.fst : Int).toNat (0 : Int) - mdF z) - (↑x_2.snd.fst : Int)) + (65536 : Int))) = lsD (nB 65536 16 x_1) (IntKind.i64.wrap ((↑x_2.fst : Int) + (1 : Int))).toNat) ∧ 16 - (IntKind.i64.wrap ((↑x_2.fst : Int) + (1 : Int))).toNat < 16 - x_2.fst
    | false => True ∧ True ∧ ((0 : Int) ≤ (↑x_2.fst : Int) ∧ (↑x_2.fst : Int) < (↑(16 : Nat) : Int) ∧ 16 = 16 ∧ 1 = 1) ∧ (((↑x_2.fst : Int).toNat < 16 ∧ ([] : List Nat) = [] ∧ true = true) ∧ 1 ≠ 0 ∧ 1 = 1 ∧ false = false) ∧ True ∧ True ∧ ((AV.d (D.val (.int .i64 (IntKind.i64.wrap ((↑x_2.fst : Int) + (1 : Int))))) = AV.d (D.val (.int .i64 (↑(IntKind.i64.wrap ((↑x_2.fst : Int) + (1 : Int))).toNat : Int))) ∧ AV.d (D.val (.int .i64 0)) = AV.d (D.val (.int .i64 (↑(0 : Nat) : Int))) ∧ True) ∧ (sm (some (Blk.fix (D.arr .i64 17 (lsR t x)))) ∧ sm (some (Blk.fix (D.arr .i64 16 [(0 : Int), (0 : Int), (0 : Int), (0 : Int), (0 : Int), (0 : Int), (0 : Int), (0 : Int), (0 : Int), (0 : Int), (0 : Int), (0 : Int), (0 : Int), (0 : Int), (0 : Int), (0 : Int)]))) ∧ sm (some (Blk.fix (D.arr .i64 16 (nB 65536 16 x_1)))) ∧ sm (some (Blk.fix (D.arr .i64 16 (x_2.snd.snd.set (↑x_2.fst : Int).toNat (IntKind.i64.wrap (IntKind.i64.wrap ((nB 65536 16 x_1).getD (↑x_2.fst : Int).toNat (0 : Int) - mdF z) - (↑x_2.snd.fst : Int))))))) ∧ True) ∧ true = true) ∧ ((IntKind.i64.wrap ((↑x_2.fst : Int) + (1 : Int))).toNat ≤ 16 ∧ 0 = lsB (nB 65536 16 x_1) (IntKind.i64.wrap ((↑x_2.fst : Int) + (1 : Int))).toNat ∧ x_2.snd.snd.set (↑x_2.fst : Int).toNat (IntKind.i64.wrap (IntKind.i64.wrap ((nB 65536 16 x_1).getD (↑x_2.fst : Int).toNat (0 : Int) - mdF z) - (↑x_2.snd.fst : Int))) = lsD (nB 65536 16 x_1) (IntKind.i64.wrap ((↑x_2.fst : Int) + (1 : Int))).toNat) ∧ 16 - (IntKind.i64.wrap ((↑x_2.fst : Int) + (1 : Int))).toNat < 16 - x_2.fst
  | false => True ∧ True ∧ match (↑x_2.snd.fst : Int) == (1 : Int) with
   | true => (16 ≠ 0 ∧ 16 = 16 ∧ true = true) ∧ (Sk.arr 16 = Sk.arr 16 ∧ 16 ≠ 0 ∧ 16 = 16 ∧ false = false) ∧ ((16 ≠ 0 ∧ 16 = 16 ∧ true = true) ∧ True) ∧ D.arr .i64 16 (nB 65536 16 x_1) = F
   | false => (16 ≠ 0 ∧ 16 = 16 ∧ true = true) ∧ (Sk.arr 16 = Sk.arr 16 ∧ 16 ≠ 0 ∧ 16 = 16 ∧ false = false) ∧ (True ∧ (sm (some (Blk.fix (D.arr .i64 17 (lsR t x)))) ∧ sm (some (Blk.fix (D.arr .i64 16 [(0 : Int), (0 : Int), (0 : Int), (0 : Int), (0 : Int), (0 : Int), (0 : Int), (0 : Int), (0 : Int), (0 : Int), (0 : Int), (0 : Int), (0 : Int), (0 : Int), (0 : Int), (0 : Int)]))) ∧ some (Blk.fix (D.arr .i64 16 x_2.snd.snd)) = some (Blk.fix (D.arr .i64 16 (nB 65536 16 (vB 65536 x_2.snd.snd)))) ∧ True) ∧ true = true) ∧ (vB 65536 x_2.snd.snd < 115792089237316195423570985008687907853269984665640564039457584007913129639936 ∧ vB 65536 x_2.snd.snd % FP = vB 65536 (List.take ((List.take 16 (List.drop 0 (lsR t x))).length.min ((↑(16 : Nat) : Int).toNat - Int.toNat (0 : Int))) (List.take 16 (List.drop 0 (lsR t x))) ++ List.drop (0 + (List.take 16 (List.drop 0 (lsR t x))).length.min ((↑(16 : Nat) : Int).toNat - Int.toNat (0 : Int))) [(0 : Int), (0 : Int), (0 : Int), (0 : Int), (0 : Int), (0 : Int), (0 : Int), (0 : Int), (0 : Int), (0 : Int), (0 : Int), (0 : Int), (0 : Int), (0 : Int), (0 : Int), (0 : Int)]) % FP) ∧ vB 65536 x_2.snd.snd < x_1) := by kernel_rfl
set_option maxRecDepth 100000 in
theorem vc34  (l : List Int) (F : D)  :
    (owed c34 (inv34 l) Try.f34 [dgs l] F) = (
 (True ∧ 16 ≠ 0) ∧ (True ∧ 16 ≠ 0) ∧ True ∧ (((AV.d (D.val (.int .i64 0)) = AV.d (D.val (.int .i64 (↑(Int.toNat (0 : Int)) : Int))) ∧ True) ∧ (sm (some (Blk.fix (D.arr .i64 16 [(0 : Int), (0 : Int), (0 : Int), (0 : Int), (0 : Int), (0 : Int), (0 : Int), (0 : Int), (0 : Int), (0 : Int), (0 : Int), (0 : Int), (0 : Int), (0 : Int), (0 : Int), (0 : Int)]))) ∧ some (Blk.fix (D.arr .i64 16 [(0 : Int), (0 : Int), (0 : Int), (0 : Int), (0 : Int), (0 : Int), (0 : Int), (0 : Int), (0 : Int), (0 : Int), (0 : Int), (0 : Int), (0 : Int), (0 : Int), (0 : Int), (0 : Int)])) = some (Blk.fix (D.arr .i64 16 (nB 65536 (Int.toNat (0 : Int)) (vB 65536 l) ++ [(0 : Int), (0 : Int), (0 : Int), (0 : Int), (0 : Int), (0 : Int), (0 : Int), (0 : Int), (0 : Int), (0 : Int), (0 : Int), (0 : Int), (0 : Int), (0 : Int), (0 : Int), (0 : Int)]))) ∧ True) ∧ true = true) ∧ Int.toNat (0 : Int) ≤ 16) ∧ ∀ (x : Nat), x ≤ 16 → true = true ∧ True ∧ match decide ((↑x : Int) < (16 : Int)) with
 | true => True ∧ True ∧ True ∧ True ∧ True ∧ (∃ (l_1 : List Int), ∃ (i : Int), [D.ints .i64 l, D.val (.int .i64 (↑x : Int))] = [D.ints .i64 l_1, D.val (Value.int IntKind.i64 i)] ∧ lenOk l_1) ∧ ((0 : Int) ≤ (↑x : Int) ∧ (↑x : Int) < (↑(16 : Nat) : Int) ∧ 16 = 16 ∧ 1 = 1) ∧ (((↑x : Int).toNat < 16 ∧ ([] : List Nat) = [] ∧ true = true) ∧ 1 ≠ 0 ∧ 1 = 1 ∧ false = false) ∧ True ∧ True ∧ ((AV.d (D.val (.int .i64 (IntKind.i64.wrap ((↑x : Int) + (1 : Int))))) = AV.d (D.val (.int .i64 (↑(IntKind.i64.wrap ((↑x : Int) + (1 : Int))).toNat : Int))) ∧ True) ∧ (sm (some (Blk.fix (D.arr .i64 16 [(0 : Int), (0 : Int), (0 : Int), (0 : Int), (0 : Int), (0 : Int), (0 : Int), (0 : Int), (0 : Int), (0 : Int), (0 : Int), (0 : Int), (0 : Int), (0 : Int), (0 : Int), (0 : Int)]))) ∧ some (Blk.fix (D.arr .i64 16 ((nB 65536 x (vB 65536 l) ++ List.replicate (16 - x) (0 : Int)).set (↑x : Int).toNat (dig l (↑x : Int))))) = some (Blk.fix (D.arr .i64 16 (nB 65536 (IntKind.i64.wrap ((↑x : Int) + (1 : Int))).toNat (vB 65536 l) ++ List.replicate (16 - (IntKind.i64.wrap ((↑x : Int) + (1 : Int))).toNat) (0 : Int)))) ∧ True) ∧ true = true) ∧ (IntKind.i64.wrap ((↑x : Int) + (1 : Int))).toNat ≤ 16 ∧ 16 - (IntKind.i64.wrap ((↑x : Int) + (1 : Int))).toNat < 16 - x
 | false => (16 ≠ 0 ∧ 16 = 16 ∧ true = true) ∧ (Sk.arr 16 = Sk.arr 16 ∧ 16 ≠ 0 ∧ 16 = 16 ∧ false = false) ∧ ((16 ≠ 0 ∧ 16 = 16 ∧ true = true) ∧ True) ∧ D.arr .i64 16 (nB 65536 x (vB 65536 l) ++ List.replicate (16 - x) (0 : Int)) = F) := by kernel_rfl
set_option maxRecDepth 100000 in
theorem vc17  (l : List Int) (F : D)  :
    (owed c17 (fun _ => none) Try.f17 [num4 l] F) = (
 (True ∧ false = false) ∧ (True ∧ 16 ≠ 0) ∧ (4 ≠ 0 ∧ 4 = 4 ∧ true = true) ∧ (∃ (l_1 : List Int), [D.arr .u64 4 l] = [D.arr .u64 4 l_1] ∧ okw l_1 ∧ l_1.length = 4) ∧ 0 = 0 ∧ (∃ (l_1 : List Int), ∃ (m : List Int), [D.ints .i64 (dg (vB 18446744073709551616 l)), D.ints .i64 dgF] = [D.ints .i64 l_1, D.ints .i64 m] ∧ (okd l_1 ∧ len1 l_1) ∧ (okd m ∧ len1 m) ∧ vB 65536 m ≠ 0) ∧ (∃ (l_1 : List Int), [D.ints .i64 (dg (vB 65536 (dg (vB 18446744073709551616 l)) % vB 65536 dgF))] = [D.ints .i64 l_1] ∧ okd l_1 ∧ lenOk l_1) ∧ (Sk.arr 16 = Sk.arr 16 ∧ 16 ≠ 0 ∧ 16 = 16 ∧ false = false) ∧ ((16 ≠ 0 ∧ 16 = 16 ∧ true = true) ∧ True) ∧ D.arr .i64 16 (nB 65536 16 (vB 65536 (dg (vB 65536 (dg (vB 18446744073709551616 l)) % vB 65536 dgF)))) = F) := by kernel_rfl
set_option maxRecDepth 100000 in
theorem vc18  (l : List Int) (F : D)  :
    (owed c18 (fun _ => none) Try.f18 [fel l] F) = (
 (True ∧ false = false) ∧ (True ∧ 4 ≠ 0) ∧ ((0 : Int) ≤ 0 ∧ (0 : Int) ≤ (↑(16 : Nat) : Int) ∧ (↑(16 : Nat) : Int) ≤ (↑(16 : Nat) : Int) ∧ 16 = 16 ∧ 1 = 1) ∧ (∃ (l_1 : List Int), [D.ints .i64 (List.take ((↑(16 : Nat) : Int).toNat - 0) (List.drop 0 l))] = [D.ints .i64 l_1] ∧ okd l_1 ∧ lenOk l_1) ∧ (Sk.arr 4 = Sk.arr 4 ∧ 4 ≠ 0 ∧ 4 = 4 ∧ false = false) ∧ ((4 ≠ 0 ∧ 4 = 4 ∧ true = true) ∧ True) ∧ D.arr .u64 4 (nB 18446744073709551616 4 (vB 65536 (List.take ((↑(16 : Nat) : Int).toNat - 0) (List.drop 0 l)))) = F) := by kernel_rfl
set_option maxRecDepth 100000 in
theorem vc21  (l m : List Int) (F : D)  :
    (owed c21 (inv21 l m) Try.f21 [fel l, fel m] F) = (
 (True ∧ false = false) ∧ (True ∧ false = false) ∧ (True ∧ 16 ≠ 0) ∧ (True ∧ 17 ≠ 0) ∧ True ∧ (((AV.d (D.val (.int .i64 0)) = AV.d (D.val (.int .i64 (↑(Int.toNat (0 : Int)) : Int))) ∧ True) ∧ (sm (some (Blk.fix (D.arr .i64 16 l))) ∧ sm (some (Blk.fix (D.arr .i64 16 m))) ∧ sm (some (Blk.fix (D.arr .i64 16 [(0 : Int), (0 : Int), (0 : Int), (0 : Int), (0 : Int), (0 : Int), (0 : Int), (0 : Int), (0 : Int), (0 : Int), (0 : Int), (0 : Int), (0 : Int), (0 : Int), (0 : Int), (0 : Int)]))) ∧ some (Blk.fix (D.arr .i64 17 [(0 : Int), (0 : Int), (0 : Int), (0 : Int), (0 : Int), (0 : Int), (0 : Int), (0 : Int), (0 : Int), (0 : Int), (0 : Int), (0 : Int), (0 : Int), (0 : Int), (0 : Int), (0 : Int), (0 : Int)])) = some (Blk.fix (D.arr .i64 17 (plF l m (Int.toNat (0 : Int)) ++ [(0 : Int), (0 : Int), (0 : Int), (0 : Int), (0 : Int), (0 : Int), (0 : Int), (0 : Int), (0 : Int), (0 : Int), (0 : Int), (0 : Int), (0 : Int), (0 : Int), (0 : Int), (0 : Int), (0 : Int)]))) ∧ True) ∧ true = true) ∧ Int.toNat (0 : Int) ≤ 16) ∧ ∀ (x : Nat), x ≤ 16 → true = true ∧ True ∧ match decide ((↑x : Int) < (16 : Int)) with
 | true => True ∧ True ∧ True ∧ True ∧ ((0 : Int) ≤ (↑x : Int) ∧ (↑x : Int) < (↑(16 : Nat) : Int) ∧ 16 = 16 ∧ 1 = 1) ∧ (1 ≠ 0 ∧ 1 = 1 ∧ false = false) ∧ True ∧ ((0 : Int) ≤ (↑x : Int) ∧ (↑x : Int) < (↑(16 : Nat) : Int) ∧ 16 = 16 ∧ 1 = 1) ∧ (1 ≠ 0 ∧ 1 = 1 ∧ false = false) ∧ True ∧ ((0 : Int) ≤ (↑x : Int) ∧ (↑x : Int) < (↑(17 : Nat) : Int) ∧ 17 = 17 ∧ 1 = 1) ∧ (((↑x : Int).toNat < 17 ∧ ([] : List Nat) = [] ∧ true = true) ∧ 1 ≠ 0 ∧ 1 = 1 ∧ false = false) ∧ True ∧ True ∧ ((AV.d (D.val (.int .i64 (IntKind.i64.wrap ((↑x : Int) + (1 : Int))))) = AV.d (D.val (.int .i64 (↑(IntKind.i64.wrap ((↑x : Int) + (1 : Int))).toNat : Int))) ∧ True) ∧ (sm (some (Blk.fix (D.arr .i64 16 l))) ∧ sm (some (Blk.fix (D.arr .i64 16 m))) ∧ sm (some (Blk.fix (D.arr .i64 16 [(0 : Int), (0 : Int), (0 : Int), (0 : Int), (0 : Int), (0 : Int), (0 : Int), (0 : Int), (0 : Int), (0 : Int), (0 : Int), (0 : Int), (0 : Int), (0 : Int), (0 : Int), (0 : Int)]))) ∧ some (Blk.fix (D.arr .i64 17 ((plF l m x ++ List.replicate (17 - x) (0 : Int)).set (↑x : Int).toNat (IntKind.i64.wrap (l.getD (↑x : Int).toNat (0 : Int) + m.getD (↑x : Int).toNat (0 : Int)))))) = some (Blk.fix (D.arr .i64 17 (plF l m (IntKind.i64.wrap ((↑x : Int) + (1 : Int))).toNat ++ List.replicate (17 - (IntKind.i64.wrap ((↑x : Int) + (1 : Int))).toNat) (0 : Int)))) ∧ True) ∧ true = true) ∧ (IntKind.i64.wrap ((↑x : Int) + (1 : Int))).toNat ≤ 16 ∧ 16 - (IntKind.i64.wrap ((↑x : Int) + (1 : Int))).toNat < 16 - x
 | false => (17 ≠ 0 ∧ 17 = 17 ∧ true = true) ∧ (∃ (t : List Int), [D.arr .i64 17 (plF l m x ++ List.replicate (17 - x) (0 : Int))] = [D.arr .i64 17 t] ∧ okL t) ∧ (Sk.arr 16 = Sk.arr 16 ∧ 16 ≠ 0 ∧ 16 = 16 ∧ false = false) ∧ ((16 ≠ 0 ∧ 16 = 16 ∧ true = true) ∧ True) ∧ D.arr .i64 16 (nB 65536 16 (vB 65536 (plF l m x ++ List.replicate (17 - x) (0 : Int)) % FP)) = F) := by kernel_rfl
set_option maxRecDepth 100000 in
theorem vc40  (l m : List Int) (F : D)  :
    (owed c21 (inv40 l m) Try.f40 [fel l, fel m] F) = (
 (True ∧ false = false) ∧ (True ∧ false = false) ∧ (True ∧ 16 ≠ 0) ∧ (True ∧ 17 ≠ 0) ∧ True ∧ (((AV.d (D.val (.int .i64 0)) = AV.d (D.val (.int .i64 (↑(Int.toNat (0 : Int)) : Int))) ∧ True) ∧ (sm (some (Blk.fix (D.arr .i64 16 l))) ∧ sm (some (Blk.fix (D.arr .i64 16 m))) ∧ sm (some (Blk.fix (D.arr .i64 16 [(0 : Int), (0 : Int), (0 : Int), (0 : Int), (0 : Int), (0 : Int), (0 : Int), (0 : Int), (0 : Int), (0 : Int), (0 : Int), (0 : Int), (0 : Int), (0 : Int), (0 : Int), (0 : Int)]))) ∧ some (Blk.fix (D.arr .i64 17 [(0 : Int), (0 : Int), (0 : Int), (0 : Int), (0 : Int), (0 : Int), (0 : Int), (0 : Int), (0 : Int), (0 : Int), (0 : Int), (0 : Int), (0 : Int), (0 : Int), (0 : Int), (0 : Int), (0 : Int)])) = some (Blk.fix (D.arr .i64 17 (lsF l m (Int.toNat (0 : Int)) ++ [(0 : Int), (0 : Int), (0 : Int), (0 : Int), (0 : Int), (0 : Int), (0 : Int), (0 : Int), (0 : Int), (0 : Int), (0 : Int), (0 : Int), (0 : Int), (0 : Int), (0 : Int), (0 : Int), (0 : Int)]))) ∧ True) ∧ true = true) ∧ Int.toNat (0 : Int) ≤ 16) ∧ ∀ (x : Nat), x ≤ 16 → true = true ∧ True ∧ match decide ((↑x : Int) < (16 : Int)) with
 | true => True ∧ True ∧ True ∧ True ∧ True ∧ (match (↑x : Int) == (0 : Int) with
  | true => True ∧ ((AV.d (D.val (.int .i64 262068)) = AV.d (D.val (.int .i64 (miF (↑x : Int).toNat))) ∧ True) ∧ (sm (some (Blk.fix (D.arr .i64 16 l))) ∧ sm (some (Blk.fix (D.arr .i64 16 m))) ∧ sm (some (Blk.fix (D.arr .i64 16 [(0 : Int), (0 : Int), (0 : Int), (0 : Int), (0 : Int), (0 : Int), (0 : Int), (0 : Int), (0 : Int), (0 : Int), (0 : Int), (0 : Int), (0 : Int), (0 : Int), (0 : Int), (0 : Int)]))) ∧ sm (some (Blk.fix (D.arr .i64 17 (lsF l m x ++ List.replicate (17 - x) (0 : Int))))) ∧ True) ∧ true = true) ∧ (↑(↑x : Int).toNat : Int) = (↑x : Int)
  | false => True ∧ True ∧ match (↑x : Int) == (15 : Int) with
   | true => True ∧ ((AV.d (D.val (.int .i64 131068)) = AV.d (D.val (.int .i64 (miF (↑x : Int).toNat))) ∧ True) ∧ (sm (some (Blk.fix (D.arr .i64 16 l))) ∧ sm (some (Blk.fix (D.arr .i64 16 m))) ∧ sm (some (Blk.fix (D.arr .i64 16 [(0 : Int), (0 : Int), (0 : Int), (0 : Int), (0 : Int), (0 : Int), (0 : Int), (0 : Int), (0 : Int), (0 : Int), (0 : Int), (0 : Int), (0 : Int), (0 : Int), (0 : Int), (0 : Int)]))) ∧ sm (some (Blk.fix (D.arr .i64 17 (lsF l m x ++ List.replicate (17 - x) (0 : Int))))) ∧ True) ∧ true = true) ∧ (↑(↑x : Int).toNat : Int) = (↑x : Int)
   | false => ((AV.d (D.val (.int .i64 262140)) = AV.d (D.val (.int .i64 (miF (↑x : Int).toNat))) ∧ True) ∧ (sm (some (Blk.fix (D.arr .i64 16 l))) ∧ sm (some (Blk.fix (D.arr .i64 16 m))) ∧ sm (some (Blk.fix (D.arr .i64 16 [(0 : Int), (0 : Int), (0 : Int), (0 : Int), (0 : Int), (0 : Int), (0 : Int), (0 : Int), (0 : Int), (0 : Int), (0 : Int), (0 : Int), (0 : Int), (0 : Int), (0 : Int), (0 : Int)]))) ∧ sm (some (Blk.fix (D.arr .i64 17 (lsF l m x ++ List.replicate (17 - x) (0 : Int))))) ∧ True) ∧ true = true) ∧ (↑(↑x : Int).toNat : Int) = (↑x : Int)) ∧ ∀ (z : Nat), (↑z : Int) = (↑x : Int) → true = true ∧ True ∧ True ∧ ((0 : Int) ≤ (↑x : Int) ∧ (↑x : Int) < (↑(16 : Nat) : Int) ∧ 16 = 16 ∧ 1 = 1) ∧ (1 ≠ 0 ∧ 1 = 1 ∧ false = false) ∧ True ∧ True ∧ True ∧ ((0 : Int) ≤ (↑x : Int) ∧ (↑x : Int) < (↑(16 : Nat) : Int) ∧ 16 = 16 ∧ 1 = 1) ∧ (1 ≠ 0 ∧ 1 = 1 ∧ false = false) ∧ True ∧ ((0 : Int) ≤ (↑x : Int) ∧ (↑x : Int) < (↑(17 : Nat) : Int) ∧ 17 = 17 ∧ 1 = 1) ∧ (((↑x : Int).toNat < 17 ∧ ([] : List Nat) = [] ∧ true = true) ∧ 1 ≠ 0 ∧ 1 = 1 ∧ false = false) ∧ True ∧ True ∧ ((AV.d (D.val (.int .i64 (IntKind.i64.wrap ((↑x : Int) + (1 : Int))))) = AV.d (D.val (.int .i64 (↑(IntKind.i64.wrap ((↑x : Int) + (1 : Int))).toNat : Int))) ∧ True) ∧ (sm (some (Blk.fix (D.arr .i64 16 l))) ∧ sm (some (Blk.fix (D.arr .i64 16 m))) ∧ sm (some (Blk.fix (D.arr .i64 16 [(0 : Int), (0 : Int), (0 : Int), (0 : Int), (0 : Int), (0 : Int), (0 : Int), (0 : Int), (0 : Int), (0 : Int), (0 : Int), (0 : Int), (0 : Int), (0 : Int), (0 : Int), (0 : Int)]))) ∧ some (Blk.fix (D.arr .i64 17 ((lsF l m x ++ List.replicate (17 - x) (0 : Int)).set (↑x : Int).toNat (IntKind.i64.wrap (IntKind.i64.wrap (l.getD (↑x : Int).toNat (0 : Int) + miF z) - m.getD (↑x : Int).toNat (0 : Int)))))) = some (Blk.fix (D.arr .i64 17 (lsF l m (IntKind.i64.wrap ((↑x : Int) + (1 : Int))).toNat ++ List.replicate (17 - (IntKind.i64.wrap ((↑x : Int) + (1 : Int))).toNat) (0 : Int)))) ∧ True) ∧ true = true) ∧ (IntKind.i64.wrap ((↑x : Int) + (1 : Int))).toNat ≤ 16 ∧ 16 - (IntKind.i64.wrap ((↑x : Int) + (1 : Int))).toNat < 16 - x
 | false => (17 ≠ 0 ∧ 17 = 17 ∧ true = true) ∧ (∃ (t : List Int), [D.arr .i64 17 (lsF l m x ++ List.replicate (17 - x) (0 : Int))] = [D.arr .i64 17 t] ∧ okL t) ∧ (Sk.arr 16 = Sk.arr 16 ∧ 16 ≠ 0 ∧ 16 = 16 ∧ false = false) ∧ ((16 ≠ 0 ∧ 16 = 16 ∧ true = true) ∧ True) ∧ D.arr .i64 16 (nB 65536 16 (vB 65536 (lsF l m x ++ List.replicate (17 - x) (0 : Int)) % FP)) = F) := by kernel_rfl
set_option maxRecDepth 100000 in
theorem vc19  (l m : List Int) (F : D)  :
    (owed c21 (inv19 l m) Try.f19 [fel l, fel m] F) = (
 (True ∧ false = false) ∧ (True ∧ false = false) ∧ (True ∧ 16 ≠ 0) ∧ (True ∧ 32 ≠ 0) ∧ True ∧ (((AV.d (D.val (.int .i64 0)) = AV.d (D.val (.int .i64 (↑(0 : Nat) : Int))) ∧ True) ∧ (sm (some (Blk.fix (D.arr .i64 16 l))) ∧ sm (some (Blk.fix (D.arr .i64 16 m))) ∧ sm (some (Blk.fix (D.arr .i64 16 [(0 : Int), (0 : Int), (0 : Int), (0 : Int), (0 : Int), (0 : Int), (0 : Int), (0 : Int), (0 : Int), (0 : Int), (0 : Int), (0 : Int), (0 : Int), (0 : Int), (0 : Int), (0 : Int)]))) ∧ sm (some (Blk.fix (D.arr .i64 32 [(0 : Int), (0 : Int), (0 : Int), (0 : Int), (0 : Int), (0 : Int), (0 : Int), (0 : Int), (0 : Int), (0 : Int), (0 : Int), (0 : Int), (0 : Int), (0 : Int), (0 : Int), (0 : Int), (0 : Int), (0 : Int), (0 : Int), (0 : Int), (0 : Int), (0 : Int), (0 : Int), (0 : Int), (0 : Int), (0 : Int), (0 : Int), (0 : Int), (0 : Int), (0 : Int), (0 : Int), (0 : Int)]))) ∧ True) ∧ true = true) ∧ 0 ≤ 16 ∧ ByI l m 0 [(0 : Int), (0 : Int), (0 : Int), (0 : Int), (0 : Int), (0 : Int), (0 : Int), (0 : Int), (0 : Int), (0 : Int), (0 : Int), (0 : Int), (0 : Int), (0 : Int), (0 : Int), (0 : Int), (0 : Int), (0 : Int), (0 : Int), (0 : Int), (0 : Int), (0 : Int), (0 : Int), (0 : Int), (0 : Int), (0 : Int), (0 : Int), (0 : Int), (0 : Int), (0 : Int), (0 : Int), (0 : Int)]) ∧ ∀ (x : Nat × List Int), x.fst ≤ 16 ∧ ByI l m x.fst x.snd → true = true ∧ True ∧ match decide ((↑x.fst : Int) < (16 : Int)) with
 | true => True ∧ True ∧ True ∧ (((AV.d (D.val (.int .i64 0)) = AV.d (D.val (.int .i64 (↑(0 : Nat) : Int))) ∧ True) ∧ (sm (some (Blk.fix (D.arr .i64 16 l))) ∧ sm (some (Blk.fix (D.arr .i64 16 m))) ∧ sm (some (Blk.fix (D.arr .i64 16 [(0 : Int), (0 : Int), (0 : Int), (0 : Int), (0 : Int), (0 : Int), (0 : Int), (0 : Int), (0 : Int), (0 : Int), (0 : Int), (0 : Int), (0 : Int), (0 : Int), (0 : Int), (0 : Int)]))) ∧ sm (some (Blk.fix (D.arr .i64 32 x.snd))) ∧ True) ∧ true = true) ∧ 0 ≤ 16 ∧ ByJ l m (↑x.fst : Int).toNat 0 x.snd) ∧ ∀ (x_1 : Nat × List Int), x_1.fst ≤ 16 ∧ ByJ l m (↑x.fst : Int).toNat x_1.fst x_1.snd → true = true ∧ True ∧ match decide ((↑x_1.fst : Int) < (16 : Int)) with
  | true => True ∧ True ∧ True ∧ True ∧ True ∧ ((0 : Int) ≤ IntKind.i64.wrap ((↑x.fst : Int) + (↑x_1.fst : Int)) ∧ IntKind.i64.wrap ((↑x.fst : Int) + (↑x_1.fst : Int)) < (↑(32 : Nat) : Int) ∧ 32 = 32 ∧ 1 = 1) ∧ (1 ≠ 0 ∧ 1 = 1 ∧ false = false) ∧ True ∧ ((0 : Int) ≤ (↑x.fst : Int) ∧ (↑x.fst : Int) < (↑(16 : Nat) : Int) ∧ 16 = 16 ∧ 1 = 1) ∧ (1 ≠ 0 ∧ 1 = 1 ∧ false = false) ∧ True ∧ ((0 : Int) ≤ (↑x_1.fst : Int) ∧ (↑x_1.fst : Int) < (↑(16 : Nat) : Int) ∧ 16 = 16 ∧ 1 = 1) ∧ (1 ≠ 0 ∧ 1 = 1 ∧ false = false) ∧ True ∧ True ∧ ((0 : Int) ≤ IntKind.i64.wrap ((↑x.fst : Int) + (↑x_1.fst : Int)) ∧ IntKind.i64.wrap ((↑x.fst : Int) + (↑x_1.fst : Int)) < (↑(32 : Nat) : Int) ∧ 32 = 32 ∧ 1 = 1) ∧ (((IntKind.i64.wrap ((↑x.fst : Int) + (↑x_1.fst : Int))).toNat < 32 ∧ ([] : List Nat) = [] ∧ true = true) ∧ 1 ≠ 0 ∧ 1 = 1 ∧ false = false) ∧ True ∧ True ∧ ((AV.d (D.val (.int .i64 (IntKind.i64.wrap ((↑x_1.fst : Int) + (1 : Int))))) = AV.d (D.val (.int .i64 (↑(IntKind.i64.wrap ((↑x_1.fst : Int) + (1 : Int))).toNat : Int))) ∧ True) ∧ (sm (some (Blk.fix (D.arr .i64 16 l))) ∧ sm (some (Blk.fix (D.arr .i64 16 m))) ∧ sm (some (Blk.fix (D.arr .i64 16 [(0 : Int), (0 : Int), (0 : Int), (0 : Int), (0 : Int), (0 : Int), (0 : Int), (0 : Int), (0 : Int), (0 : Int), (0 : Int), (0 : Int), (0 : Int), (0 : Int), (0 : Int), (0 : Int)]))) ∧ sm (some (Blk.fix (D.arr .i64 32 (x_1.snd.set (IntKind.i64.wrap ((↑x.fst : Int) + (↑x_1.fst : Int))).toNat (IntKind.i64.wrap (x_1.snd.getD (IntKind.i64.wrap ((↑x.fst : Int) + (↑x_1.fst : Int))).toNat (0 : Int) + IntKind.i64.wrap (l.getD (↑x.fst : Int).toNat (0 : Int) * m.getD (↑x_1.fst : Int).toNat (0 : Int)))))))) ∧ True) ∧ true = true) ∧ ((IntKind.i64.wrap ((↑x_1.fst : Int) + (1 : Int))).toNat ≤ 16 ∧ ByJ l m (↑x.fst : Int).toNat (IntKind.i64.wrap ((↑x_1.fst : Int) + (1 : Int))).toNat (x_1.snd.set (IntKind.i64.wrap ((↑x.fst : Int) + (↑x_1.fst : Int))).toNat (IntKind.i64.wrap (x_1.snd.getD (IntKind.i64.wrap ((↑x.fst : Int) + (↑x_1.fst : Int))).toNat (0 : Int) + IntKind.i64.wrap (l.getD (↑x.fst : Int).toNat (0 : Int) * m.getD (↑x_1.fst : Int).toNat (0 : Int)))))) ∧ 16 - (IntKind.i64.wrap ((↑x_1.fst : Int) + (1 : Int))).toNat < 16 - x_1.fst
  | false => True ∧ True ∧ ((AV.d (D.val (.int .i64 (IntKind.i64.wrap ((↑x.fst : Int) + (1 : Int))))) = AV.d (D.val (.int .i64 (↑(IntKind.i64.wrap ((↑x.fst : Int) + (1 : Int))).toNat : Int))) ∧ True) ∧ (sm (some (Blk.fix (D.arr .i64 16 l))) ∧ sm (some (Blk.fix (D.arr .i64 16 m))) ∧ sm (some (Blk.fix (D.arr .i64 16 [(0 : Int), (0 : Int), (0 : Int), (0 : Int), (0 : Int), (0 : Int), (0 : Int), (0 : Int), (0 : Int), (0 : Int), (0 : Int), (0 : Int), (0 : Int), (0 : Int), (0 : Int), (0 : Int)]))) ∧ sm (some (Blk.fix (D.arr .i64 32 x_1.snd))) ∧ True) ∧ true = true) ∧ ((IntKind.i64.wrap ((↑x.fst : Int) + (1 : Int))).toNat ≤ 16 ∧ ByI l m (IntKind.i64.wrap ((↑x.fst : Int) + (1 : Int))).toNat x_1.snd) ∧ 16 - (IntKind.i64.wrap ((↑x.fst : Int) + (1 : Int))).toNat < 16 - x.fst
 | false => (True ∧ 17 ≠ 0) ∧ True ∧ True ∧ (((AV.d (D.val (.int .i64 0)) = AV.d (D.val (.int .i64 (↑(0 : Nat) : Int))) ∧ AV.d (D.val (.int .i64 0)) = AV.d (D.val (.int .i64 (↑(0 : Nat) : Int))) ∧ True) ∧ (sm (some (Blk.fix (D.arr .i64 16 l))) ∧ sm (some (Blk.fix (D.arr .i64 16 m))) ∧ sm (some (Blk.fix (D.arr .i64 16 [(0 : Int), (0 : Int), (0 : Int), (0 : Int), (0 : Int), (0 : Int), (0 : Int), (0 : Int), (0 : Int), (0 : Int), (0 : Int), (0 : Int), (0 : Int), (0 : Int), (0 : Int), (0 : Int)]))) ∧ sm (some (Blk.fix (D.arr .i64 32 x.snd))) ∧ sm (some (Blk.fix (D.arr .i64 17 [(0 : Int), (0 : Int), (0 : Int), (0 : Int), (0 : Int), (0 : Int), (0 : Int), (0 : Int), (0 : Int), (0 : Int), (0 : Int), (0 : Int), (0 : Int), (0 : Int), (0 : Int), (0 : Int), (0 : Int)]))) ∧ True) ∧ true = true) ∧ 0 ≤ 16 ∧ 0 = byS x.snd 0 / 1 ∧ [(0 : Int), (0 : Int), (0 : Int), (0 : Int), (0 : Int), (0 : Int), (0 : Int), (0 : Int), (0 : Int), (0 : Int), (0 : Int), (0 : Int), (0 : Int), (0 : Int), (0 : Int), (0 : Int), (0 : Int)] = nB 65536 0 (byS x.snd 0) ++ [(0 : Int), (0 : Int), (0 : Int), (0 : Int), (0 : Int), (0 : Int), (0 : Int), (0 : Int), (0 : Int), (0 : Int), (0 : Int), (0 : Int), (0 : Int), (0 : Int), (0 : Int), (0 : Int), (0 : Int)]) ∧ ∀ (x_1 : Nat × Nat × List Int), x_1.fst ≤ 16 ∧ x_1.snd.fst = byS x.snd x_1.fst / 65536 ^ x_1.fst ∧ x_1.snd.snd = nB 65536 x_1.fst (byS x.snd x_1.fst) ++ List.replicate (17 - x_1.fst) (0 : Int) → true = true ∧ True ∧ match decide ((↑x_1.fst : Int) < (16 : Int)) with
  | true => True ∧ True ∧ True ∧ True ∧ ((0 : Int) ≤ (↑x_1.fst : Int) ∧ (↑x_1.fst : Int) < (↑(32 : Nat) : Int) ∧ 32 = 32 ∧ 1 = 1) ∧ (1 ≠ 0 ∧ 1 = 1 ∧ false = false) ∧ True ∧ True ∧ ((0 : Int) ≤ IntKind.i64.wrap ((↑x_1.fst : Int) + (16 : Int)) ∧ IntKind.i64.wrap ((↑x_1.fst : Int) + (16 : Int)) < (↑(32 : Nat) : Int) ∧ 32 = 32 ∧ 1 = 1) ∧ (1 ≠ 0 ∧ 1 = 1 ∧ false = false) ∧ True ∧ True ∧ True ∧ True ∧ True ∧ True ∧ True ∧ ((0 : Int) ≤ (↑x_1.fst : Int) ∧ (↑x_1.fst : Int) < (↑(17 : Nat) : Int) ∧ 17 = 17 ∧ 1 = 1) ∧ (((↑x_1.fst : Int).toNat < 17 ∧ ([] : List Nat) = [] ∧ true = true) ∧ 1 ≠ 0 ∧ 1 = 1 ∧ false = false) ∧ True ∧ (0 : Int) ≤ 16 ∧ True ∧ True ∧ True ∧ ((AV.d (D.val (.int .i64 (IntKind.i64.wrap ((↑x_1.fst : Int) + (1 : Int))))) = AV.d (D.val (.int .i64 (↑(IntKind.i64.wrap ((↑x_1.fst : Int) + (1 : Int))).toNat : Int))) ∧ AV.d (D.val (.int .i64 (ishr IntKind.i64 (IntKind.i64.wrap ((↑x_1.snd.fst : Int) + IntKind.i64.wrap (x.snd.getD (↑x_1.fst : Int).toNat (0 : Int) + IntKind.i64.wrap ((38 : Int) * x.snd.getD (IntKind.i64.wrap ((↑x_1.fst : Int) + (16 : Int))).toNat (0 : Int))))) (16 : Int)))) = AV.d (D.val (.int .i64 (↑(ishr IntKind.i64 (IntKind.i64.wrap ((↑x_1.snd.fst : Int) + IntKind.i64.wrap (x.snd.getD (↑x_1.fst : Int).toNat (0 : Int) + IntKind.i64.wrap ((38 : Int) * x.snd.getD (IntKind.i64.wrap ((↑x_1.fst : Int) + (16 : Int))).toNat (0 : Int))))) (16 : Int)).toNat : Int))) ∧ True) ∧ (sm (some (Blk.fix (D.arr .i64 16 l))) ∧ sm (some (Blk.fix (D.arr .i64 16 m))) ∧ sm (some (Blk.fix (D.arr .i64 16 [(0 : Int), (0 : Int), (0 : Int), (0 : Int), (0 : Int), (0 : Int), (0 : Int), (0 : Int), (0 : Int), (0 : Int), (0 : Int), (0 : Int), (0 : Int), (0 : Int), (0 : Int), (0 : Int)]))) ∧ sm (some (Blk.fix (D.arr .i64 32 x.snd))) ∧ sm (some (Blk.fix (D.arr .i64 17 (x_1.snd.snd.set (↑x_1.fst : Int).toNat (iand IntKind.i64 (IntKind.i64.wrap ((↑x_1.snd.fst : Int) + IntKind.i64.wrap (x.snd.getD (↑x_1.fst : Int).toNat (0 : Int) + IntKind.i64.wrap ((38 : Int) * x.snd.getD (IntKind.i64.wrap ((↑x_1.fst : Int) + (16 : Int))).toNat (0 : Int))))) (65535 : Int)))))) ∧ True) ∧ true = true) ∧ ((IntKind.i64.wrap ((↑x_1.fst : Int) + (1 : Int))).toNat ≤ 16 ∧ (ishr IntKind.i64 (IntKind.i64.wrap ((↑x_1.snd.fst : Int) + IntKind.i64.wrap (x.snd.getD (↑x_1.fst : Int).toNat (0 : Int) + IntKind.i64.wrap ((38 : Int) * x.snd.getD (IntKind.i64.wrap ((↑x_1.fst : Int) + (16 : Int))).toNat (0 : Int))))) (16 : Int)).toNat = byS x.snd (IntKind.i64.wrap ((↑x_1.fst : Int) + (1 : Int))).toNat / 65536 ^ (IntKind.i64.wrap ((↑x_1.fst : Int) + (1 : Int))).toNat ∧ x_1.snd.snd.set (↑x_1.fst : Int).toNat (iand IntKind.i64 (IntKind.i64.wrap ((↑x_1.snd.fst : Int) + IntKind.i64.wrap (x.snd.getD (↑x_1.fst : Int).toNat (0 : Int) + IntKind.i64.wrap ((38 : Int) * x.snd.getD (IntKind.i64.wrap ((↑x_1.fst : Int) + (16 : Int))).toNat (0 : Int))))) (65535 : Int)) = nB 65536 (IntKind.i64.wrap ((↑x_1.fst : Int) + (1 : Int))).toNat (byS x.snd (IntKind.i64.wrap ((↑x_1.fst : Int) + (1 : Int))).toNat) ++ List.replicate (17 - (IntKind.i64.wrap ((↑x_1.fst : Int) + (1 : Int))).toNat) (0 : Int)) ∧
   16 - (IntKind.i64.wrap ((↑x_1.fst : Int) + (1 : Int))).toNat < 16 - x_1.fst
  | false => True ∧ ((0 : Int) ≤ 16 ∧ (16 : Int) < (↑(17 : Nat) : Int) ∧ 17 = 17 ∧ 1 = 1) ∧ ((16 < 17 ∧ ([] : List Nat) = [] ∧ true = true) ∧ 1 ≠ 0 ∧ 1 = 1 ∧ false = false) ∧ (17 ≠ 0 ∧ 17 = 17 ∧ true = true) ∧ (∃ (t : List Int), [D.arr .i64 17 (x_1.snd.snd.set 16 (↑x_1.snd.fst : Int))] = [D.arr .i64 17 t] ∧ okL t) ∧ (Sk.arr 16 = Sk.arr 16 ∧ 16 ≠ 0 ∧ 16 = 16 ∧ false = false) ∧ ((16 ≠ 0 ∧ 16 = 16 ∧ true = true) ∧ True) ∧ D.arr .i64 16 (nB 65536 16 (vB 65536 (x_1.snd.snd.set 16 (↑x_1.snd.fst : Int)) % FP)) = F) := by kernel_rfl
set_option maxRecDepth 100000 in
theorem vc42  (l m : List Int) (F : D)  :
    (owed c42 (inv42 l m) Try.f42 [fel l, dgs m] F) = (
 (True ∧ false = false) ∧ (True ∧ 16 ≠ 0) ∧ (∃ (n : Nat), [D.val (.int .i64 1)] = [D.val (.int .i64 (↑n : Int))] ∧ n < 65536) ∧ (True ∧ 16 ≠ 0) ∧ (Sk.arr 16 = Sk.arr 16 ∧ 16 ≠ 0 ∧ 16 = 16 ∧ false = false) ∧ True ∧ (∃ (l : List Int), ∃ (n : Int), [D.ints .i64 m, D.val (.int .i64 256)] = [D.ints .i64 l, D.val (Value.int IntKind.i64 n)] ∧ okd l ∧ lenOk l ∧ (0 : Int) ≤ n ∧ n ≤ (16777216 : Int)) ∧ True ∧ True ∧ (((AV.d (D.val (.int .i64 0)) = AV.d (D.val (.int .i64 (↑(Int.toNat (0 : Int)) : Int))) ∧ True) ∧ (some (Blk.fix (D.arr .i64 16 l)) = some (Blk.fix (D.arr .i64 16 (twF l (Int.toNat (0 : Int))))) ∧ sm (some (Blk.fix (D.arr .i64 16 [(0 : Int), (0 : Int), (0 : Int), (0 : Int), (0 : Int), (0 : Int), (0 : Int), (0 : Int), (0 : Int), (0 : Int), (0 : Int), (0 : Int), (0 : Int), (0 : Int), (0 : Int), (0 : Int)]))) ∧ some (Blk.fix (D.arr .i64 16 [(1 : Int), (0 : Int), (0 : Int), (0 : Int), (0 : Int), (0 : Int), (0 : Int), (0 : Int), (0 : Int), (0 : Int), (0 : Int), (0 : Int), (0 : Int), (0 : Int), (0 : Int), (0 : Int)])) = some (Blk.fix (D.arr .i64 16 (nB 65536 16 (fpw (vB 65536 l) (vB 65536 m % 1))))) ∧ True) ∧ true = true) ∧ Int.toNat (0 : Int) ≤ 256) ∧ ∀ (x : Nat), x ≤ 256 → true = true ∧ True ∧ match decide ((↑x : Int) < (↑(nB 2 256 (vB 65536 m)).length : Int)) with
 | true => ((0 : Int) ≤ (↑x : Int) ∧ (↑x : Int) < (↑(nB 2 256 (vB 65536 m)).length : Int) ∧ 1 = 1) ∧ (1 ≠ 0 ∧ 1 = 1 ∧ false = false) ∧ True ∧ True ∧ True ∧ match (nB 2 256 (vB 65536 m)).getD (↑x : Int).toNat (0 : Int) == (1 : Int) with
  | true => (16 ≠ 0 ∧ 16 = 16 ∧ true = true) ∧ (16 ≠ 0 ∧ 16 = 16 ∧ true = true) ∧ (∃ (l_1 : List Int), ∃ (m_1 : List Int), [D.arr .i64 16 (nB 65536 16 (fpw (vB 65536 l) (vB 65536 m % 2 ^ x))), D.arr .i64 16 (twF l x)] = [D.arr .i64 16 l_1, D.arr .i64 16 m_1] ∧ isF l_1 ∧ isF m_1) ∧ (Sk.arr 16 = Sk.arr 16 ∧ 16 ≠ 0 ∧ 16 = 16 ∧ false = false) ∧ (16 ≠ 0 ∧ 16 = 16 ∧ true = true) ∧ (16 ≠ 0 ∧ 16 = 16 ∧ true = true) ∧ (∃ (l_1 : List Int), ∃ (m : List Int), [D.arr .i64 16 (twF l x), D.arr .i64 16 (twF l x)] = [D.arr .i64 16 l_1, D.arr .i64 16 m] ∧ isF l_1 ∧ isF m) ∧ (Sk.arr 16 = Sk.arr 16 ∧ 16 ≠ 0 ∧ 16 = 16 ∧ false = false) ∧ True ∧ True ∧ ((AV.d (D.val (.int .i64 (IntKind.i64.wrap ((↑x : Int) + (1 : Int))))) = AV.d (D.val (.int .i64 (↑(IntKind.i64.wrap ((↑x : Int) + (1 : Int))).toNat : Int))) ∧ True) ∧ (some (Blk.fix (D.arr .i64 16 (nB 65536 16 (vB 65536 (twF l x) * vB 65536 (twF l x) % FP)))) = some (Blk.fix (D.arr .i64 16 (twF l (IntKind.i64.wrap ((↑x : Int) + (1 : Int))).toNat))) ∧ sm (some (Blk.fix (D.arr .i64 16 [(0 : Int), (0 : Int), (0 : Int), (0 : Int), (0 : Int), (0 : Int), (0 : Int), (0 : Int), (0 : Int), (0 : Int), (0 : Int), (0 : Int), (0 : Int), (0 : Int), (0 : Int), (0 : Int)]))) ∧ some (Blk.fix (D.arr .i64 16 (nB 65536 16 (vB 65536 (nB 65536 16 (fpw (vB 65536 l) (vB 65536 m % 2 ^ x))) * vB 65536 (twF l x) % FP)))) = some (Blk.fix (D.arr .i64 16 (nB 65536 16 (fpw (vB 65536 l) (vB 65536 m % 2 ^ (IntKind.i64.wrap ((↑x : Int) + (1 : Int))).toNat))))) ∧ True) ∧ true = true) ∧ (IntKind.i64.wrap ((↑x : Int) + (1 : Int))).toNat ≤ 256 ∧ 256 - (IntKind.i64.wrap ((↑x : Int) + (1 : Int))).toNat < 256 - x
  | false => (16 ≠ 0 ∧ 16 = 16 ∧ true = true) ∧ (16 ≠ 0 ∧ 16 = 16 ∧ true = true) ∧ (∃ (l_1 : List Int), ∃ (m : List Int), [D.arr .i64 16 (twF l x), D.arr .i64 16 (twF l x)] = [D.arr .i64 16 l_1, D.arr .i64 16 m] ∧ isF l_1 ∧ isF m) ∧ (Sk.arr 16 = Sk.arr 16 ∧ 16 ≠ 0 ∧ 16 = 16 ∧ false = false) ∧ True ∧ True ∧ ((AV.d (D.val (.int .i64 (IntKind.i64.wrap ((↑x : Int) + (1 : Int))))) = AV.d (D.val (.int .i64 (↑(IntKind.i64.wrap ((↑x : Int) + (1 : Int))).toNat : Int))) ∧ True) ∧ (some (Blk.fix (D.arr .i64 16 (nB 65536 16 (vB 65536 (twF l x) * vB 65536 (twF l x) % FP)))) = some (Blk.fix (D.arr .i64 16 (twF l (IntKind.i64.wrap ((↑x : Int) + (1 : Int))).toNat))) ∧ sm (some (Blk.fix (D.arr .i64 16 [(0 : Int), (0 : Int), (0 : Int), (0 : Int), (0 : Int), (0 : Int), (0 : Int), (0 : Int), (0 : Int), (0 : Int), (0 : Int), (0 : Int), (0 : Int), (0 : Int), (0 : Int), (0 : Int)]))) ∧ some (Blk.fix (D.arr .i64 16 (nB 65536 16 (fpw (vB 65536 l) (vB 65536 m % 2 ^ x))))) = some (Blk.fix (D.arr .i64 16 (nB 65536 16 (fpw (vB 65536 l) (vB 65536 m % 2 ^ (IntKind.i64.wrap ((↑x : Int) + (1 : Int))).toNat))))) ∧ True) ∧ true = true) ∧ (IntKind.i64.wrap ((↑x : Int) + (1 : Int))).toNat ≤ 256 ∧ 256 - (IntKind.i64.wrap ((↑x : Int) + (1 : Int))).toNat < 256 - x
 | false => (16 ≠ 0 ∧ 16 = 16 ∧ true = true) ∧ (Sk.arr 16 = Sk.arr 16 ∧ 16 ≠ 0 ∧ 16 = 16 ∧ false = false) ∧ ((16 ≠ 0 ∧ 16 = 16 ∧ true = true) ∧ True) ∧ D.arr .i64 16 (nB 65536 16 (fpw (vB 65536 l) (vB 65536 m % 2 ^ x))) = F) := by kernel_rfl
set_option maxRecDepth 100000 in
theorem vc26  (l : List Int) (F : D)  :
    (owed c26 (fun _ => none) Try.f26 [fel l] F) = (
 (True ∧ false = false) ∧ (True ∧ 16 ≠ 0) ∧ (16 ≠ 0 ∧ 16 = 16 ∧ true = true) ∧ 0 = 0 ∧ (1 = 1 ∧ 1 ≤ 4096) ∧ (∃ (l : List Int), ∃ (m : List Int), [D.ints .i64 dgF, D.ints .i64 [(2 : Int)]] = [D.ints .i64 l, D.ints .i64 m] ∧ (okd l ∧ lenS l) ∧ (okd m ∧ lenS m) ∧ vB 65536 m ≤ vB 65536 l) ∧ (∃ (l_1 : List Int), ∃ (m : List Int), [D.arr .i64 16 l, D.ints .i64 (dg (vB 65536 dgF - vB 65536 [(2 : Int)]))] = [D.arr .i64 16 l_1, D.ints .i64 m] ∧ isF l_1 ∧ okd m ∧ lenOk m ∧ vB 65536 m < 115792089237316195423570985008687907853269984665640564039457584007913129639936) ∧ (Sk.arr 16 = Sk.arr 16 ∧ 16 ≠ 0 ∧ 16 = 16 ∧ false = false) ∧ ((16 ≠ 0 ∧ 16 = 16 ∧ true = true) ∧ True) ∧ D.arr .i64 16 (nB 65536 16 (fpw (vB 65536 l) (vB 65536 (dg (vB 65536 dgF - vB 65536 [(2 : Int)]))))) = F) := by kernel_rfl
end Go.Proofs.Ytpkcmjfmoemekaa
namespace Go.Proofs.Ytpkcmjfmoemekaa
open Go Go.Vg
theorem M16 : 65536 ^ 16 = 115792089237316195423570985008687907853269984665640564039457584007913129639936 := rfl
theorem okd_g {l : List Int} (h : okd l) {i : Nat} (hi : i < l.length) : ∃ x : Nat, l.getD i 0 = (x : Int) ∧ x < 65536 := okd_get h hi
theorem vB_bound {K : Nat} : ∀ {l : List Int}, (∀ x ∈ l, x < (K : Int)) → 65535 * vB 65536 l ≤ K * (65536 ^ l.length - 1)
 | [], _ => Nat.zero_le _
 | x :: l, h => by
  have h1 := vB_bound (l := l) fun y hy => h y (List.mem_cons_of_mem _ hy)
  have h2 := h x (List.mem_cons_self ..)
  have h3 : x.toNat ≤ K := by omega
  have h4 : 0 < 65536 ^ l.length := Nat.pow_pos (by decide)
  show 65535 * (x.toNat + 65536 * vB 65536 l) ≤ K * (65536 ^ (l.length + 1) - 1)
  rw [Nat.pow_succ]
  generalize 65536 ^ l.length = P at *
  have h5 : K * (P * 65536 - 1) = 65536 * (K * (P - 1)) + 65535 * K := by
   obtain ⟨p, rfl⟩ : ∃ p, P = p + 1 := ⟨P - 1, by omega⟩
   rw [Nat.add_sub_cancel, show (p + 1) * 65536 - 1 = 65536 * p + 65535 by omega, Nat.mul_add, Nat.mul_left_comm, Nat.mul_comm K 65535]
  rw [h5]
  have h6 : 65535 * x.toNat ≤ 65535 * K := Nat.mul_le_mul_left _ h3
  generalize K * (P - 1) = Q at *
  omega
theorem vB_small {K : Nat} {l : List Int} (h : ∀ x ∈ l, x < (K : Int)) : vB 65536 l ≤ K * 65536 ^ l.length := by
 have := vB_bound h
 have h2 : K * (65536 ^ l.length - 1) ≤ K * 65536 ^ l.length := Nat.mul_le_mul_left _ (Nat.sub_le _ _)
 omega
theorem growD {b : Nat} (hb : 0 < b) {i : Nat} {l : List Int} (h : i < l.length) (S t : Nat) :
  (nB b i S ++ l.drop i).set i (((S / b ^ i + t) % b : Nat) : Int) = nB b (i + 1) (S + b ^ i * t) ++ l.drop (i + 1) := by
 have e : nB b i (S + b ^ i * t) = nB b i S := by rw [← nB_mod b i (S + _), Nat.add_mul_mod_self_left, nB_mod]
 rw [nB_push, e, Nat.add_mul_div_left _ _ (Nat.pow_pos hb), List.set_append_right _ _ (by rw [nB_length]; exact Nat.le_refl _), nB_length, Nat.sub_self, List.drop_eq_getElem_cons h, List.set_cons_zero, List.append_assoc]
 rfl
theorem nBd_get (b i S : Nat) (l : List Int) : (nB b i S ++ l.drop i).getD i 0 = l.getD i 0 := by
 rw [List.getD_eq_getElem?_getD, List.getElem?_append_right (by rw [nB_length]; exact Nat.le_refl _), nB_length, Nat.sub_self, List.getElem?_drop, Nat.add_zero, ← List.getD_eq_getElem?_getD]
theorem okL_get {l : List Int} (h : okL l) (i : Nat) : ∃ x : Nat, l.getD i 0 = (x : Int) ∧ x < 1099511627776 := by
 rcases Nat.lt_or_ge i l.length with hi | hi
 ·have := h.1 _ (getD_memN hi)
  exact ⟨(l.getD i 0).toNat, by omega, by omega⟩
 ·exact ⟨0, by rw [List.getD_eq_getElem?_getD, List.getElem?_eq_none hi]; rfl, by decide⟩
theorem lsR_len {t : List Int} (h : okL t) : ∀ r, (lsR t r).length = 17
 | 0 => h.2
 | r + 1 => by show (nB 65536 16 _ ++ [_]).length = 17; rw [List.length_append, nB_length]; rfl
theorem lsR_take (t : List Int) (r : Nat) : (lsR t (r + 1)).take 16 = nB 65536 16 (lsN (lsR t r)) := by
 show (nB 65536 16 _ ++ [_]).take 16 = _
 rw [List.take_append_of_le_length (by rw [nB_length]; exact Nat.le_refl _), List.take_of_length_le (by rw [nB_length]; exact Nat.le_refl _)]
theorem lsR_top (t : List Int) (r : Nat) : (lsR t (r + 1)).getD 16 0 = ((lsN (lsR t r) / 115792089237316195423570985008687907853269984665640564039457584007913129639936 : Nat) : Int) := by
 show (nB 65536 16 _ ++ [_]).getD 16 0 = _
 rw [List.getD_eq_getElem?_getD, List.getElem?_append_right (by rw [nB_length]; exact Nat.le_refl _), nB_length]
 rfl
theorem lsN_succ (t : List Int) (r : Nat) : lsN (lsR t (r + 1)) = lsN (lsR t r) % 115792089237316195423570985008687907853269984665640564039457584007913129639936 + 38 * (lsN (lsR t r) / 115792089237316195423570985008687907853269984665640564039457584007913129639936) := by
 rw [lsN, lsR_take, lsR_top, vB_nB, M16, Int.toNat_natCast]
theorem lsN_zero {t : List Int} (h : okL t) : lsN t < 16777474 * 115792089237316195423570985008687907853269984665640564039457584007913129639936 := by
 have h1 := vB_bound (K := 1099511627776) (l := t.take 16) fun x hx => (h.1 x (List.mem_of_mem_take hx)).2
 rw [List.length_take, h.2, show min 16 17 = 16 from rfl, M16] at h1
 obtain ⟨y, hy, hy2⟩ := okL_get h 16
 unfold lsN
 rw [hy, Int.toNat_natCast]
 omega
theorem lsN_bounds {t : List Int} (h : okL t) : lsN t / 115792089237316195423570985008687907853269984665640564039457584007913129639936 ≤ 16777474 ∧ lsN (lsR t 1) / 115792089237316195423570985008687907853269984665640564039457584007913129639936 ≤ 1 ∧ lsN (lsR t 2) < 115792089237316195423570985008687907853269984665640564039457584007913129639936 := by
 have h0 := lsN_zero h
 have h1 := lsN_succ t 0
 have h2 := lsN_succ t 1
 have e0 : lsR t 0 = t := rfl
 rw [e0] at h1
 generalize lsN (lsR t 2) = c at *
 generalize lsN (lsR t (0 + 1)) = b at *
 generalize lsN t = a at *
 omega
theorem lsN_mod {t : List Int} : ∀ r, lsN (lsR t r) % FP = lsN t % FP
 | 0 => rfl
 | r + 1 => by
  rw [lsN_succ, ← lsN_mod r, FP_eq]
  omega
theorem vB_17 {t : List Int} (h : okL t) : lsN t % FP = vB 65536 t % FP := by
 have e : t = t.take 16 ++ [t.getD 16 0] := by
  conv => lhs; rw [← List.take_append_drop 16 t]
  congr 1
  rw [List.drop_eq_getElem_cons (by rw [h.2]; decide), List.drop_of_length_le (by rw [h.2]; decide), List.getD_eq_getElem?_getD, List.getElem?_eq_getElem (by rw [h.2]; decide)]
  rfl
 have e2 : vB 65536 t = vB 65536 (t.take 16) + 115792089237316195423570985008687907853269984665640564039457584007913129639936 * (t.getD 16 0).toNat := by
  conv => lhs; rw [e]
  rw [vB_append, List.length_take, h.2]
  show _ + 65536 ^ 16 * ((t.getD 16 0).toNat + 65536 * 0) = _
  rw [M16]
  omega
 rw [e2, lsN, FP_eq]
 omega
theorem lsR_ok {t : List Int} (h : okL t) {r : Nat} (hr : r ≤ 2) : okL (lsR t r) := by
 match r, hr with
 | 0, _ => exact h
 | r + 1, hr =>
  refine ⟨?_, lsR_len h _⟩
  have hb := lsN_bounds h
  have hq : lsN (lsR t r) / 115792089237316195423570985008687907853269984665640564039457584007913129639936 ≤ 16777474 := by
   match r, hr with
   | 0, _ => exact hb.1
   | 1, _ => exact Nat.le_trans hb.2.1 (by decide)
  intro x hx
  have hx : x ∈ nB 65536 16 (lsN (lsR t r)) ++ [((lsN (lsR t r) / 115792089237316195423570985008687907853269984665640564039457584007913129639936 : Nat) : Int)] := hx
  rcases List.mem_append.1 hx with hx | hx
  ·have := nB_ok (b := 65536) (by decide) _ _ x hx
   omega
  ·rw [List.mem_singleton.1 hx]
   omega
theorem lsI_zero (l : List Int) (c : Nat) : lsI l c 0 = l := by
 unfold lsI
 rw [List.drop_zero]
 rfl
theorem lsC_zero (l : List Int) (c : Nat) : lsC l c 0 = c := by
 unfold lsC
 rw [Nat.pow_zero, Nat.div_one, List.take_zero]
 rfl
theorem lsC_lt {l : List Int} (h : okL l) {c : Nat} (hc : c < 70368744177664) {i : Nat} (hi : i ≤ 16) : lsC l c i < 80000000000000 := by
 have h0 : 0 < 65536 ^ i := Nat.pow_pos (by decide)
 have h1 := vB_small (K := 1099511627776) (l := l.take i) fun x hx => (h.1 x (List.mem_of_mem_take hx)).2
 rw [List.length_take, h.2, Nat.min_eq_left (by omega)] at h1
 unfold lsC
 rw [Nat.div_lt_iff_lt_mul h0]
 generalize 65536 ^ i = P at *
 have h2 : c * 1 ≤ c * P := Nat.mul_le_mul_left _ h0
 have h3 : c * P ≤ 70368744177664 * P := Nat.mul_le_mul_right _ (Nat.le_of_lt hc)
 omega
theorem ls_step {l : List Int} (h : okL l) (c : Nat) {i : Nat} (hi : i < 16) {x : Nat} (ex : l.getD i 0 = (x : Int)) :
  (lsI l c i).set i (((lsC l c i + x) % 65536 : Nat) : Int) = lsI l c (i + 1) ∧ (lsC l c i + x) / 65536 = lsC l c (i + 1) := by
 have e1 := vB_take1 (b := 65536) (l := l) i (by rw [h.2]; omega)
 rw [ex, Int.toNat_natCast] at e1
 have e2 : c + vB 65536 (l.take (i + 1)) = c + vB 65536 (l.take i) + 65536 ^ i * x := by omega
 unfold lsI lsC
 rw [e2, growD (by decide) (by rw [h.2]; omega), grow_div (by decide)]
 exact ⟨rfl, rfl⟩
theorem iand65 {a : Nat} (h : a < 9223372036854775808) : iand .i64 (a : Int) 65535 = ((a % 65536 : Nat) : Int) := by
 rw [show (65535 : Int) = ((65535 : Nat) : Int) from rfl, iandN .i64 h (by decide)]
 congr 1
 exact Nat.and_two_pow_sub_one_eq_mod a 16
theorem ishr16 (a : Nat) : ishr .i64 (a : Int) 16 = ((a / 65536 : Nat) : Int) := ishrN .i64 (a := a) (m := 16) (by decide)
theorem set_ok {l : List Int} (h : okL l) : okL (l.set 16 0) := by
 refine ⟨?_, by rw [List.length_set]; exact h.2⟩
 intro x hx
 rcases List.mem_or_eq_of_mem_set hx with hx | rfl
 ·exact h.1 x hx
 ·decide
theorem ls_round (t : List Int) (h : okL t) (r : Nat) : (lsI ((lsR t r).set 16 0) (38 * ((lsR t r).getD 16 0).toNat) 16).set 16 ((lsC ((lsR t r).set 16 0) (38 * ((lsR t r).getD 16 0).toNat) 16 : Nat) : Int) = lsR t (r + 1) := by
 have hl := lsR_len h r
 have e1 : ((lsR t r).set 16 0).take 16 = (lsR t r).take 16 := List.take_set_of_le (Nat.le_refl _)
 have e2 : ((lsR t r).set 16 0).drop 16 = [0] := by
  rw [List.drop_eq_getElem_cons (by rw [List.length_set, hl]; decide), List.getElem_set_self, List.drop_of_length_le (by rw [List.length_set, hl]; decide)]
 unfold lsI lsC
 rw [e1, e2, M16, Nat.add_comm (38 * _)]
 show _ = nB 65536 16 (lsN (lsR t r)) ++ [((lsN (lsR t r) / 115792089237316195423570985008687907853269984665640564039457584007913129639936 : Nat) : Int)]
 rw [List.set_append_right _ _ (by rw [nB_length]; exact Nat.le_refl _), nB_length, Nat.sub_self]
 rfl
theorem mdF_eq (i : Nat) (h : i < 16) : mdF i = ((FP / 65536 ^ i % 65536 : Nat) : Int) := by
 have : ∀ i : Fin 16, mdF i.1 = ((FP / 65536 ^ i.1 % 65536 : Nat) : Int) := by decide
 exact this ⟨i, h⟩
theorem bor_step {P A C a m : Nat} (hA : A < P) (hC : C < P) : bor (A + P * a) (C + P * m) = if a < m + bor A C then 1 else 0 := by
 rcases Nat.lt_trichotomy a m with h | h | h
 ·have h1 : P * (a + 1) ≤ P * m := Nat.mul_le_mul_left _ h
  rw [Nat.mul_add, Nat.mul_one] at h1
  unfold bor
  rw [if_pos (by omega), if_pos (by omega)]
 ·subst h
  unfold bor
  by_cases hc : A < C
  ·rw [if_pos (by omega), if_pos hc, if_pos (by omega)]
  ·rw [if_neg (by omega), if_neg hc, if_neg (by omega)]
 ·have h1 : P * (m + 1) ≤ P * a := Nat.mul_le_mul_left _ h
  rw [Nat.mul_add, Nat.mul_one] at h1
  have hb : bor A C ≤ 1 := by unfold bor; split <;> omega
  rw [if_neg (by omega)]
  unfold bor
  rw [if_neg (by omega)]
theorem lsD_step {l : List Int} (h : isF l) {i : Nat} (hi : i < 16) {a m : Nat} (ea : l.getD i 0 = (a : Int)) (ha : a < 65536) (em : m = FP / 65536 ^ i % 65536) :
  (lsD l i).set i (((a + 65536 - m - lsB l i) % 65536 : Nat) : Int) = lsD l (i + 1) ∧ lsB l (i + 1) = if a < m + lsB l i then 1 else 0 := by
 have e1 := vB_take1 (b := 65536) (l := l) i (by rw [h.2]; omega)
 rw [ea, Int.toNat_natCast] at e1
 have e2 : FP % 65536 ^ (i + 1) = FP % 65536 ^ i + 65536 ^ i * m := by rw [Nat.mod_pow_succ, em]
 have hm : m < 65536 := by rw [em]; exact Nat.mod_lt _ (by decide)
 have h0 : 0 < 65536 ^ i := Nat.pow_pos (by decide)
 have hA := vB_lt (b := 65536) (l := l.take i) fun x hx => h.1 x (List.mem_of_mem_take hx)
 rw [List.length_take, h.2, Nat.min_eq_left (by omega)] at hA
 have hC := Nat.mod_lt FP h0
 unfold lsD lsB
 rw [e1, e2, bor_step hA hC]
 refine ⟨?_, rfl⟩
 generalize vB 65536 (l.take i) = A at *
 generalize FP % 65536 ^ i = C at *
 have hS : (A + 65536 ^ i - C) / 65536 ^ i = 1 - bor A C := by
  unfold bor
  split
  ·rw [Nat.div_eq_of_lt (by omega)]
  ·rw [show A + 65536 ^ i - C = (A - C) + 65536 ^ i * 1 by omega, Nat.add_mul_div_left _ _ h0, Nat.div_eq_of_lt (by omega)]
 have hg := grow (b := 65536) (by decide) hi (A + 65536 ^ i - C) (a + 65535 - m)
 rw [hS] at hg
 have hb : bor A C ≤ 1 := by unfold bor; split <;> omega
 have e3 : (1 - bor A C + (a + 65535 - m)) % 65536 = (a + 65536 - m - bor A C) % 65536 := by congr 1; omega
 rw [e3] at hg
 rw [hg]
 congr 2
 have e4 : 65536 ^ i * (a + 65535 - m) + 65536 ^ i * m + 65536 ^ i = 65536 ^ i * a + 65536 ^ (i + 1) := by
  rw [Nat.pow_succ, ← Nat.mul_add, show a + 65535 - m + m = a + 65535 by omega]
  generalize 65536 ^ i = P
  rw [Nat.mul_add]
  omega
 omega
end Go.Proofs.Ytpkcmjfmoemekaa
namespace Go.Proofs.Ytpkcmjfmoemekaa
open Go Go.Vg
theorem i64w {x : Nat} (h : x < 9223372036854775807) : IntKind.i64.wrap ((x : Int) + 1) = ((x + 1 : Nat) : Int) := by rw [wi (by omega) (by omega)]; rfl
theorem wNi' {x : Nat} (h : x < 9223372036854775808) : IntKind.i64.wrap (x : Int) = (x : Int) := wi (by omega) (by omega)
theorem fn {v : Nat} (h : v < 115792089237316195423570985008687907853269984665640564039457584007913129639936) : vB 65536 (nB 65536 16 v) = v := by
 rw [vB_nB, M16, Nat.mod_eq_of_lt h]
theorem nF (v : Nat) : isF (nB 65536 16 v) := ⟨fun x hx => nB_ok (by decide) _ _ x hx, nB_length _ _ _⟩
theorem lsD_end {v : Nat} (h : v < 115792089237316195423570985008687907853269984665640564039457584007913129639936) : lsB (nB 65536 16 v) 16 = bor v FP ∧ (FP ≤ v → lsD (nB 65536 16 v) 16 = nB 65536 16 (v - FP)) := by
 have e1 : (nB 65536 16 v).take 16 = nB 65536 16 v := List.take_of_length_le (by rw [nB_length]; exact Nat.le_refl _)
 have e2 : FP % 115792089237316195423570985008687907853269984665640564039457584007913129639936 = FP := by decide
 unfold lsB lsD
 rw [e1, fn h, M16, e2]
 refine ⟨rfl, fun hle => ?_⟩
 rw [Nat.sub_self, ← nB_mod 65536 16 (v + _ - FP), M16, show (v + 115792089237316195423570985008687907853269984665640564039457584007913129639936 - FP) % 115792089237316195423570985008687907853269984665640564039457584007913129639936 = v - FP by have := FP_eq; omega]
 exact List.append_nil _
theorem beq_no {a b : Nat} (h : (((a : Nat) : Int) == ((b : Nat) : Int)) = false) : a ≠ b := by
 intro e; subst e; exact absurd h (by simp)
theorem beq_yes {a b : Nat} (h : (((a : Nat) : Int) == ((b : Nat) : Int)) = true) : a = b := by
 have := eq_of_beq h; omega
set_option maxRecDepth 100000 in
theorem m38 : Meets Try.prog 38 sp38 := by
 refine meets_of_owed (C := c39) ⟨tab_ok, fun f s h => by cases h⟩ (by kernel_rfl) (by kernel_rfl : Try.prog.funcs[38]? = some Try.f38) (by kernel_rfl) (by kernel_rfl) (by kernel_rfl) _ ?_
 rintro _ ⟨t, rfl, ht⟩
 refine ⟨fun _ => rfl, inv38 t, ?_⟩
 show owed c39 (inv38 t) Try.f38 [.arr .i64 17 t] (fe (vB 65536 t % FP))
 rw [vc38]
 simp (decide := true) only [eq_self, true_and, and_true, ne_eq, not_false_eq_true, Int.toNat_natCast]
 refine ⟨?_, ?_⟩
 ·and_intros <;> first | exact True.intro | rfl
 intro r hr
 split
 ·rename_i h
  have h := of_decide_eq_true h
  have hr : r < 3 := by omega
  have ho := lsR_ok ht (r := r) (by omega)
  obtain ⟨y, ey, hy⟩ := okL_get ho 16
  have hso := set_ok ho
  have hround := ls_round t ht r
  rw [ey, Int.toNat_natCast] at hround
  have ec : IntKind.i64.wrap ((y : Int) * 38) = ((38 * y : Nat) : Int) := by rw [wi (by omega) (by omega)]; omega
  rw [ey, ec, Int.toNat_natCast, i64w (by omega), Int.toNat_natCast]
  generalize (lsR t r).set 16 0 = l at hso hround ⊢
  have hcl : 38 * y < 70368744177664 := by omega
  generalize 38 * y = c at hround hcl ⊢
  refine ⟨?_, ?_⟩
  ·rw [lsC_zero, lsI_zero]
   and_intros <;> first | exact True.intro | rfl | omega
  rintro ⟨i, cc, L⟩ hx
  replace hx : i ≤ 16 ∧ cc = lsC l c i ∧ L = lsI l c i := hx
  obtain ⟨hi, rfl, rfl⟩ := hx
  simp only []
  split
  ·rename_i h
   have h := of_decide_eq_true h
   have hi : i < 16 := by omega
   obtain ⟨x, ex, hx⟩ := okL_get hso i
   have eg : (lsI l c i).getD i 0 = (x : Int) := by rw [← ex]; exact nBd_get _ _ _ _
   have hC := lsC_lt hso hcl (i := i) (by omega)
   obtain ⟨s1, s2⟩ := ls_step hso c hi ex
   rw [i64w (by omega), Int.toNat_natCast, eg, show ((lsC l c i : Nat) : Int) + (x : Int) = ((lsC l c i + x : Nat) : Int) from rfl, wNi' (by omega), iand65 (by omega), ishr16, Int.toNat_natCast, s1, s2]
   and_intros <;> first | exact True.intro | rfl | omega
  ·rename_i h
   have h := of_decide_eq_false h
   have hi : i = 16 := by omega
   subst hi
   rw [hround]
   and_intros <;> first | exact True.intro | rfl | omega
 ·rename_i h
  have h := of_decide_eq_false h
  have hr : r = 3 := by omega
  subst hr
  have hb := (lsN_bounds ht).2.2
  have hm : lsN (lsR t 2) % FP = vB 65536 t % FP := by rw [lsN_mod 2, vB_17 ht]
  have hT := lsR_take t 2
  generalize hV : lsN (lsR t 2) = V at hb hm hT
  have hT : (lsR t 3).take 16 = nB 65536 16 V := hT
  have hcp : ∀ L : List Int, List.take 16 L = nB 65536 16 V → List.take ((List.take 16 (List.drop 0 L)).length.min (16 - Int.toNat 0)) (List.take 16 (List.drop 0 L)) ++ List.drop (0 + (List.take 16 (List.drop 0 L)).length.min (16 - Int.toNat 0)) [0, 0, 0, 0, 0, 0, 0, 0, 0, 0, 0, 0, 0, 0, 0, 0] = nB 65536 16 V := by
   intro L h
   rw [List.drop_zero, h]
   have : (nB 65536 16 V).length.min (16 - Int.toNat 0) = 16 := by rw [nB_length]; rfl
   rw [this, List.take_of_length_le (by rw [nB_length]; exact Nat.le_refl _)]
   exact List.append_nil _
  rw [hcp _ hT, fn hb]
  refine ⟨⟨rfl, hb⟩, ?_⟩
  rintro v ⟨hv, hvm⟩
  have hve := lsD_end hv
  have hF := FP_eq
  refine ⟨⟨?_, ?_⟩, ?_⟩
  ·and_intros <;> first | exact True.intro | rfl
  ·unfold lsB lsD
   rw [List.take_zero, Nat.pow_zero, Nat.mod_one]
   and_intros <;> first | exact True.intro | rfl
  rintro ⟨i, bb, L⟩ hx
  replace hx : i ≤ 16 ∧ bb = lsB (nB 65536 16 v) i ∧ L = lsD (nB 65536 16 v) i := hx
  obtain ⟨hi, rfl, rfl⟩ := hx
  simp only []
  split
  ·rename_i h
   have h := of_decide_eq_true h
   have hi : i < 16 := by omega
   refine ⟨?_, ?_⟩
   ·split
    ·rename_i h0
     rw [beq_yes (b := 0) h0]
     rfl
    ·rename_i h0
     have h0 := beq_no (b := 0) h0
     split
     ·rename_i h1
      rw [beq_yes (b := 15) h1]
      rfl
     ·rename_i h1
      have h1 := beq_no (b := 15) h1
      unfold mdF
      rw [if_neg h0, if_neg h1]
   intro z hz
   obtain rfl : z = i := by omega
   obtain ⟨a, ea, ha⟩ := okd_g (nF v).1 (i := z) (by rw [nB_length]; exact hi)
   obtain ⟨s1, s2⟩ := lsD_step (nF v) hi ea ha rfl
   have hm : FP / 65536 ^ z % 65536 < 65536 := Nat.mod_lt _ (by decide)
   have hb1 : lsB (nB 65536 16 v) z ≤ 1 := by unfold lsB bor; split <;> omega
   have e1 := i64w (x := z) (by omega)
   have em := mdF_eq z hi
   generalize FP / 65536 ^ z % 65536 = m at *
   generalize lsB (nB 65536 16 v) z = b at *
   have e2 : IntKind.i64.wrap ((a : Int) - (m : Int)) = (a : Int) - (m : Int) := wi (by omega) (by omega)
   have e3 : IntKind.i64.wrap ((a : Int) - (m : Int) - (b : Int)) = (a : Int) - (m : Int) - (b : Int) := wi (by omega) (by omega)
   refine ⟨⟨by omega, by omega⟩, ?_⟩
   split
   ·rename_i h2
    have h2 := of_decide_eq_true h2
    rw [ea, em, e2, e3] at h2
    rw [ea, em, e1, e2, e3, Int.toNat_natCast, s2, if_pos (by omega), wi (n := (a : Int) - (m : Int) - (b : Int) + 65536) (by omega) (by omega), show ((a : Int) - (m : Int) - (b : Int) + 65536) = (((a + 65536 - m - b) % 65536 : Nat) : Int) by omega, s1]
    and_intros <;> first | exact True.intro | rfl | omega
   ·rename_i h2
    have h2 := of_decide_eq_false h2
    rw [ea, em, e2, e3] at h2
    rw [ea, em, e1, e2, e3, Int.toNat_natCast, s2, if_neg (by omega), show ((a : Int) - (m : Int) - (b : Int)) = (((a + 65536 - m - b) % 65536 : Nat) : Int) by omega, s1]
    and_intros <;> first | exact True.intro | rfl | omega
  ·rename_i h
   have h := of_decide_eq_false h
   have hi : i = 16 := by omega
   subst hi
   rw [hve.1]
   by_cases hlt : v < FP
   ·have e : bor v FP = 1 := by unfold bor; rw [if_pos hlt]
    rw [e]
    show fe v = fe (vB 65536 t % FP)
    rw [← hm, ← hvm, Nat.mod_eq_of_lt hlt]
   ·have e : bor v FP = 0 := by unfold bor; rw [if_neg hlt]
    have e2 := hve.2 (by omega)
    have e3 : v - FP < 115792089237316195423570985008687907853269984665640564039457584007913129639936 := by omega
    rw [e, e2, fn e3]
    have e4 : (v - FP) % FP = V % FP := by rw [← hvm]; exact (Nat.mod_eq_sub_mod (by omega)).symm
    show some (Blk.fix (fe (v - FP))) = some (Blk.fix (fe (v - FP))) ∧ _
    refine ⟨rfl, ?_⟩
    and_intros <;> first | exact True.intro | exact e4 | omega
end Go.Proofs.Ytpkcmjfmoemekaa
namespace Go.Proofs.Ytpkcmjfmoemekaa
open Go Go.Vg
theorem vD_dgF : vB 65536 dgF = FP := by
 have e : dgF = dg FP := opq_eq _
 rw [e]
 exact vl_dg _
theorem okLn {n : Nat} (h : n < 65536 ^ 20) : okd (dg n) ∧ lenS (dg n) ∧ len1 (dg n) ∧ lenOk (dg n) :=
 ⟨dg_ok _, (len_ok (k := 20) h (by decide)).1, Nat.le_trans (dg_len 20 _ h) (by decide), (len_ok (k := 20) h (by decide)).2⟩
theorem dgF_ok : okd dgF ∧ lenS dgF ∧ len1 dgF ∧ lenOk dgF := by
 have e : dgF = dg FP := opq_eq _
 rw [e]
 exact okLn (by decide)
theorem vD_one (x : Int) : vB 65536 [x] = x.toNat := by
 show x.toNat + 65536 * 0 = _
 omega
theorem one_ok {x : Int} (h : 0 ≤ x ∧ x < 65536) : okd [x] ∧ lenS [x] := by
 refine ⟨?_, by unfold lenS; rw [List.length_singleton]; decide⟩
 intro y hy
 obtain rfl := List.mem_singleton.1 hy
 exact h
set_option maxRecDepth 100000 in
theorem m36 : Meets Try.prog 36 sp36 := by
 refine meets_of_owed (C := c36) ⟨tab_ok, lkS_ok ⟨m52, m43, trivial⟩⟩ (by kernel_rfl) (by kernel_rfl : Try.prog.funcs[36]? = some Try.f36) (by kernel_rfl) (by kernel_rfl) (by kernel_rfl) _ ?_
 intro ds hds
 obtain rfl : ds = [] := List.eq_nil_of_length_eq_zero hds
 refine ⟨(by intro h; cases h), fun _ => none, ?_⟩
 show owed c36 (fun _ => none) Try.f36 [] (dgs dgF)
 rw [vc36]
 have eP : dgP 255 = dg (2 ^ 255) := opq_eq _
 have eF : dgF = dg FP := opq_eq _
 have k1 := okLn (n := 2 ^ 255) (by decide)
 have k2 := one_ok (x := 19) (by decide)
 have v1 : vB 65536 (dg (2 ^ 255)) = 2 ^ 255 := vl_dg _
 have e2 : dg (2 ^ 255 - Int.toNat 19) = dgF := by rw [eF]; rfl
 rw [eP, vD_one, v1, e2]
 have k3 : vB 65536 [19] ≤ vB 65536 (dg (2 ^ 255)) := by rw [v1, vD_one]; decide
 and_intros <;> first | exact True.intro | exact ⟨255, rfl, by decide, by decide⟩ | exact ⟨_, _, rfl, ⟨k1.1, k1.2.1⟩, k2, k3⟩ | rfl | decide
set_option maxRecDepth 100000 in
theorem m22 : Meets Try.prog 22 sp22 := by
 refine meets_of_owed (C := c39) ⟨tab_ok, fun f s h => by cases h⟩ (by kernel_rfl) (by kernel_rfl : Try.prog.funcs[22]? = some Try.f22) (by kernel_rfl) (by kernel_rfl) (by kernel_rfl) _ ?_
 intro ds hds
 obtain rfl : ds = [] := List.eq_nil_of_length_eq_zero hds
 refine ⟨fun _ => rfl, fun _ => none, ?_⟩
 show owed c39 (fun _ => none) Try.f22 [] (fel dFe)
 rw [vc22]
 simp (decide := true) only [eq_self, true_and, and_true, ne_eq, not_false_eq_true]
 and_intros <;> first | trivial | decide | rfl
set_option maxRecDepth 100000 in
theorem m20 : Meets Try.prog 20 sp20 := by
 refine meets_of_owed (C := c39) ⟨tab_ok, fun f s h => by cases h⟩ (by kernel_rfl) (by kernel_rfl : Try.prog.funcs[20]? = some Try.f20) (by kernel_rfl) (by kernel_rfl) (by kernel_rfl) _ ?_
 rintro _ ⟨n, rfl, hn⟩
 refine ⟨fun _ => rfl, fun _ => none, ?_⟩
 show owed c39 (fun _ => none) Try.f20 [i64n n] (fel [(n : Int), 0, 0, 0, 0, 0, 0, 0, 0, 0, 0, 0, 0, 0, 0, 0])
 rw [vc20]
 simp (decide := true) only [eq_self, true_and, and_true, ne_eq, not_false_eq_true]
set_option maxRecDepth 100000 in
theorem m34 : Meets Try.prog 34 sp34 := by
 refine meets_of_owed (C := c34) ⟨tab_ok, lkS_ok ⟨m39, trivial⟩⟩ (by kernel_rfl) (by kernel_rfl : Try.prog.funcs[34]? = some Try.f34) (by kernel_rfl) (by kernel_rfl) (by kernel_rfl) _ ?_
 rintro _ ⟨l, rfl, hl, hll⟩
 refine ⟨fun _ => rfl, inv34 l, ?_⟩
 show owed c34 (inv34 l) Try.f34 [dgs l] (fe (vB 65536 l))
 rw [vc34]
 simp (decide := true) only [eq_self, true_and, and_true, ne_eq, not_false_eq_true, Int.toNat_natCast]
 refine ⟨?_, ?_⟩
 ·and_intros <;> first | exact True.intro | rfl
 intro x hx
 split
 ·rename_i h
  have h := of_decide_eq_true h
  have hx : x < 16 := by omega
  have e : (nB 65536 x (vB 65536 l) ++ List.replicate (16 - x) 0).set x (dig l (x : Int)) = nB 65536 (x + 1) (vB 65536 l) ++ List.replicate (16 - (x + 1)) 0 := by
   rw [dig_nat hl, nB_push, List.set_append_right _ _ (by rw [nB_length]; exact Nat.le_refl _), nB_length, Nat.sub_self, show 16 - x = (16 - (x + 1)) + 1 by omega, List.replicate_succ, List.set_cons_zero, List.append_assoc]
   rfl
  rw [i64w (by omega), Int.toNat_natCast, e]
  and_intros <;> first | exact True.intro | exact ⟨_, _, rfl, hll⟩ | rfl | omega
 ·rename_i h
  have h := of_decide_eq_false h
  have hx : x = 16 := by omega
  subst hx
  exact congrArg _ (List.append_nil _)
set_option maxRecDepth 100000 in
theorem m17 : Meets Try.prog 17 sp17 := by
 refine meets_of_owed (C := c17) ⟨tab_ok, lkS_ok ⟨m8, m36, m35, m34, trivial⟩⟩ (by kernel_rfl) (by kernel_rfl : Try.prog.funcs[17]? = some Try.f17) (by kernel_rfl) (by kernel_rfl) (by kernel_rfl) _ ?_
 rintro _ ⟨l, rfl, hl⟩
 refine ⟨fun _ => rfl, fun _ => none, ?_⟩
 show owed c17 (fun _ => none) Try.f17 [num4 l] (fe (wv l % FP))
 rw [vc17]
 have hv := wv_lt' hl
 have hF := FP_eq
 have k1 := okLn (n := vB 18446744073709551616 l) (Nat.lt_trans hv (by decide))
 have k2 := dgF_ok
 have k3 := okLn (n := vB 18446744073709551616 l % FP) (Nat.lt_trans (mlt _) (by rw [hF]; decide))
 have v1 : vB 65536 (dg (vB 18446744073709551616 l)) = vB 18446744073709551616 l := vl_dg _
 have v2 : vB 65536 (dg (vB 18446744073709551616 l % FP)) = vB 18446744073709551616 l % FP := vl_dg _
 rw [v1, vD_dgF, v2]
 simp (decide := true) only [eq_self, true_and, and_true, ne_eq, not_false_eq_true]
 have k4 : ¬ vB 65536 dgF = 0 := by rw [vD_dgF, hF]; decide
 exact ⟨⟨_, rfl, hl.1, hl.2⟩, ⟨_, _, rfl, ⟨k1.1, k1.2.2.1⟩, ⟨k2.1, k2.2.2.1⟩, k4⟩, ⟨_, rfl, k3.1, k3.2.2.2⟩⟩
set_option maxRecDepth 100000 in
theorem m18 : Meets Try.prog 18 sp18 := by
 refine meets_of_owed (C := c18) ⟨tab_ok, lkS_ok ⟨m37, trivial⟩⟩ (by kernel_rfl) (by kernel_rfl : Try.prog.funcs[18]? = some Try.f18) (by kernel_rfl) (by kernel_rfl) (by kernel_rfl) _ ?_
 rintro _ ⟨l, rfl, hl⟩
 refine ⟨fun _ => rfl, fun _ => none, ?_⟩
 show owed c18 (fun _ => none) Try.f18 [fel l] (n4 (vB 65536 l))
 rw [vc18]
 have e : List.take (((16 : Nat) : Int).toNat - 0) (List.drop 0 l) = l := List.take_of_length_le (Nat.le_of_eq hl.2)
 have hll : lenOk l := by unfold lenOk; rw [hl.2]; decide
 rw [e]
 and_intros <;> first | exact True.intro | exact ⟨_, rfl, hl.1, hll⟩ | rfl | decide | omega
theorem rmap_succ (f : Nat → Int) (n : Nat) : vB 65536 ((List.range (n + 1)).map f) = vB 65536 ((List.range n).map f) + 65536 ^ n * (f n).toNat := by
 rw [List.range_succ, List.map_append, vB_append, List.length_map, List.length_range]
 show _ + 65536 ^ n * ((f n).toNat + 65536 * 0) = _
 rw [Nat.mul_zero, Nat.add_zero]
theorem rmap_set (f : Nat → Int) {n N : Nat} (h : n < N) : (((List.range n).map f) ++ List.replicate (N - n) 0).set n (f n) = ((List.range (n + 1)).map f) ++ List.replicate (N - (n + 1)) 0 := by
 rw [List.range_succ, List.map_append, List.set_append_right _ _ (by rw [List.length_map, List.length_range]; exact Nat.le_refl _), List.length_map, List.length_range, Nat.sub_self, show N - n = (N - (n + 1)) + 1 by omega, List.replicate_succ, List.set_cons_zero, List.append_assoc]
 rfl
theorem rmap_okL {f : Nat → Int} (h : ∀ i, i < 16 → 0 ≤ f i ∧ f i < 1099511627776) : okL (((List.range 16).map f) ++ [0]) := by
 refine ⟨?_, by rw [List.length_append, List.length_map, List.length_range]; rfl⟩
 intro x hx
 rcases List.mem_append.1 hx with hx | hx
 ·obtain ⟨i, hi, rfl⟩ := List.mem_map.1 hx
  exact h i (List.mem_range.1 hi)
 ·rw [List.mem_singleton.1 hx]; decide
theorem vB_snoc0 {l : List Int} : vB 65536 (l ++ [0]) = vB 65536 l := by
 rw [vB_append]
 show _ + 65536 ^ l.length * 0 = _
 rw [Nat.mul_zero, Nat.add_zero]
theorem isF_get {l : List Int} (h : isF l) {i : Nat} (hi : i < 16) : ∃ x : Nat, l.getD i 0 = (x : Int) ∧ x < 65536 := okd_g h.1 (by rw [h.2]; exact hi)
theorem isF_lt {l : List Int} (h : isF l) : vB 65536 l < 115792089237316195423570985008687907853269984665640564039457584007913129639936 := by
 have := vB_lt (b := 65536) h.1
 rwa [h.2, M16] at this
theorem isF_take {l : List Int} (h : isF l) : l.take 16 = l := List.take_of_length_le (Nat.le_of_eq h.2)
theorem plF_val {l m : List Int} (hl : isF l) (hm : isF m) : ∀ n, n ≤ 16 → vB 65536 (plF l m n) = vB 65536 (l.take n) + vB 65536 (m.take n)
 | 0, _ => rfl
 | n + 1, hn => by
  obtain ⟨x, ex, _⟩ := isF_get hl (i := n) (by omega)
  obtain ⟨y, ey, _⟩ := isF_get hm (i := n) (by omega)
  have e1 := vB_take1 (b := 65536) (l := l) n (by rw [hl.2]; omega)
  have e2 := vB_take1 (b := 65536) (l := m) n (by rw [hm.2]; omega)
  rw [ex, Int.toNat_natCast] at e1
  rw [ey, Int.toNat_natCast] at e2
  unfold plF
  rw [rmap_succ, e1, e2, ex, ey]
  have ih := plF_val hl hm n (by omega)
  unfold plF at ih
  rw [ih, show ((x : Int) + (y : Int)).toNat = x + y by omega, Nat.mul_add]
  omega
set_option maxRecDepth 100000 in
theorem m21 : Meets Try.prog 21 sp21 := by
 refine meets_of_owed (C := c21) ⟨tab_ok, lkS_ok ⟨m38, trivial⟩⟩ (by kernel_rfl) (by kernel_rfl : Try.prog.funcs[21]? = some Try.f21) (by kernel_rfl) (by kernel_rfl) (by kernel_rfl) _ ?_
 rintro _ ⟨l, m, rfl, hl, hm⟩
 refine ⟨fun _ => rfl, inv21 l m, ?_⟩
 show owed c21 (inv21 l m) Try.f21 [fel l, fel m] (fe ((vB 65536 l + vB 65536 m) % FP))
 rw [vc21]
 simp (decide := true) only [eq_self, true_and, and_true, ne_eq, not_false_eq_true, Int.toNat_natCast]
 refine ⟨?_, ?_⟩
 ·and_intros <;> first | exact True.intro | rfl
 intro x hx
 split
 ·rename_i h
  have h := of_decide_eq_true h
  have hx : x < 16 := by omega
  obtain ⟨a, ea, ha⟩ := isF_get hl hx
  obtain ⟨b, eb, hb⟩ := isF_get hm hx
  have hs : (plF l m x ++ List.replicate (17 - x) 0).set x (l.getD x 0 + m.getD x 0) = plF l m (x + 1) ++ List.replicate (17 - (x + 1)) 0 := rmap_set (fun j => l.getD j 0 + m.getD j 0) (by omega)
  have hw : IntKind.i64.wrap (l.getD x 0 + m.getD x 0) = l.getD x 0 + m.getD x 0 := by rw [ea, eb]; exact wi (by omega) (by omega)
  rw [i64w (by omega), Int.toNat_natCast, hw, hs]
  and_intros <;> first | exact True.intro | rfl | omega
 ·rename_i h
  have h := of_decide_eq_false h
  have hx : x = 16 := by omega
  subst hx
  have hv := plF_val hl hm 16 (by decide)
  rw [isF_take hl, isF_take hm] at hv
  have e1 : plF l m 16 ++ List.replicate (17 - 16) 0 = plF l m 16 ++ [0] := rfl
  have ok : okL (plF l m 16 ++ [0]) := rmap_okL fun i hi => by
   obtain ⟨a, ea, ha⟩ := isF_get hl hi
   obtain ⟨b, eb, hb⟩ := isF_get hm hi
   rw [ea, eb]; omega
  rw [e1, vB_snoc0, hv]
  exact ⟨⟨_, rfl, ok⟩, rfl⟩
theorem miF_val : vB 65536 ((List.range 16).map miF) = 4 * FP := by decide
theorem miF_ok (i : Nat) : 131068 ≤ miF i ∧ miF i ≤ 262140 := by
 unfold miF
 split
 ·decide
 ·split <;> decide
theorem lsF_val {l m : List Int} (hl : isF l) (hm : isF m) : ∀ n, n ≤ 16 → vB 65536 (lsF l m n) + vB 65536 (m.take n) = vB 65536 (l.take n) + vB 65536 ((List.range n).map miF)
 | 0, _ => rfl
 | n + 1, hn => by
  obtain ⟨x, ex, _⟩ := isF_get hl (i := n) (by omega)
  obtain ⟨y, ey, hy⟩ := isF_get hm (i := n) (by omega)
  have e1 := vB_take1 (b := 65536) (l := l) n (by rw [hl.2]; omega)
  have e2 := vB_take1 (b := 65536) (l := m) n (by rw [hm.2]; omega)
  rw [ex, Int.toNat_natCast] at e1
  rw [ey, Int.toNat_natCast] at e2
  have hmi := miF_ok n
  obtain ⟨z, ez⟩ : ∃ z : Nat, miF n = (z : Int) := ⟨(miF n).toNat, by omega⟩
  rw [rmap_succ]
  unfold lsF
  rw [rmap_succ, e1, e2, ex, ey, ez]
  have ih := lsF_val hl hm n (by omega)
  unfold lsF at ih
  rw [ez] at hmi
  have e3 : 65536 ^ n * ((x : Int) + (z : Int) - (y : Int)).toNat + 65536 ^ n * y = 65536 ^ n * x + 65536 ^ n * z := by
   rw [← Nat.mul_add, ← Nat.mul_add, show ((x : Int) + (z : Int) - (y : Int)).toNat + y = x + z by omega]
  rw [Int.toNat_natCast]
  omega
set_option maxRecDepth 100000 in
theorem m40 : Meets Try.prog 40 sp40 := by
 refine meets_of_owed (C := c21) ⟨tab_ok, lkS_ok ⟨m38, trivial⟩⟩ (by kernel_rfl) (by kernel_rfl : Try.prog.funcs[40]? = some Try.f40) (by kernel_rfl) (by kernel_rfl) (by kernel_rfl) _ ?_
 rintro _ ⟨l, m, rfl, hl, hm⟩
 refine ⟨fun _ => rfl, inv40 l m, ?_⟩
 show owed c21 (inv40 l m) Try.f40 [fel l, fel m] (fe (fsb (vB 65536 l) (vB 65536 m)))
 rw [vc40]
 simp (decide := true) only [eq_self, true_and, and_true, ne_eq, not_false_eq_true, Int.toNat_natCast]
 refine ⟨?_, ?_⟩
 ·and_intros <;> first | exact True.intro | rfl
 intro x hx
 split
 ·rename_i h
  have h := of_decide_eq_true h
  have hx : x < 16 := by omega
  refine ⟨?_, ?_⟩
  ·split
   ·rename_i h0
    rw [beq_yes (b := 0) h0]
    rfl
   ·rename_i h0
    have h0 := beq_no (b := 0) h0
    split
    ·rename_i h1
     rw [beq_yes (b := 15) h1]
     rfl
    ·rename_i h1
     have h1 := beq_no (b := 15) h1
     unfold miF
     rw [if_neg h0, if_neg h1]
  intro z hz
  obtain rfl : z = x := by omega
  obtain ⟨a, ea, ha⟩ := isF_get hl hx
  obtain ⟨b, eb, hb⟩ := isF_get hm hx
  have hmi := miF_ok z
  have hs : (lsF l m z ++ List.replicate (17 - z) 0).set z (l.getD z 0 + miF z - m.getD z 0) = lsF l m (z + 1) ++ List.replicate (17 - (z + 1)) 0 := rmap_set (fun j => l.getD j 0 + miF j - m.getD j 0) (by omega)
  have hw : IntKind.i64.wrap (IntKind.i64.wrap (l.getD z 0 + miF z) - m.getD z 0) = l.getD z 0 + miF z - m.getD z 0 := by rw [ea, eb, wi (n := (a : Int) + miF z) (by omega) (by omega)]; exact wi (by omega) (by omega)
  rw [i64w (by omega), Int.toNat_natCast, hw, hs]
  and_intros <;> first | exact True.intro | rfl | omega
 ·rename_i h
  have h := of_decide_eq_false h
  have hx : x = 16 := by omega
  subst hx
  have hv := lsF_val hl hm 16 (by decide)
  rw [isF_take hl, isF_take hm, miF_val] at hv
  have e1 : lsF l m 16 ++ List.replicate (17 - 16) 0 = lsF l m 16 ++ [0] := rfl
  have ok : okL (lsF l m 16 ++ [0]) := rmap_okL fun i hi => by
   obtain ⟨a, ea, ha⟩ := isF_get hl hi
   obtain ⟨b, eb, hb⟩ := isF_get hm hi
   have hmi := miF_ok i
   rw [ea, eb]; omega
  rw [e1, vB_snoc0]
  have hm2 := isF_lt hm
  have e2 : vB 65536 (lsF l m 16) % FP = fsb (vB 65536 l) (vB 65536 m) := by
   unfold fsb
   rw [FP_eq] at hv ⊢
   omega
  rw [e2]
  exact ⟨⟨_, rfl, ok⟩, rfl⟩
end Go.Proofs.Ytpkcmjfmoemekaa
namespace Go.Proofs.Ytpkcmjfmoemekaa
open Go Go.Vg
theorem byJ_step {l m out : List Int} (hl : isF l) (hm : isF m) {i k : Nat} (hi : i < 16) (hk : k < 16) (h : ByJ l m i k out) {x y o : Nat} (ex : l.getD i 0 = (x : Int)) (ey : m.getD k 0 = (y : Int)) (eo : out.getD (i + k) 0 = (o : Int)) :
  ByJ l m i (k + 1) (out.set (i + k) ((o + x * y : Nat) : Int)) := by
 obtain ⟨x', ex', hx⟩ := isF_get hl hi
 obtain ⟨y', ey', hy⟩ := isF_get hm hk
 obtain rfl : x' = x := by rw [ex] at ex'; omega
 obtain rfl : y' = y := by rw [ey] at ey'; omega
 have hxy : x' * y' ≤ 4294836225 := Nat.mul_le_mul (show x' ≤ 65535 by omega) (show y' ≤ 65535 by omega)
 refine ⟨by rw [List.length_set]; exact h.len, ?_, ?_⟩
 ·intro j
  rw [getD_set, h.len]
  have h1 := h.ok j
  by_cases hj : i + k = j
  ·subst hj
   rw [eo, if_neg (Nat.lt_irrefl _)] at h1
   rw [if_pos ⟨rfl, by omega⟩, if_pos (by omega)]
   omega
  ·rw [if_neg (fun h => hj h.1)]
   by_cases h2 : j < i + k
   ·rw [if_pos h2] at h1; rw [if_pos (by omega)]; exact h1
   ·rw [if_neg h2] at h1; rw [if_neg (by omega)]; exact h1
 ·have e1 := vB_set (b := 65536) out (i + k) ((o + x' * y' : Nat) : Int) (by rw [h.len]; omega)
  have e2 := vB_take1 (b := 65536) (l := m) k (by rw [hm.2]; omega)
  have e3 := h.val
  rw [eo, Int.toNat_natCast, Int.toNat_natCast, Nat.mul_add] at e1
  rw [ey, Int.toNat_natCast] at e2
  rw [ex, Int.toNat_natCast] at e3 ⊢
  rw [e2, Nat.mul_add, Nat.mul_add]
  have e4 : 65536 ^ i * (x' * (65536 ^ k * y')) = 65536 ^ (i + k) * (x' * y') := by
   rw [Nat.pow_add, Nat.mul_left_comm x', Nat.mul_assoc]
  omega
theorem byI_zero (l m : List Int) : ByI l m 0 (List.replicate 32 0) := by
 refine ⟨rfl, ?_, ?_⟩
 ·intro j
  have : (List.replicate 32 (0 : Int)).getD j 0 = 0 := by
   rw [List.getD_eq_getElem?_getD, List.getElem?_replicate]
   split <;> rfl
  rw [this]; omega
 ·rw [List.take_zero]
  show vB 65536 (List.replicate 32 0) = 0 * _
  rw [Nat.zero_mul]
  rfl
theorem byJ_zero {l m out : List Int} {i : Nat} (h : ByI l m i out) : ByJ l m i 0 out := by
 refine ⟨h.len, ?_, ?_⟩
 ·intro j
  have := h.ok j
  split <;> omega
 ·rw [h.val, List.take_zero]
  show _ = _ + 65536 ^ i * ((l.getD i 0).toNat * 0)
  rw [Nat.mul_zero, Nat.mul_zero, Nat.add_zero]
theorem byI_next {l m out : List Int} (hl : isF l) (hm : isF m) {i : Nat} (hi : i < 16) (h : ByJ l m i 16 out) : ByI l m (i + 1) out := by
 refine ⟨h.len, ?_, ?_⟩
 ·intro j
  have := h.ok j
  split at this <;> omega
 ·have e1 := vB_take1 (b := 65536) (l := l) i (by rw [hl.2]; omega)
  rw [h.val, isF_take hm, e1, Nat.add_mul, Nat.mul_assoc]
theorem byS_succ {p : List Int} (h : p.length = 32) {i : Nat} (hi : i < 16) : byS p (i + 1) = byS p i + 65536 ^ i * ((p.getD i 0).toNat + 38 * (p.getD (i + 16) 0).toNat) := by
 have e1 := vB_take1 (b := 65536) (l := p) i (by omega)
 have e2 := vB_take1 (b := 65536) (l := p.drop 16) i (by rw [List.length_drop]; omega)
 have e3 : (p.drop 16).getD i 0 = p.getD (i + 16) 0 := by
  rw [List.getD_eq_getElem?_getD, List.getElem?_drop, Nat.add_comm 16 i, ← List.getD_eq_getElem?_getD]
 unfold byS
 rw [e1, e2, e3, Nat.mul_add, Nat.mul_add, Nat.mul_left_comm 38]
 omega
theorem byS_bound {l m p : List Int} (h : ByI l m 16 p) {i : Nat} (hi : i ≤ 16) : 65535 * byS p i ≤ 2679977846 * 1000 * (65536 ^ i - 1) := by
 have hb : ∀ x ∈ p, x < ((68717379601 : Nat) : Int) := by
  intro x hx
  obtain ⟨j, hj, rfl⟩ := List.getElem_of_mem hx
  have := h.ok j
  rw [List.getD_eq_getElem?_getD, List.getElem?_eq_getElem hj] at this
  have h2 : p[j] ≤ ((16 : Nat) : Int) * 4294836225 := this.2
  omega
 have h1 := vB_bound (K := 68717379601) (l := p.take i) fun x hx => hb x (List.mem_of_mem_take hx)
 have h2 := vB_bound (K := 68717379601) (l := (p.drop 16).take i) fun x hx => hb x (List.mem_of_mem_drop (List.mem_of_mem_take hx))
 rw [List.length_take, h.len, Nat.min_eq_left (by omega)] at h1
 rw [List.length_take, List.length_drop, h.len, Nat.min_eq_left (by omega)] at h2
 unfold byS
 generalize 65536 ^ i - 1 = P at *
 omega
theorem byS_lt {l m p : List Int} (h : ByI l m 16 p) {i : Nat} (hi : i ≤ 16) : byS p i / 65536 ^ i < 100000000 := by
 have h0 : 0 < 65536 ^ i := Nat.pow_pos (by decide)
 have h1 := byS_bound h hi
 rw [Nat.div_lt_iff_lt_mul h0]
 generalize 65536 ^ i = P at *
 omega
theorem byS_val {l m p : List Int} (h : ByI l m 16 p) (hl : isF l) : byS p 16 % FP = vB 65536 l * vB 65536 m % FP := by
 have e := h.val
 rw [isF_take hl] at e
 rw [← e]
 have e1 : p = p.take 16 ++ (p.drop 16).take 16 := by
  conv => lhs; rw [← List.take_append_drop 16 p]
  congr 1
  exact (List.take_of_length_le (by rw [List.length_drop, h.len]; decide)).symm
 have e2 : vB 65536 p = vB 65536 (p.take 16) + 115792089237316195423570985008687907853269984665640564039457584007913129639936 * vB 65536 ((p.drop 16).take 16) := by
  conv => lhs; rw [e1]
  rw [vB_append, List.length_take, h.len, show min 16 32 = 16 from rfl, M16]
 unfold byS
 rw [e2, FP_eq]
 omega
theorem by_get {l m p : List Int} (h : ByI l m 16 p) (j : Nat) : ∃ x : Nat, p.getD j 0 = (x : Int) ∧ x ≤ 68717379600 := by
 have := h.ok j
 have h2 : p.getD j 0 ≤ ((16 : Nat) : Int) * 4294836225 := this.2
 exact ⟨(p.getD j 0).toNat, by omega, by omega⟩
theorem byEnd {S : Nat} (h : 65535 * S ≤ 2679977846 * 1000 * (115792089237316195423570985008687907853269984665640564039457584007913129639936 - 1)) : okL (nB 65536 16 S ++ [((S / 115792089237316195423570985008687907853269984665640564039457584007913129639936 : Nat) : Int)]) ∧ vB 65536 (nB 65536 16 S ++ [((S / 115792089237316195423570985008687907853269984665640564039457584007913129639936 : Nat) : Int)]) = S := by
 refine ⟨⟨?_, by rw [List.length_append, nB_length]; rfl⟩, ?_⟩
 ·intro x hx
  rcases List.mem_append.1 hx with hx | hx
  ·have := nB_ok (b := 65536) (by decide) _ _ x hx
   omega
  ·rw [List.mem_singleton.1 hx]
   omega
 ·rw [vB_append, vB_nB, nB_length, M16]
  show _ + _ * ((((S / 115792089237316195423570985008687907853269984665640564039457584007913129639936 : Nat) : Int)).toNat + 65536 * 0) = S
  rw [Int.toNat_natCast]
  omega
set_option maxRecDepth 100000 in
theorem m19 : Meets Try.prog 19 sp19 := by
 refine meets_of_owed (C := c21) ⟨tab_ok, lkS_ok ⟨m38, trivial⟩⟩ (by kernel_rfl) (by kernel_rfl : Try.prog.funcs[19]? = some Try.f19) (by kernel_rfl) (by kernel_rfl) (by kernel_rfl) _ ?_
 rintro _ ⟨l, m, rfl, hl, hm⟩
 refine ⟨fun _ => rfl, inv19 l m, ?_⟩
 show owed c21 (inv19 l m) Try.f19 [fel l, fel m] (fe (vB 65536 l * vB 65536 m % FP))
 rw [vc19]
 simp (decide := true) only [eq_self, true_and, and_true, ne_eq, not_false_eq_true, Int.toNat_natCast]
 refine ⟨?_, ?_⟩
 ·have := byI_zero l m
  and_intros <;> first | exact True.intro | rfl | exact this
 rintro ⟨i, out⟩ hx
 replace hx : i ≤ 16 ∧ ByI l m i out := hx
 obtain ⟨hi, hB⟩ := hx
 simp only []
 split
 ·rename_i h
  have h := of_decide_eq_true h
  have hi : i < 16 := by omega
  refine ⟨?_, ?_⟩
  ·have := byJ_zero hB
   and_intros <;> first | exact True.intro | rfl | exact this
  rintro ⟨k, o⟩ hx
  replace hx : k ≤ 16 ∧ ByJ l m i k o := hx
  obtain ⟨hk, hJ⟩ := hx
  simp only []
  split
  ·rename_i h
   have h := of_decide_eq_true h
   have hk : k < 16 := by omega
   obtain ⟨x, ex, hx⟩ := isF_get hl hi
   obtain ⟨y, ey, hy⟩ := isF_get hm hk
   have ho := hJ.ok (i + k)
   rw [if_neg (Nat.lt_irrefl _)] at ho
   obtain ⟨z, ez, hz⟩ : ∃ z : Nat, o.getD (i + k) 0 = (z : Int) ∧ z ≤ 68717379600 := ⟨(o.getD (i + k) 0).toNat, by omega, by omega⟩
   have hxy : x * y ≤ 4294836225 := Nat.mul_le_mul (show x ≤ 65535 by omega) (show y ≤ 65535 by omega)
   have hst := byJ_step hl hm hi hk hJ ex ey ez
   have e1 : IntKind.i64.wrap ((i : Int) + (k : Int)) = ((i + k : Nat) : Int) := by rw [wi (by omega) (by omega)]; rfl
   have e2 : IntKind.i64.wrap ((x : Int) * (y : Int)) = ((x * y : Nat) : Int) := by rw [← Int.natCast_mul]; exact wNi' (by omega)
   have e3 : IntKind.i64.wrap ((z : Int) + ((x * y : Nat) : Int)) = ((z + x * y : Nat) : Int) := by rw [← Int.natCast_add]; exact wNi' (by omega)
   rw [e1, i64w (by omega), Int.toNat_natCast, Int.toNat_natCast, ex, ey, ez, e2, e3]
   and_intros <;> first | exact True.intro | rfl | omega | exact hst
  ·rename_i h
   have h := of_decide_eq_false h
   have hk : k = 16 := by omega
   subst hk
   have hn := byI_next hl hm hi hJ
   rw [i64w (by omega), Int.toNat_natCast]
   and_intros <;> first | exact True.intro | rfl | omega | exact hn
 ·rename_i h
  have h := of_decide_eq_false h
  have hi : i = 16 := by omega
  subst hi
  refine ⟨?_, ?_⟩
  ·have : byS out 0 / 1 = 0 := by unfold byS; rw [List.take_zero, List.take_zero]; rfl
   and_intros <;> first | exact True.intro | rfl | exact this.symm
  rintro ⟨i, c, t⟩ hx
  replace hx : i ≤ 16 ∧ c = byS out i / 65536 ^ i ∧ t = nB 65536 i (byS out i) ++ List.replicate (17 - i) 0 := hx
  obtain ⟨hi, rfl, rfl⟩ := hx
  simp only []
  have hc := byS_lt hB hi
  split
  ·rename_i h
   have h := of_decide_eq_true h
   have hi : i < 16 := by omega
   obtain ⟨x, ex, hx⟩ := by_get hB i
   obtain ⟨y, ey, hy⟩ := by_get hB (i + 16)
   have hs := byS_succ hB.len hi
   rw [ex, ey, Int.toNat_natCast, Int.toNat_natCast] at hs
   have hg := grow (b := 65536) (by decide) (show i < 17 by omega) (byS out i) (x + 38 * y)
   have hd := grow_div (b := 65536) (by decide) i (byS out i) (x + 38 * y)
   rw [← hs] at hg hd
   have e1 : IntKind.i64.wrap ((i : Int) + 16) = ((i + 16 : Nat) : Int) := by rw [wi (by omega) (by omega)]; rfl
   have e2 : IntKind.i64.wrap (38 * (y : Int)) = ((38 * y : Nat) : Int) := by rw [wi (by omega) (by omega)]; omega
   have e3 : IntKind.i64.wrap ((x : Int) + ((38 * y : Nat) : Int)) = ((x + 38 * y : Nat) : Int) := by rw [← Int.natCast_add]; exact wNi' (by omega)
   have e4 : IntKind.i64.wrap (((byS out i / 65536 ^ i : Nat) : Int) + ((x + 38 * y : Nat) : Int)) = ((byS out i / 65536 ^ i + (x + 38 * y) : Nat) : Int) := by rw [← Int.natCast_add]; exact wNi' (by omega)
   rw [e1, i64w (by omega), Int.toNat_natCast, Int.toNat_natCast, ex, ey, e2, e3, e4, iand65 (by omega), ishr16, Int.toNat_natCast, hg, hd]
   and_intros <;> first | exact True.intro | rfl | omega
  ·rename_i h
   have h := of_decide_eq_false h
   have hi : i = 16 := by omega
   subst hi
   have hb := byS_bound hB (i := 16) (by decide)
   have hv := byS_val hB hl
   rw [M16] at hb ⊢
   have hE := byEnd hb
   have e : (nB 65536 16 (byS out 16) ++ List.replicate (17 - 16) 0).set 16 ((byS out 16 / 115792089237316195423570985008687907853269984665640564039457584007913129639936 : Nat) : Int) = nB 65536 16 (byS out 16) ++ [((byS out 16 / 115792089237316195423570985008687907853269984665640564039457584007913129639936 : Nat) : Int)] := by
    rw [List.set_append_right _ _ (by rw [nB_length]; exact Nat.le_refl _), nB_length]
    rfl
   rw [e, hE.2, hv]
   exact ⟨⟨_, rfl, hE.1⟩, rfl⟩
theorem twF_ok {l : List Int} (h : isF l) (i : Nat) : isF (twF l i) := by
 unfold twF
 split
 ·exact h
 ·exact nF _
theorem twF_mul {l : List Int} (i v : Nat) : v * vB 65536 (twF l i) % FP = v * vB 65536 l ^ (2 ^ i) % FP := by
 unfold twF
 split
 ·rename_i h
  subst h
  rw [Nat.pow_zero, Nat.pow_one]
 ·rw [fn (fpw_nlt _ _), fpw_eq, Nat.mul_mod_mod]
theorem twF_sq {l : List Int} (i : Nat) : nB 65536 16 (vB 65536 (twF l i) * vB 65536 (twF l i) % FP) = twF l (i + 1) := by
 rw [twF_mul, Nat.mul_comm, twF_mul, ← Nat.pow_add, show 2 ^ i + 2 ^ i = 2 ^ (i + 1) by rw [Nat.pow_succ]; omega]
 unfold twF
 rw [if_neg (by omega), fpw_eq]
set_option maxRecDepth 100000 in
theorem m42 : Meets Try.prog 42 sp42 := by
 refine meets_of_owed (C := c42) ⟨tab_ok, lkS_ok ⟨m20, m23, m19, trivial⟩⟩ (by kernel_rfl) (by kernel_rfl : Try.prog.funcs[42]? = some Try.f42) (by kernel_rfl) (by kernel_rfl) (by kernel_rfl) _ ?_
 rintro _ ⟨l, m, rfl, hl, hm, hml, hlt⟩
 refine ⟨fun _ => rfl, inv42 l m, ?_⟩
 show owed c42 (inv42 l m) Try.f42 [fel l, dgs m] (fe (fpw (vB 65536 l) (vB 65536 m)))
 rw [vc42]
 generalize vB 65536 m = N at hlt ⊢
 simp (decide := true) only [eq_self, true_and, and_true, ne_eq, not_false_eq_true, Int.toNat_natCast, nB_length]
 refine ⟨⟨1, rfl, by decide⟩, ⟨_, _, rfl, hm, hml, by decide, by decide⟩, ?_, ?_⟩
 ·rw [Nat.mod_one, fpw_zero]
  and_intros <;> first | exact True.intro | rfl
 intro x hx
 split
 ·rename_i h
  have h := of_decide_eq_true h
  have hx : x < 256 := by omega
  have hb := nB_get 2 256 N x hx
  have e1 : N % 2 ^ (x + 1) = N % 2 ^ x + 2 ^ x * (N / 2 ^ x % 2) := by rw [Nat.mod_pow_succ]
  have hbit : N / 2 ^ x % 2 = 0 ∨ N / 2 ^ x % 2 = 1 := by omega
  rw [hb, i64w (by omega), Int.toNat_natCast, twF_sq, twF_mul, fn (fpw_nlt _ _), e1]
  have hmul : fpw (vB 65536 l) (N % 2 ^ x) * vB 65536 l ^ 2 ^ x % FP = fpw (vB 65536 l) (N % 2 ^ x + 2 ^ x) := by
   rw [fpw_eq, fpw_eq, Nat.pow_add, Nat.mod_mul_mod]
  have ok := twF_ok hl x
  rcases hbit with hbit | hbit
  ·rw [hbit, Nat.mul_zero, Nat.add_zero]
   show (_ ∧ _)
   and_intros <;> first | exact True.intro | rfl | omega | exact ⟨_, _, rfl, ok, ok⟩
  ·rw [hbit, Nat.mul_one, hmul]
   show (_ ∧ _)
   and_intros <;> first | exact True.intro | rfl | omega | exact ⟨_, _, rfl, ok, ok⟩ | exact ⟨_, _, rfl, nF _, ok⟩
 ·rename_i h
  have h := of_decide_eq_false h
  have hx : x = 256 := by omega
  subst hx
  rw [Nat.mod_eq_of_lt hlt]
set_option maxRecDepth 100000 in
theorem m26 : Meets Try.prog 26 sp26 := by
 refine meets_of_owed (C := c26) ⟨tab_ok, lkS_ok ⟨m36, m43, m42, trivial⟩⟩ (by kernel_rfl) (by kernel_rfl : Try.prog.funcs[26]? = some Try.f26) (by kernel_rfl) (by kernel_rfl) (by kernel_rfl) _ ?_
 rintro _ ⟨l, rfl, hl⟩
 refine ⟨fun _ => rfl, fun _ => none, ?_⟩
 show owed c26 (fun _ => none) Try.f26 [fel l] (fe (fpw (vB 65536 l) (FP - 2)))
 rw [vc26]
 have k1 := dgF_ok
 have k2 := one_ok (x := 2) (by decide)
 have hF := FP_eq
 have k3 := okLn (n := FP - Int.toNat 2) (by rw [hF]; decide)
 have k5 : vB 65536 (dg (FP - Int.toNat 2)) = FP - 2 := vl_dg _
 have k4 : vB 65536 [2] ≤ vB 65536 dgF := by rw [vD_dgF, vD_one, hF]; decide
 rw [vD_one, vD_dgF, k5]
 simp (decide := true) only [eq_self, true_and, and_true, ne_eq, not_false_eq_true]
 refine ⟨⟨_, _, rfl, ⟨k1.1, k1.2.1⟩, k2, k4⟩, ⟨_, _, rfl, hl, k3.1, k3.2.2.2, ?_⟩⟩
 rw [k5, hF]
 decide
end Go.Proofs.Ytpkcmjfmoemekaa
namespace Go.Proofs.Ytpkcmjfmoemekaa
open Go Go.Vg
abbrev ptD (l m : List Int) : D := .st [num4 l, num4 m]
abbrev quD (a b c d : List Int) : D := .st [num4 a, num4 b, num4 c, num4 d]
abbrev pjD (a b c : List Int) : D := .st [fel a, fel b, fel c]
def wF (d : D) (i : Nat) : Nat := wv (arrOf (fldOf d i))
def fF (d : D) (i : Nat) : Nat := vB 65536 (arrOf (fldOf d i))
def dN : Nat := 37095705934669439343138083508754565189542113879843219016388785533085940283555
def onB (x y : Nat) : Bool := decide (x < FP) && decide (y < FP) && decide (fsb (y * y % FP) (x * x % FP) = (1 + dN * (x * x % FP * (y * y % FP) % FP) % FP) % FP)
def oneF : List Int := [1, 0, 0, 0, 0, 0, 0, 0, 0, 0, 0, 0, 0, 0, 0, 0]
def qA (x y x' y' : Nat) : Nat := fsb y x * fsb y' x' % FP
def qB (x y x' y' : Nat) : Nat := (y + x) % FP * ((y' + x') % FP) % FP
def qC (t t' : Nat) : Nat := (t * t' % FP * dN % FP + t * t' % FP * dN % FP) % FP
def qZ (z z' : Nat) : Nat := (z * z' % FP + z * z' % FP) % FP
def qE (x y x' y' : Nat) : Nat := fsb (qB x y x' y') (qA x y x' y')
def qH (x y x' y' : Nat) : Nat := (qB x y x' y' + qA x y x' y') % FP
def qF (z t z' t' : Nat) : Nat := fsb (qZ z z') (qC t t')
def qG (z t z' t' : Nat) : Nat := (qZ z z' + qC t t') % FP
def rE (x y x' y' : Nat) : Nat := dN * (x * x' % FP) % FP * (y * y' % FP) % FP
def rB (z z' : Nat) : Nat := z * z' % FP * (z * z' % FP) % FP
def rS (x y x' y' : Nat) : Nat := (x * y' % FP + y * x' % FP) % FP
def rX (x y z x' y' z' : Nat) : Nat := z * z' % FP * fsb (rB z z') (rE x y x' y') % FP * rS x y x' y' % FP
def rY (x y z x' y' z' : Nat) : Nat := z * z' % FP * ((rB z z' + rE x y x' y') % FP) % FP * ((x * x' % FP + y * y' % FP) % FP) % FP
def rZ (x y z x' y' z' : Nat) : Nat := fsb (rB z z') (rE x y x' y') * ((rB z z' + rE x y x' y') % FP) % FP
noncomputable def aff (x z : Nat) : Nat := x * fpw z (FP - 2) % FP
noncomputable def adX (x y x' y' : Nat) : Nat := if onB x y && onB x' y' then aff (qE x y x' y' * qF 1 (x * y % FP) 1 (x' * y' % FP) % FP) (qF 1 (x * y % FP) 1 (x' * y' % FP) * qG 1 (x * y % FP) 1 (x' * y' % FP) % FP) else 0
noncomputable def adY (x y x' y' : Nat) : Nat := if onB x y && onB x' y' then aff (qG 1 (x * y % FP) 1 (x' * y' % FP) * qH x y x' y' % FP) (qF 1 (x * y % FP) 1 (x' * y' % FP) * qG 1 (x * y % FP) 1 (x' * y' % FP) % FP) else 0
def ngO (x y : Nat) : Int := if onB x y then 0 else 1
noncomputable def sp10 : Go.Vg.Spec := ⟨fun ds => ∃ l m, ds = [ptD l m] ∧ isN l ∧ isN m, fun ds => .val (.bool (onB (wF (ds.headD default) 0) (wF (ds.headD default) 1))), true, [26]⟩
noncomputable def sp5 : Go.Vg.Spec := ⟨fun ds => ∃ l m, ds = [ptD l m] ∧ isN l ∧ isN m, fun ds => .val (.bool (onB (wF (ds.headD default) 0) (wF (ds.headD default) 1))), true, [26]⟩
def sp12 : Go.Vg.Spec := ⟨fun ds => ds.length = 0, fun _ => ptD [0, 0, 0, 0] [1, 0, 0, 0], true, []⟩
def sp11 : Go.Vg.Spec := ⟨fun ds => ∃ l m, ds = [ptD l m] ∧ isN l ∧ isN m, fun ds => quD (arrOf (fldOf (ds.headD default) 0)) (arrOf (fldOf (ds.headD default) 1)) [1, 0, 0, 0] (nB 18446744073709551616 4 (wF (ds.headD default) 0 * wF (ds.headD default) 1 % FP)), true, [26]⟩
def sp14 : Go.Vg.Spec := ⟨fun ds => ∃ a b c d a' b' c' d', ds = [quD a b c d, quD a' b' c' d'] ∧ (isN a ∧ isN b ∧ isN c ∧ isN d) ∧ isN a' ∧ isN b' ∧ isN c' ∧ isN d',
 fun ds => .st [n4 (qE (wF (ds.headD default) 0) (wF (ds.headD default) 1) (wF (ds.getD 1 default) 0) (wF (ds.getD 1 default) 1) * qF (wF (ds.headD default) 2) (wF (ds.headD default) 3) (wF (ds.getD 1 default) 2) (wF (ds.getD 1 default) 3) % FP),
  n4 (qG (wF (ds.headD default) 2) (wF (ds.headD default) 3) (wF (ds.getD 1 default) 2) (wF (ds.getD 1 default) 3) * qH (wF (ds.headD default) 0) (wF (ds.headD default) 1) (wF (ds.getD 1 default) 0) (wF (ds.getD 1 default) 1) % FP),
  n4 (qF (wF (ds.headD default) 2) (wF (ds.headD default) 3) (wF (ds.getD 1 default) 2) (wF (ds.getD 1 default) 3) * qG (wF (ds.headD default) 2) (wF (ds.headD default) 3) (wF (ds.getD 1 default) 2) (wF (ds.getD 1 default) 3) % FP),
  n4 (qE (wF (ds.headD default) 0) (wF (ds.headD default) 1) (wF (ds.getD 1 default) 0) (wF (ds.getD 1 default) 1) * qH (wF (ds.headD default) 0) (wF (ds.headD default) 1) (wF (ds.getD 1 default) 0) (wF (ds.getD 1 default) 1) % FP)], true, [42, 42]⟩
noncomputable def sp16 : Go.Vg.Spec := ⟨fun ds => ∃ a b c d, ds = [quD a b c d] ∧ isN a ∧ isN b ∧ isN c ∧ isN d, fun ds => .st [n4 (aff (wF (ds.headD default) 0) (wF (ds.headD default) 2)), n4 (aff (wF (ds.headD default) 1) (wF (ds.headD default) 2))], true, [42]⟩
noncomputable def sp9 : Go.Vg.Spec := ⟨fun ds => ∃ a b c, ds = [pjD a b c] ∧ isF a ∧ isF b ∧ isF c, fun ds => .st [n4 (aff (fF (ds.headD default) 0) (fF (ds.headD default) 2)), n4 (aff (fF (ds.headD default) 1) (fF (ds.headD default) 2))], true, [34]⟩
def sp6 : Go.Vg.Spec := ⟨fun ds => ∃ l m, ds = [ptD l m] ∧ isN l ∧ isN m, fun ds => pjD (nB 65536 16 (wF (ds.headD default) 0 % FP)) (nB 65536 16 (wF (ds.headD default) 1 % FP)) oneF, true, [26]⟩
def sp24 : Go.Vg.Spec := ⟨fun ds => ∃ a b c a' b' c', ds = [pjD a b c, pjD a' b' c'] ∧ (isF a ∧ isF b ∧ isF c) ∧ isF a' ∧ isF b' ∧ isF c',
 fun ds => .st [fe (rX (fF (ds.headD default) 0) (fF (ds.headD default) 1) (fF (ds.headD default) 2) (fF (ds.getD 1 default) 0) (fF (ds.getD 1 default) 1) (fF (ds.getD 1 default) 2)),
  fe (rY (fF (ds.headD default) 0) (fF (ds.headD default) 1) (fF (ds.headD default) 2) (fF (ds.getD 1 default) 0) (fF (ds.getD 1 default) 1) (fF (ds.getD 1 default) 2)),
  fe (rZ (fF (ds.headD default) 0) (fF (ds.headD default) 1) (fF (ds.headD default) 2) (fF (ds.getD 1 default) 0) (fF (ds.getD 1 default) 1) (fF (ds.getD 1 default) 2))], true, [34, 34]⟩
def c10 : Ctx := ⟨tab, lkS [(27, sp27), (28, sp28), (29, sp29), (30, sp30), (31, sp31)], [], []⟩
def c5 : Ctx := ⟨tab, lkS [(17, sp17), (18, sp18), (19, sp19), (21, sp21), (20, sp20), (22, sp22)], [], []⟩
noncomputable def c16 : Ctx := ⟨tab, lkS [(33, sp33), (28, sp28)], [], []⟩
noncomputable def c9 : Ctx := ⟨tab, lkS [(26, sp26), (19, sp19), (18, sp18)], [], []⟩
def c6 : Ctx := ⟨tab, lkS [(17, sp17), (20, sp20)], [], []⟩
def c24 : Ctx := ⟨tab, lkS [(19, sp19), (21, sp21), (40, sp40), (22, sp22)], [], []⟩
set_option maxRecDepth 100000 in
theorem vc10  (l m : List Int) (F : D)  :
    (owed c10 (fun _ => none) Try.f10 [ptD l m] F) = (
 (True ∧ false = false) ∧ True ∧ (Sk.st [Sk.arr 4, Sk.arr 4] = Sk.st [Sk.arr 4, Sk.arr 4] ∧ 0 < 2) ∧ (4 ≠ 0 ∧ 4 = 4 ∧ true = true) ∧ (Sk.st [Sk.arr 4, Sk.arr 4] = Sk.st [Sk.arr 4, Sk.arr 4] ∧ 0 < 2) ∧ (4 ≠ 0 ∧ 4 = 4 ∧ true = true) ∧ (∃ (l_1 : List Int), [D.arr .u64 4 l] = [D.arr .u64 4 l_1] ∧ isN l_1) ∧ (IntKind.u64 = IntKind.u64 ∧ IntKind.u64 = IntKind.u64 ∧ 4 = 4 ∧ 4 = 4 ∧ 1 = 1) ∧ True ∧ match !eqB l (nB 18446744073709551616 4 (vB 18446744073709551616 l % FP)) with
 | true => True ∧ True ∧ (false = false ∧ True) ∧ D.val (Value.bool false) = F
 | false => (Sk.st [Sk.arr 4, Sk.arr 4] = Sk.st [Sk.arr 4, Sk.arr 4] ∧ 1 < 2) ∧ (4 ≠ 0 ∧ 4 = 4 ∧ true = true) ∧ (Sk.st [Sk.arr 4, Sk.arr 4] = Sk.st [Sk.arr 4, Sk.arr 4] ∧ 1 < 2) ∧ (4 ≠ 0 ∧ 4 = 4 ∧ true = true) ∧ (∃ (l : List Int), [D.arr .u64 4 m] = [D.arr .u64 4 l] ∧ isN l) ∧ (IntKind.u64 = IntKind.u64 ∧ IntKind.u64 = IntKind.u64 ∧ 4 = 4 ∧ 4 = 4 ∧ 1 = 1) ∧ True ∧ match !eqB m (nB 18446744073709551616 4 (vB 18446744073709551616 m % FP)) with
  | true => True ∧ (false = false ∧ True) ∧ D.val (Value.bool false) = F
  | false => (Sk.st [Sk.arr 4, Sk.arr 4] = Sk.st [Sk.arr 4, Sk.arr 4] ∧ 0 < 2) ∧ (4 ≠ 0 ∧ 4 = 4 ∧ true = true) ∧ (Sk.st [Sk.arr 4, Sk.arr 4] = Sk.st [Sk.arr 4, Sk.arr 4] ∧ 0 < 2) ∧ (4 ≠ 0 ∧ 4 = 4 ∧ true = true) ∧ (∃ (l_1 : List Int), ∃ (m : List Int), [D.arr .u64 4 l, D.arr .u64 4 l] = [D.arr .u64 4 l_1, D.arr .u64 4 m] ∧ isN l_1 ∧ isN m) ∧ (Sk.st [Sk.arr 4, Sk.arr 4] = Sk.st [Sk.arr 4, Sk.arr 4] ∧ 1 < 2) ∧ (4 ≠ 0 ∧ 4 = 4 ∧ true = true) ∧ (Sk.st [Sk.arr 4, Sk.arr 4] = Sk.st [Sk.arr 4, Sk.arr 4] ∧ 1 < 2) ∧ (4 ≠ 0 ∧ 4 = 4 ∧ true = true) ∧ (∃ (l : List Int), ∃ (m_1 : List Int), [D.arr .u64 4 m, D.arr .u64 4 m] = [D.arr .u64 4 l, D.arr .u64 4 m_1] ∧ isN l ∧ isN m_1) ∧ (True ∧ 4 ≠ 0) ∧ (True ∧ 4 ≠ 0) ∧ (Sk.arr 4 = Sk.arr 4 ∧ 4 ≠ 0 ∧ 4 = 4 ∧ false = false) ∧ (Sk.arr 4 = Sk.arr 4 ∧ 4 ≠ 0 ∧ 4 = 4 ∧ false = false) ∧ (4 ≠ 0 ∧ 4 = 4 ∧ true = true) ∧ (4 ≠ 0 ∧ 4 = 4 ∧ true = true) ∧ (∃ (l_1 : List Int), ∃ (m_1 : List Int), [D.arr .u64 4 (nB 18446744073709551616 4 (vB 18446744073709551616 m * vB 18446744073709551616 m % FP)), D.arr .u64 4 (nB 18446744073709551616 4 (vB 18446744073709551616 l * vB 18446744073709551616 l % FP))] = [D.arr .u64 4 l_1, D.arr .u64 4 m_1] ∧ isN l_1 ∧ isN m_1) ∧ (1 = 1 ∧ false = false ∧ (0 < 4 ∧ ([] : List Nat) = [] ∧ true = true) ∧ True) ∧ 0 = 0 ∧ (4 ≠ 0 ∧ 4 = 4 ∧ true = true) ∧ (4 ≠ 0 ∧ 4 = 4 ∧ true = true) ∧ (∃ (l_1 : List Int), ∃ (m_1 : List Int), [D.arr .u64 4 (nB 18446744073709551616 4 (vB 18446744073709551616 l * vB 18446744073709551616 l % FP)), D.arr .u64 4 (nB 18446744073709551616 4 (vB 18446744073709551616 m * vB 18446744073709551616 m % FP))] = [D.arr .u64 4 l_1, D.arr .u64 4 m_1] ∧ isN l_1 ∧ isN m_1) ∧ (∃ (l_1 : List Int), ∃ (m_1 : List Int), [D.arr .u64 4 dNum, D.arr .u64 4 (nB 18446744073709551616 4 (vB 18446744073709551616 (nB 18446744073709551616 4 (vB 18446744073709551616 l * vB 18446744073709551616 l % FP)) * vB 18446744073709551616 (nB 18446744073709551616 4 (vB 18446744073709551616 m * vB 18446744073709551616 m % FP)) % FP))] = [D.arr .u64 4 l_1, D.arr .u64 4 m_1] ∧ isN l_1 ∧ isN m_1) ∧ (∃ (l_1 : List Int), ∃ (m_1 : List Int), [D.arr .u64 4 [(1 : Int), (0 : Int), (0 : Int), (0 : Int)], D.arr .u64 4 (nB 18446744073709551616 4 (vB 18446744073709551616 dNum * vB 18446744073709551616 (nB 18446744073709551616 4 (vB 18446744073709551616 (nB 18446744073709551616 4 (vB 18446744073709551616 l * vB 18446744073709551616 l % FP)) * vB 18446744073709551616 (nB 18446744073709551616 4 (vB 18446744073709551616 m * vB 18446744073709551616 m % FP)) % FP)) % FP))] = [D.arr .u64 4 l_1, D.arr .u64 4 m_1] ∧ isN l_1 ∧ isN m_1) ∧ (IntKind.u64 = IntKind.u64 ∧ IntKind.u64 = IntKind.u64 ∧ 4 = 4 ∧ 4 = 4 ∧ 1 = 1) ∧ True ∧ (false = false ∧ True) ∧ D.val (Value.bool (eqB (nB 18446744073709551616 4 (fsb (vB 18446744073709551616 (nB 18446744073709551616 4 (vB 18446744073709551616 m * vB 18446744073709551616 m % FP))) (vB 18446744073709551616 (nB 18446744073709551616 4 (vB 18446744073709551616 l * vB 18446744073709551616 l % FP))))) (nB 18446744073709551616 4
   ((vB 18446744073709551616 [(1 : Int), (0 : Int), (0 : Int), (0 : Int)] + vB 18446744073709551616 (nB 18446744073709551616 4 (vB 18446744073709551616 dNum * vB 18446744073709551616 (nB 18446744073709551616 4 (vB 18446744073709551616 (nB 18446744073709551616 4 (vB 18446744073709551616 l * vB 18446744073709551616 l % FP)) * vB 18446744073709551616 (nB 18446744073709551616 4 (vB 18446744073709551616 m * vB 18446744073709551616 m % FP)) % FP)) % FP))) % FP)))) = F) := by kernel_rfl
set_option maxRecDepth 100000 in
theorem vc5  (l m : List Int) (F : D)  :
    (owed c5 (fun _ => none) Try.f5 [ptD l m] F) = (
 (True ∧ false = false) ∧ True ∧ (Sk.st [Sk.arr 4, Sk.arr 4] = Sk.st [Sk.arr 4, Sk.arr 4] ∧ 0 < 2) ∧ (4 ≠ 0 ∧ 4 = 4 ∧ true = true) ∧ (∃ (l_1 : List Int), [D.arr .u64 4 l] = [D.arr .u64 4 l_1] ∧ isN l_1) ∧ (Sk.st [Sk.arr 4, Sk.arr 4] = Sk.st [Sk.arr 4, Sk.arr 4] ∧ 1 < 2) ∧ (4 ≠ 0 ∧ 4 = 4 ∧ true = true) ∧ (∃ (l : List Int), [D.arr .u64 4 m] = [D.arr .u64 4 l] ∧ isN l) ∧ (True ∧ 16 ≠ 0) ∧ (True ∧ 16 ≠ 0) ∧ (Sk.arr 16 = Sk.arr 16 ∧ 16 ≠ 0 ∧ 16 = 16 ∧ false = false) ∧ (Sk.arr 16 = Sk.arr 16 ∧ 16 ≠ 0 ∧ 16 = 16 ∧ false = false) ∧ (16 ≠ 0 ∧ 16 = 16 ∧ true = true) ∧ (∃ (l_1 : List Int), [D.arr .i64 16 (nB 65536 16 (vB 18446744073709551616 l % FP))] = [D.arr .i64 16 l_1] ∧ isF l_1) ∧ (Sk.st [Sk.arr 4, Sk.arr 4] = Sk.st [Sk.arr 4, Sk.arr 4] ∧ 0 < 2) ∧ (4 ≠ 0 ∧ 4 = 4 ∧ true = true) ∧ (IntKind.u64 = IntKind.u64 ∧ IntKind.u64 = IntKind.u64 ∧ 4 = 4 ∧ 4 = 4 ∧ 1 = 1) ∧ True ∧ match !eqB (nB 18446744073709551616 4 (vB 65536 (nB 65536 16 (vB 18446744073709551616 l % FP)))) l with
 | true => True ∧ True ∧ (false = false ∧ True) ∧ D.val (Value.bool false) = F
 | false => (16 ≠ 0 ∧ 16 = 16 ∧ true = true) ∧ (∃ (l : List Int), [D.arr .i64 16 (nB 65536 16 (vB 18446744073709551616 m % FP))] = [D.arr .i64 16 l] ∧ isF l) ∧ (Sk.st [Sk.arr 4, Sk.arr 4] = Sk.st [Sk.arr 4, Sk.arr 4] ∧ 1 < 2) ∧ (4 ≠ 0 ∧ 4 = 4 ∧ true = true) ∧ (IntKind.u64 = IntKind.u64 ∧ IntKind.u64 = IntKind.u64 ∧ 4 = 4 ∧ 4 = 4 ∧ 1 = 1) ∧ True ∧ match !eqB (nB 18446744073709551616 4 (vB 65536 (nB 65536 16 (vB 18446744073709551616 m % FP)))) m with
  | true => True ∧ (false = false ∧ True) ∧ D.val (Value.bool false) = F
  | false => (16 ≠ 0 ∧ 16 = 16 ∧ true = true) ∧ (16 ≠ 0 ∧ 16 = 16 ∧ true = true) ∧ (∃ (l_1 : List Int), ∃ (m : List Int), [D.arr .i64 16 (nB 65536 16 (vB 18446744073709551616 l % FP)), D.arr .i64 16 (nB 65536 16 (vB 18446744073709551616 l % FP))] = [D.arr .i64 16 l_1, D.arr .i64 16 m] ∧ isF l_1 ∧ isF m) ∧ (16 ≠ 0 ∧ 16 = 16 ∧ true = true) ∧ (16 ≠ 0 ∧ 16 = 16 ∧ true = true) ∧ (∃ (l : List Int), ∃ (m_1 : List Int), [D.arr .i64 16 (nB 65536 16 (vB 18446744073709551616 m % FP)), D.arr .i64 16 (nB 65536 16 (vB 18446744073709551616 m % FP))] = [D.arr .i64 16 l, D.arr .i64 16 m_1] ∧ isF l ∧ isF m_1) ∧ (True ∧ 16 ≠ 0) ∧ (True ∧ 16 ≠ 0) ∧ (Sk.arr 16 = Sk.arr 16 ∧ 16 ≠ 0 ∧ 16 = 16 ∧ false = false) ∧ (Sk.arr 16 = Sk.arr 16 ∧ 16 ≠ 0 ∧ 16 = 16 ∧ false = false) ∧ (16 ≠ 0 ∧ 16 = 16 ∧ true = true) ∧ (∃ (n : Nat), [D.val (.int .i64 1)] = [D.val (.int .i64 (↑n : Int))] ∧ n < 65536) ∧ (16 ≠ 0 ∧ 16 = 16 ∧ true = true) ∧ (∃ (l_1 : List Int), ∃ (m : List Int), [D.arr .i64 16 [(1 : Int), (0 : Int), (0 : Int), (0 : Int), (0 : Int), (0 : Int), (0 : Int), (0 : Int), (0 : Int), (0 : Int), (0 : Int), (0 : Int), (0 : Int), (0 : Int), (0 : Int), (0 : Int)], D.arr .i64 16 (nB 65536 16 (vB 65536 (nB 65536 16 (vB 18446744073709551616 l % FP)) * vB 65536 (nB 65536 16 (vB 18446744073709551616 l % FP)) % FP))] = [D.arr .i64 16 l_1, D.arr .i64 16 m] ∧ isF l_1 ∧ isF m) ∧ 0 = 0 ∧ (16 ≠ 0 ∧ 16 = 16 ∧ true = true) ∧ (∃ (l_1 : List Int), ∃ (m : List Int), [D.arr .i64 16 dFe, D.arr .i64 16 (nB 65536 16 (vB 65536 (nB 65536 16 (vB 18446744073709551616 l % FP)) * vB 65536 (nB 65536 16 (vB 18446744073709551616 l % FP)) % FP))] = [D.arr .i64 16 l_1, D.arr .i64 16 m] ∧ isF l_1 ∧ isF m) ∧ (16 ≠ 0 ∧ 16 = 16 ∧ true = true) ∧ (∃ (l_1 : List Int), ∃ (m_1 : List Int), [D.arr .i64 16 (nB 65536 16 (vB 65536 dFe * vB 65536 (nB 65536 16 (vB 65536 (nB 65536 16 (vB 18446744073709551616 l % FP)) * vB 65536 (nB 65536 16 (vB 18446744073709551616 l % FP)) % FP)) % FP)), D.arr .i64 16 (nB 65536 16 (vB 65536 (nB 65536 16 (vB 18446744073709551616 m % FP)) * vB 65536 (nB 65536 16 (vB 18446744073709551616 m % FP)) % FP))] = [D.arr .i64 16 l_1, D.arr .i64 16 m_1] ∧ isF l_1 ∧ isF m_1) ∧ (∃ (l_1 : List Int), ∃ (m_1 : List Int), [D.arr .i64 16 (nB 65536 16 ((vB 65536 [(1 : Int), (0 : Int), (0 : Int), (0 : Int), (0 : Int), (0 : Int), (0 : Int), (0 : Int), (0 : Int), (0 : Int), (0 : Int), (0 : Int), (0 : Int), (0 : Int), (0 : Int), (0 : Int)] + vB 65536 (nB 65536 16 (vB 65536 (nB 65536 16 (vB 18446744073709551616 l % FP)) * vB 65536 (nB 65536 16 (vB 18446744073709551616 l % FP)) % FP))) % FP)), D.arr .i64 16 (nB 65536 16 (vB 65536 (nB 65536 16 (vB 65536 dFe * vB 65536 (nB 65536 16 (vB 65536 (nB 65536 16 (vB 18446744073709551616 l % FP)) * vB 65536 (nB 65536 16 (vB 18446744073709551616 l % FP)) % FP)) % FP)) * vB 65536 (nB 65536 16 (vB 65536 (nB 65536 16 (vB 18446744073709551616 m % FP)) * vB 65536 (nB 65536 16 (vB 18446744073709551616 m % FP)) % FP)) % FP))] = [D.arr .i64 16 l_1, D.arr .i64 16 m_1] ∧ isF l_1 ∧ isF m_1) ∧ (IntKind.i64 = IntKind.i64 ∧ IntKind.i64 = IntKind.i64 ∧ 16 = 16 ∧ 16 = 16 ∧ 1 = 1) ∧
   True ∧ (false = false ∧ True) ∧ D.val (Value.bool (eqB (nB 65536 16 (vB 65536 (nB 65536 16 (vB 18446744073709551616 m % FP)) * vB 65536 (nB 65536 16 (vB 18446744073709551616 m % FP)) % FP)) (nB 65536 16 ((vB 65536 (nB 65536 16 ((vB 65536 [(1 : Int), (0 : Int), (0 : Int), (0 : Int), (0 : Int), (0 : Int), (0 : Int), (0 : Int), (0 : Int), (0 : Int), (0 : Int), (0 : Int), (0 : Int), (0 : Int), (0 : Int), (0 : Int)] + vB 65536 (nB 65536 16 (vB 65536 (nB 65536 16 (vB 18446744073709551616 l % FP)) * vB 65536 (nB 65536 16 (vB 18446744073709551616 l % FP)) % FP))) % FP)) + vB 65536 (nB 65536 16 (vB 65536 (nB 65536 16 (vB 65536 dFe * vB 65536 (nB 65536 16 (vB 65536 (nB 65536 16 (vB 18446744073709551616 l % FP)) * vB 65536 (nB 65536 16 (vB 18446744073709551616 l % FP)) % FP)) % FP)) * vB 65536 (nB 65536 16 (vB 65536 (nB 65536 16 (vB 18446744073709551616 m % FP)) * vB 65536 (nB 65536 16 (vB 18446744073709551616 m % FP)) % FP)) % FP))) % FP)))) = F) := by kernel_rfl
set_option maxRecDepth 100000 in
theorem vc12  (F : D)  :
    (owed c39 (fun _ => none) Try.f12 [] F) = (
 (True ∧ 8 ≠ 0) ∧ (1 = 1 ∧ false = false ∧ (0 < 4 ∧ ([] : List Nat) = [] ∧ true = true) ∧ True) ∧ (false = false ∧ (1 < 2 ∧ Sk.arr 4 = Sk.arr 4) ∧ True) ∧ (Sk.st [Sk.arr 4, Sk.arr 4] = Sk.st [Sk.arr 4, Sk.arr 4] ∧ 8 ≠ 0 ∧ 8 = 8 ∧ false = false) ∧ ((8 ≠ 0 ∧ 8 = 8 ∧ true = true) ∧ True) ∧ D.st [D.arr .u64 4 [(0 : Int), (0 : Int), (0 : Int), (0 : Int)], D.arr .u64 4 [(1 : Int), (0 : Int), (0 : Int), (0 : Int)]] = F) := by kernel_rfl
set_option maxRecDepth 100000 in
theorem vc11  (l m : List Int) (F : D)  :
    (owed c10 (fun _ => none) Try.f11 [ptD l m] F) = (
 (True ∧ false = false) ∧ (True ∧ 16 ≠ 0) ∧ (Sk.st [Sk.arr 4, Sk.arr 4] = Sk.st [Sk.arr 4, Sk.arr 4] ∧ 0 < 2) ∧ (4 ≠ 0 ∧ 4 = 4 ∧ true = true) ∧ (Sk.st [Sk.arr 4, Sk.arr 4] = Sk.st [Sk.arr 4, Sk.arr 4] ∧ 1 < 2) ∧ (4 ≠ 0 ∧ 4 = 4 ∧ true = true) ∧ (1 = 1 ∧ false = false ∧ (0 < 4 ∧ ([] : List Nat) = [] ∧ true = true) ∧ True) ∧ (Sk.st [Sk.arr 4, Sk.arr 4] = Sk.st [Sk.arr 4, Sk.arr 4] ∧ 0 < 2) ∧ (4 ≠ 0 ∧ 4 = 4 ∧ true = true) ∧ (Sk.st [Sk.arr 4, Sk.arr 4] = Sk.st [Sk.arr 4, Sk.arr 4] ∧ 1 < 2) ∧ (4 ≠ 0 ∧ 4 = 4 ∧ true = true) ∧ (∃ (l_1 : List Int), ∃ (m_1 : List Int), [D.arr .u64 4 l, D.arr .u64 4 m] = [D.arr .u64 4 l_1, D.arr .u64 4 m_1] ∧ isN l_1 ∧ isN m_1) ∧ (false = false ∧ (0 < 4 ∧ Sk.arr 4 = Sk.arr 4) ∧ false = false ∧ (1 < 4 ∧ Sk.arr 4 = Sk.arr 4) ∧ false = false ∧ (2 < 4 ∧ Sk.arr 4 = Sk.arr 4) ∧ false = false ∧ (3 < 4 ∧ Sk.arr 4 = Sk.arr 4) ∧ True) ∧ (Sk.st [Sk.arr 4, Sk.arr 4, Sk.arr 4, Sk.arr 4] = Sk.st [Sk.arr 4, Sk.arr 4, Sk.arr 4, Sk.arr 4] ∧ 16 ≠ 0 ∧ 16 = 16 ∧ false = false) ∧ ((16 ≠ 0 ∧ 16 = 16 ∧ true = true) ∧ True) ∧ D.st [D.arr .u64 4 l, D.arr .u64 4 m, D.arr .u64 4 [(1 : Int), (0 : Int), (0 : Int), (0 : Int)], D.arr .u64 4 (nB 18446744073709551616 4 (vB 18446744073709551616 l * vB 18446744073709551616 m % FP))] = F) := by kernel_rfl
set_option maxRecDepth 100000 in
theorem vc14  (a b c d a' b' c' d' : List Int) (F : D)  :
    (owed c10 (fun _ => none) Try.f14 [quD a b c d, quD a' b' c' d'] F) = (
 (True ∧ false = false) ∧ (True ∧ false = false) ∧ (True ∧ 16 ≠ 0) ∧ (Sk.st [Sk.arr 4, Sk.arr 4, Sk.arr 4, Sk.arr 4] = Sk.st [Sk.arr 4, Sk.arr 4, Sk.arr 4, Sk.arr 4] ∧ 1 < 4) ∧ (4 ≠ 0 ∧ 4 = 4 ∧ true = true) ∧ (Sk.st [Sk.arr 4, Sk.arr 4, Sk.arr 4, Sk.arr 4] = Sk.st [Sk.arr 4, Sk.arr 4, Sk.arr 4, Sk.arr 4] ∧ 0 < 4) ∧ (4 ≠ 0 ∧ 4 = 4 ∧ true = true) ∧ (∃ (l : List Int), ∃ (m : List Int), [D.arr .u64 4 b, D.arr .u64 4 a] = [D.arr .u64 4 l, D.arr .u64 4 m] ∧ isN l ∧ isN m) ∧ (Sk.st [Sk.arr 4, Sk.arr 4, Sk.arr 4, Sk.arr 4] = Sk.st [Sk.arr 4, Sk.arr 4, Sk.arr 4, Sk.arr 4] ∧ 1 < 4) ∧ (4 ≠ 0 ∧ 4 = 4 ∧ true = true) ∧ (Sk.st [Sk.arr 4, Sk.arr 4, Sk.arr 4, Sk.arr 4] = Sk.st [Sk.arr 4, Sk.arr 4, Sk.arr 4, Sk.arr 4] ∧ 0 < 4) ∧ (4 ≠ 0 ∧ 4 = 4 ∧ true = true) ∧ (∃ (l : List Int), ∃ (m : List Int), [D.arr .u64 4 b', D.arr .u64 4 a'] = [D.arr .u64 4 l, D.arr .u64 4 m] ∧ isN l ∧ isN m) ∧ (∃ (l : List Int), ∃ (m : List Int), [D.arr .u64 4 (nB 18446744073709551616 4 (fsb (vB 18446744073709551616 b) (vB 18446744073709551616 a))), D.arr .u64 4 (nB 18446744073709551616 4 (fsb (vB 18446744073709551616 b') (vB 18446744073709551616 a')))] = [D.arr .u64 4 l, D.arr .u64 4 m] ∧ isN l ∧ isN m) ∧ (True ∧ 4 ≠ 0) ∧ (Sk.arr 4 = Sk.arr 4 ∧ 4 ≠ 0 ∧ 4 = 4 ∧ false = false) ∧ (Sk.st [Sk.arr 4, Sk.arr 4, Sk.arr 4, Sk.arr 4] = Sk.st [Sk.arr 4, Sk.arr 4, Sk.arr 4, Sk.arr 4] ∧ 1 < 4) ∧ (4 ≠ 0 ∧ 4 = 4 ∧ true = true) ∧ (Sk.st [Sk.arr 4, Sk.arr 4, Sk.arr 4, Sk.arr 4] = Sk.st [Sk.arr 4, Sk.arr 4, Sk.arr 4, Sk.arr 4] ∧ 0 < 4) ∧ (4 ≠ 0 ∧ 4 = 4 ∧ true = true) ∧ (∃ (l : List Int), ∃ (m : List Int), [D.arr .u64 4 b, D.arr .u64 4 a] = [D.arr .u64 4 l, D.arr .u64 4 m] ∧ isN l ∧ isN m) ∧ (Sk.st [Sk.arr 4, Sk.arr 4, Sk.arr 4, Sk.arr 4] = Sk.st [Sk.arr 4, Sk.arr 4, Sk.arr 4, Sk.arr 4] ∧ 1 < 4) ∧ (4 ≠ 0 ∧ 4 = 4 ∧ true = true) ∧ (Sk.st [Sk.arr 4, Sk.arr 4, Sk.arr 4, Sk.arr 4] = Sk.st [Sk.arr 4, Sk.arr 4, Sk.arr 4, Sk.arr 4] ∧ 0 < 4) ∧ (4 ≠ 0 ∧ 4 = 4 ∧ true = true) ∧ (∃ (l : List Int), ∃ (m : List Int), [D.arr .u64 4 b', D.arr .u64 4 a'] = [D.arr .u64 4 l, D.arr .u64 4 m] ∧ isN l ∧ isN m) ∧ (∃ (l : List Int), ∃ (m : List Int), [D.arr .u64 4 (nB 18446744073709551616 4 ((vB 18446744073709551616 b + vB 18446744073709551616 a) % FP)), D.arr .u64 4 (nB 18446744073709551616 4 ((vB 18446744073709551616 b' + vB 18446744073709551616 a') % FP))] = [D.arr .u64 4 l, D.arr .u64 4 m] ∧ isN l ∧ isN m) ∧ (True ∧ 4 ≠ 0) ∧ (Sk.arr 4 = Sk.arr 4 ∧ 4 ≠ 0 ∧ 4 = 4 ∧ false = false) ∧ (Sk.st [Sk.arr 4, Sk.arr 4, Sk.arr 4, Sk.arr 4] = Sk.st [Sk.arr 4, Sk.arr 4, Sk.arr 4, Sk.arr 4] ∧ 3 < 4) ∧ (4 ≠ 0 ∧ 4 = 4 ∧ true = true) ∧ (Sk.st [Sk.arr 4, Sk.arr 4, Sk.arr 4, Sk.arr 4] = Sk.st [Sk.arr 4, Sk.arr 4, Sk.arr 4, Sk.arr 4] ∧ 3 < 4) ∧ (4 ≠ 0 ∧ 4 = 4 ∧ true = true) ∧ (∃ (l : List Int), ∃ (m : List Int), [D.arr .u64 4 d, D.arr .u64 4 d'] = [D.arr .u64 4 l, D.arr .u64 4 m] ∧ isN l ∧ isN m) ∧ 0 = 0 ∧ (∃ (l : List Int), ∃ (m : List Int), [D.arr .u64 4 (nB 18446744073709551616 4 (vB 18446744073709551616 d * vB 18446744073709551616 d' % FP)), D.arr .u64 4 dNum] = [D.arr .u64 4 l, D.arr .u64 4 m] ∧ isN l ∧ isN m) ∧
 (True ∧ 4 ≠ 0) ∧ (Sk.arr 4 = Sk.arr 4 ∧ 4 ≠ 0 ∧ 4 = 4 ∧ false = false) ∧ (4 ≠ 0 ∧ 4 = 4 ∧ true = true) ∧ (4 ≠ 0 ∧ 4 = 4 ∧ true = true) ∧ (∃ (l : List Int), ∃ (m : List Int), [D.arr .u64 4 (nB 18446744073709551616 4 (vB 18446744073709551616 (nB 18446744073709551616 4 (vB 18446744073709551616 d * vB 18446744073709551616 d' % FP)) * vB 18446744073709551616 dNum % FP)), D.arr .u64 4 (nB 18446744073709551616 4 (vB 18446744073709551616 (nB 18446744073709551616 4 (vB 18446744073709551616 d * vB 18446744073709551616 d' % FP)) * vB 18446744073709551616 dNum % FP))] = [D.arr .u64 4 l, D.arr .u64 4 m] ∧ isN l ∧ isN m) ∧ (Sk.arr 4 = Sk.arr 4 ∧ 4 ≠ 0 ∧ 4 = 4 ∧ false = false) ∧ (Sk.st [Sk.arr 4, Sk.arr 4, Sk.arr 4, Sk.arr 4] = Sk.st [Sk.arr 4, Sk.arr 4, Sk.arr 4, Sk.arr 4] ∧ 2 < 4) ∧ (4 ≠ 0 ∧ 4 = 4 ∧ true = true) ∧ (Sk.st [Sk.arr 4, Sk.arr 4, Sk.arr 4, Sk.arr 4] = Sk.st [Sk.arr 4, Sk.arr 4, Sk.arr 4, Sk.arr 4] ∧ 2 < 4) ∧ (4 ≠ 0 ∧ 4 = 4 ∧ true = true) ∧ (∃ (l : List Int), ∃ (m : List Int), [D.arr .u64 4 c, D.arr .u64 4 c'] = [D.arr .u64 4 l, D.arr .u64 4 m] ∧ isN l ∧ isN m) ∧ (True ∧ 4 ≠ 0) ∧ (Sk.arr 4 = Sk.arr 4 ∧ 4 ≠ 0 ∧ 4 = 4 ∧ false = false) ∧ (4 ≠ 0 ∧ 4 = 4 ∧ true = true) ∧ (4 ≠ 0 ∧ 4 = 4 ∧ true = true) ∧ (∃ (l : List Int), ∃ (m : List Int), [D.arr .u64 4 (nB 18446744073709551616 4 (vB 18446744073709551616 c * vB 18446744073709551616 c' % FP)), D.arr .u64 4 (nB 18446744073709551616 4 (vB 18446744073709551616 c * vB 18446744073709551616 c' % FP))] = [D.arr .u64 4 l, D.arr .u64 4 m] ∧ isN l ∧ isN m) ∧ (Sk.arr 4 = Sk.arr 4 ∧ 4 ≠ 0 ∧ 4 = 4 ∧ false = false) ∧ (4 ≠ 0 ∧ 4 = 4 ∧ true = true) ∧ (4 ≠ 0 ∧ 4 = 4 ∧ true = true) ∧ (∃ (l : List Int), ∃ (m : List Int), [D.arr .u64 4 (nB 18446744073709551616 4 (vB 18446744073709551616 (nB 18446744073709551616 4 ((vB 18446744073709551616 b + vB 18446744073709551616 a) % FP)) * vB 18446744073709551616 (nB 18446744073709551616 4 ((vB 18446744073709551616 b' + vB 18446744073709551616 a') % FP)) % FP)), D.arr .u64 4 (nB 18446744073709551616 4 (vB 18446744073709551616 (nB 18446744073709551616 4 (fsb (vB 18446744073709551616 b) (vB 18446744073709551616 a))) * vB 18446744073709551616 (nB 18446744073709551616 4 (fsb (vB 18446744073709551616 b') (vB 18446744073709551616 a'))) % FP))] = [D.arr .u64 4 l, D.arr .u64 4 m] ∧ isN l ∧ isN m) ∧ (4 ≠ 0 ∧ 4 = 4 ∧ true = true) ∧ (4 ≠ 0 ∧ 4 = 4 ∧ true = true) ∧ (∃ (l : List Int), ∃ (m : List Int), [D.arr .u64 4 (nB 18446744073709551616 4 ((vB 18446744073709551616 (nB 18446744073709551616 4 (vB 18446744073709551616 c * vB 18446744073709551616 c' % FP)) + vB 18446744073709551616 (nB 18446744073709551616 4 (vB 18446744073709551616 c * vB 18446744073709551616 c' % FP))) % FP)), D.arr .u64 4 (nB 18446744073709551616 4 ((vB 18446744073709551616 (nB 18446744073709551616 4 (vB 18446744073709551616 (nB 18446744073709551616 4 (vB 18446744073709551616 d * vB 18446744073709551616 d' % FP)) * vB 18446744073709551616 dNum % FP)) + vB 18446744073709551616 (nB 18446744073709551616 4 (vB 18446744073709551616 (nB 18446744073709551616 4 (vB 18446744073709551616 d * vB 18446744073709551616 d' % FP)) * vB 18446744073709551616 dNum % FP))) %
 FP))] = [D.arr .u64 4 l, D.arr .u64 4 m] ∧ isN l ∧ isN m) ∧ (4 ≠ 0 ∧ 4 = 4 ∧ true = true) ∧ (4 ≠ 0 ∧ 4 = 4 ∧ true = true) ∧ (∃ (l : List Int), ∃ (m : List Int), [D.arr .u64 4 (nB 18446744073709551616 4 ((vB 18446744073709551616 (nB 18446744073709551616 4 (vB 18446744073709551616 c * vB 18446744073709551616 c' % FP)) + vB 18446744073709551616 (nB 18446744073709551616 4 (vB 18446744073709551616 c * vB 18446744073709551616 c' % FP))) % FP)), D.arr .u64 4 (nB 18446744073709551616 4 ((vB 18446744073709551616 (nB 18446744073709551616 4 (vB 18446744073709551616 (nB 18446744073709551616 4 (vB 18446744073709551616 d * vB 18446744073709551616 d' % FP)) * vB 18446744073709551616 dNum % FP)) + vB 18446744073709551616 (nB 18446744073709551616 4 (vB 18446744073709551616 (nB 18446744073709551616 4 (vB 18446744073709551616 d * vB 18446744073709551616 d' % FP)) * vB 18446744073709551616 dNum % FP))) % FP))] = [D.arr .u64 4 l, D.arr .u64 4 m] ∧ isN l ∧ isN m) ∧ (4 ≠ 0 ∧ 4 = 4 ∧ true = true) ∧ (4 ≠ 0 ∧ 4 = 4 ∧ true = true) ∧ (∃ (l : List Int), ∃ (m : List Int), [D.arr .u64 4 (nB 18446744073709551616 4 (vB 18446744073709551616 (nB 18446744073709551616 4 ((vB 18446744073709551616 b + vB 18446744073709551616 a) % FP)) * vB 18446744073709551616 (nB 18446744073709551616 4 ((vB 18446744073709551616 b' + vB 18446744073709551616 a') % FP)) % FP)), D.arr .u64 4 (nB 18446744073709551616 4 (vB 18446744073709551616 (nB 18446744073709551616 4 (fsb (vB 18446744073709551616 b) (vB 18446744073709551616 a))) * vB 18446744073709551616 (nB 18446744073709551616 4 (fsb (vB 18446744073709551616 b') (vB 18446744073709551616 a'))) % FP))] = [D.arr .u64 4 l, D.arr .u64 4 m] ∧ isN l ∧ isN m) ∧ (True ∧ 4 ≠ 0) ∧ (True ∧ 4 ≠ 0) ∧ (True ∧ 4 ≠ 0) ∧ (True ∧ 4 ≠ 0) ∧ (Sk.arr 4 = Sk.arr 4 ∧ 4 ≠ 0 ∧ 4 = 4 ∧ false = false) ∧ (Sk.arr 4 = Sk.arr 4 ∧ 4 ≠ 0 ∧ 4 = 4 ∧ false = false) ∧ (Sk.arr 4 = Sk.arr 4 ∧ 4 ≠ 0 ∧ 4 = 4 ∧ false = false) ∧ (Sk.arr 4 = Sk.arr 4 ∧ 4 ≠ 0 ∧ 4 = 4 ∧ false = false) ∧ (4 ≠ 0 ∧ 4 = 4 ∧ true = true) ∧ (4 ≠ 0 ∧ 4 = 4 ∧ true = true) ∧ (∃ (l : List Int), ∃ (m : List Int), [D.arr .u64 4 (nB 18446744073709551616 4 (fsb (vB 18446744073709551616 (nB 18446744073709551616 4 (vB 18446744073709551616 (nB 18446744073709551616 4 ((vB 18446744073709551616 b + vB 18446744073709551616 a) % FP)) * vB 18446744073709551616 (nB 18446744073709551616 4 ((vB 18446744073709551616 b' + vB 18446744073709551616 a') % FP)) % FP))) (vB 18446744073709551616 (nB 18446744073709551616 4 (vB 18446744073709551616 (nB 18446744073709551616 4 (fsb (vB 18446744073709551616 b) (vB 18446744073709551616 a))) * vB 18446744073709551616 (nB 18446744073709551616 4 (fsb (vB 18446744073709551616 b') (vB 18446744073709551616 a'))) % FP))))), D.arr .u64 4 (nB 18446744073709551616 4 (fsb (vB 18446744073709551616 (nB 18446744073709551616 4 ((vB 18446744073709551616 (nB 18446744073709551616 4 (vB 18446744073709551616 c * vB 18446744073709551616 c' % FP)) + vB 18446744073709551616 (nB 18446744073709551616 4 (vB 18446744073709551616 c * vB 18446744073709551616 c' % FP))) %
 FP))) (vB 18446744073709551616 (nB 18446744073709551616 4 ((vB 18446744073709551616 (nB 18446744073709551616 4 (vB 18446744073709551616 (nB 18446744073709551616 4 (vB 18446744073709551616 d * vB 18446744073709551616 d' % FP)) * vB 18446744073709551616 dNum % FP)) + vB 18446744073709551616 (nB 18446744073709551616 4 (vB 18446744073709551616 (nB 18446744073709551616 4 (vB 18446744073709551616 d * vB 18446744073709551616 d' % FP)) * vB 18446744073709551616 dNum % FP))) % FP)))))] = [D.arr .u64 4 l, D.arr .u64 4 m] ∧ isN l ∧ isN m) ∧ (4 ≠ 0 ∧ 4 = 4 ∧ true = true) ∧ (4 ≠ 0 ∧ 4 = 4 ∧ true = true) ∧ (∃ (l : List Int), ∃ (m : List Int), [D.arr .u64 4 (nB 18446744073709551616 4 ((vB 18446744073709551616 (nB 18446744073709551616 4 ((vB 18446744073709551616 (nB 18446744073709551616 4 (vB 18446744073709551616 c * vB 18446744073709551616 c' % FP)) + vB 18446744073709551616 (nB 18446744073709551616 4 (vB 18446744073709551616 c * vB 18446744073709551616 c' % FP))) % FP)) + vB 18446744073709551616 (nB 18446744073709551616 4 ((vB 18446744073709551616 (nB 18446744073709551616 4 (vB 18446744073709551616 (nB 18446744073709551616 4 (vB 18446744073709551616 d * vB 18446744073709551616 d' % FP)) * vB 18446744073709551616 dNum % FP)) + vB 18446744073709551616 (nB 18446744073709551616 4 (vB 18446744073709551616 (nB 18446744073709551616 4 (vB 18446744073709551616 d * vB 18446744073709551616 d' % FP)) * vB 18446744073709551616 dNum % FP))) % FP))) % FP)), D.arr .u64 4 (nB 18446744073709551616 4 ((vB 18446744073709551616 (nB 18446744073709551616 4 (vB 18446744073709551616 (nB 18446744073709551616 4 ((vB 18446744073709551616 b + vB 18446744073709551616 a) % FP)) * vB 18446744073709551616 (nB 18446744073709551616 4 ((vB 18446744073709551616 b' + vB 18446744073709551616 a') % FP)) % FP)) + vB 18446744073709551616 (nB 18446744073709551616 4 (vB 18446744073709551616 (nB 18446744073709551616 4 (fsb (vB 18446744073709551616 b) (vB 18446744073709551616 a))) * vB 18446744073709551616 (nB 18446744073709551616 4 (fsb (vB 18446744073709551616 b') (vB 18446744073709551616 a'))) % FP))) % FP))] = [D.arr .u64 4 l, D.arr .u64 4 m] ∧ isN l ∧ isN m) ∧ (4 ≠ 0 ∧ 4 = 4 ∧ true = true) ∧ (4 ≠ 0 ∧ 4 = 4 ∧ true = true) ∧ (∃ (l : List Int), ∃ (m : List Int), [D.arr .u64 4 (nB 18446744073709551616 4 (fsb (vB 18446744073709551616 (nB 18446744073709551616 4 ((vB 18446744073709551616 (nB 18446744073709551616 4 (vB 18446744073709551616 c * vB 18446744073709551616 c' % FP)) + vB 18446744073709551616 (nB 18446744073709551616 4 (vB 18446744073709551616 c * vB 18446744073709551616 c' % FP))) % FP))) (vB 18446744073709551616 (nB 18446744073709551616 4 ((vB 18446744073709551616 (nB 18446744073709551616 4 (vB 18446744073709551616 (nB 18446744073709551616 4 (vB 18446744073709551616 d * vB 18446744073709551616 d' % FP)) * vB 18446744073709551616 dNum % FP)) + vB 18446744073709551616 (nB 18446744073709551616 4 (vB 18446744073709551616 (nB 18446744073709551616 4 (vB 18446744073709551616 d * vB 18446744073709551616 d' % FP)) * vB 18446744073709551616 dNum % FP))) %
 FP))))), D.arr .u64 4 (nB 18446744073709551616 4 ((vB 18446744073709551616 (nB 18446744073709551616 4 ((vB 18446744073709551616 (nB 18446744073709551616 4 (vB 18446744073709551616 c * vB 18446744073709551616 c' % FP)) + vB 18446744073709551616 (nB 18446744073709551616 4 (vB 18446744073709551616 c * vB 18446744073709551616 c' % FP))) % FP)) + vB 18446744073709551616 (nB 18446744073709551616 4 ((vB 18446744073709551616 (nB 18446744073709551616 4 (vB 18446744073709551616 (nB 18446744073709551616 4 (vB 18446744073709551616 d * vB 18446744073709551616 d' % FP)) * vB 18446744073709551616 dNum % FP)) + vB 18446744073709551616 (nB 18446744073709551616 4 (vB 18446744073709551616 (nB 18446744073709551616 4 (vB 18446744073709551616 d * vB 18446744073709551616 d' % FP)) * vB 18446744073709551616 dNum % FP))) % FP))) % FP))] = [D.arr .u64 4 l, D.arr .u64 4 m] ∧ isN l ∧ isN m) ∧ (4 ≠ 0 ∧ 4 = 4 ∧ true = true) ∧ (4 ≠ 0 ∧ 4 = 4 ∧ true = true) ∧ (∃ (l : List Int), ∃ (m : List Int), [D.arr .u64 4 (nB 18446744073709551616 4 (fsb (vB 18446744073709551616 (nB 18446744073709551616 4 (vB 18446744073709551616 (nB 18446744073709551616 4 ((vB 18446744073709551616 b + vB 18446744073709551616 a) % FP)) * vB 18446744073709551616 (nB 18446744073709551616 4 ((vB 18446744073709551616 b' + vB 18446744073709551616 a') % FP)) % FP))) (vB 18446744073709551616 (nB 18446744073709551616 4 (vB 18446744073709551616 (nB 18446744073709551616 4 (fsb (vB 18446744073709551616 b) (vB 18446744073709551616 a))) * vB 18446744073709551616 (nB 18446744073709551616 4 (fsb (vB 18446744073709551616 b') (vB 18446744073709551616 a'))) % FP))))), D.arr .u64 4 (nB 18446744073709551616 4 ((vB 18446744073709551616 (nB 18446744073709551616 4 (vB 18446744073709551616 (nB 18446744073709551616 4 ((vB 18446744073709551616 b + vB 18446744073709551616 a) % FP)) * vB 18446744073709551616 (nB 18446744073709551616 4 ((vB 18446744073709551616 b' + vB 18446744073709551616 a') % FP)) % FP)) + vB 18446744073709551616 (nB 18446744073709551616 4 (vB 18446744073709551616 (nB 18446744073709551616 4 (fsb (vB 18446744073709551616 b) (vB 18446744073709551616 a))) * vB 18446744073709551616 (nB 18446744073709551616 4 (fsb (vB 18446744073709551616 b') (vB 18446744073709551616 a'))) % FP))) % FP))] = [D.arr .u64 4 l, D.arr .u64 4 m] ∧ isN l ∧ isN m) ∧ (false = false ∧ (0 < 4 ∧ Sk.arr 4 = Sk.arr 4) ∧ false = false ∧ (1 < 4 ∧ Sk.arr 4 = Sk.arr 4) ∧ false = false ∧ (2 < 4 ∧ Sk.arr 4 = Sk.arr 4) ∧ false = false ∧ (3 < 4 ∧ Sk.arr 4 = Sk.arr 4) ∧ True) ∧ (Sk.st [Sk.arr 4, Sk.arr 4, Sk.arr 4, Sk.arr 4] = Sk.st [Sk.arr 4, Sk.arr 4, Sk.arr 4, Sk.arr 4] ∧ 16 ≠ 0 ∧ 16 = 16 ∧ false = false) ∧ ((16 ≠ 0 ∧ 16 = 16 ∧ true = true) ∧ True) ∧ D.st [D.arr .u64 4 (nB 18446744073709551616 4 (vB 18446744073709551616 (nB 18446744073709551616 4 (fsb (vB 18446744073709551616 (nB 18446744073709551616 4 (vB 18446744073709551616 (nB 18446744073709551616 4 ((vB 18446744073709551616 b + vB 18446744073709551616 a) % FP)) * vB 18446744073709551616 (nB 18446744073709551616 4 ((vB 18446744073709551616 b' + vB 18446744073709551616 a') % FP)) %
 FP))) (vB 18446744073709551616 (nB 18446744073709551616 4 (vB 18446744073709551616 (nB 18446744073709551616 4 (fsb (vB 18446744073709551616 b) (vB 18446744073709551616 a))) * vB 18446744073709551616 (nB 18446744073709551616 4 (fsb (vB 18446744073709551616 b') (vB 18446744073709551616 a'))) % FP))))) * vB 18446744073709551616 (nB 18446744073709551616 4 (fsb (vB 18446744073709551616 (nB 18446744073709551616 4 ((vB 18446744073709551616 (nB 18446744073709551616 4 (vB 18446744073709551616 c * vB 18446744073709551616 c' % FP)) + vB 18446744073709551616 (nB 18446744073709551616 4 (vB 18446744073709551616 c * vB 18446744073709551616 c' % FP))) % FP))) (vB 18446744073709551616 (nB 18446744073709551616 4 ((vB 18446744073709551616 (nB 18446744073709551616 4 (vB 18446744073709551616 (nB 18446744073709551616 4 (vB 18446744073709551616 d * vB 18446744073709551616 d' % FP)) * vB 18446744073709551616 dNum % FP)) + vB 18446744073709551616 (nB 18446744073709551616 4 (vB 18446744073709551616 (nB 18446744073709551616 4 (vB 18446744073709551616 d * vB 18446744073709551616 d' % FP)) * vB 18446744073709551616 dNum % FP))) % FP))))) % FP)), D.arr .u64 4 (nB 18446744073709551616 4 (vB 18446744073709551616 (nB 18446744073709551616 4 ((vB 18446744073709551616 (nB 18446744073709551616 4 ((vB 18446744073709551616 (nB 18446744073709551616 4 (vB 18446744073709551616 c * vB 18446744073709551616 c' % FP)) + vB 18446744073709551616 (nB 18446744073709551616 4 (vB 18446744073709551616 c * vB 18446744073709551616 c' % FP))) % FP)) + vB 18446744073709551616 (nB 18446744073709551616 4 ((vB 18446744073709551616 (nB 18446744073709551616 4 (vB 18446744073709551616 (nB 18446744073709551616 4 (vB 18446744073709551616 d * vB 18446744073709551616 d' % FP)) * vB 18446744073709551616 dNum % FP)) + vB 18446744073709551616 (nB 18446744073709551616 4 (vB 18446744073709551616 (nB 18446744073709551616 4 (vB 18446744073709551616 d * vB 18446744073709551616 d' % FP)) * vB 18446744073709551616 dNum % FP))) % FP))) % FP)) * vB 18446744073709551616 (nB 18446744073709551616 4 ((vB 18446744073709551616 (nB 18446744073709551616 4 (vB 18446744073709551616 (nB 18446744073709551616 4 ((vB 18446744073709551616 b + vB 18446744073709551616 a) % FP)) * vB 18446744073709551616 (nB 18446744073709551616 4 ((vB 18446744073709551616 b' + vB 18446744073709551616 a') % FP)) % FP)) + vB 18446744073709551616 (nB 18446744073709551616 4 (vB 18446744073709551616 (nB 18446744073709551616 4 (fsb (vB 18446744073709551616 b) (vB 18446744073709551616 a))) * vB 18446744073709551616 (nB 18446744073709551616 4 (fsb (vB 18446744073709551616 b') (vB 18446744073709551616 a'))) % FP))) % FP)) % FP)), D.arr .u64 4 (nB 18446744073709551616 4 (vB 18446744073709551616 (nB 18446744073709551616 4 (fsb (vB 18446744073709551616 (nB 18446744073709551616 4 ((vB 18446744073709551616 (nB 18446744073709551616 4 (vB 18446744073709551616 c * vB 18446744073709551616 c' % FP)) + vB 18446744073709551616 (nB 18446744073709551616 4 (vB 18446744073709551616 c * vB 18446744073709551616 c' % FP))) %
 FP))) (vB 18446744073709551616 (nB 18446744073709551616 4 ((vB 18446744073709551616 (nB 18446744073709551616 4 (vB 18446744073709551616 (nB 18446744073709551616 4 (vB 18446744073709551616 d * vB 18446744073709551616 d' % FP)) * vB 18446744073709551616 dNum % FP)) + vB 18446744073709551616 (nB 18446744073709551616 4 (vB 18446744073709551616 (nB 18446744073709551616 4 (vB 18446744073709551616 d * vB 18446744073709551616 d' % FP)) * vB 18446744073709551616 dNum % FP))) % FP))))) * vB 18446744073709551616 (nB 18446744073709551616 4 ((vB 18446744073709551616 (nB 18446744073709551616 4 ((vB 18446744073709551616 (nB 18446744073709551616 4 (vB 18446744073709551616 c * vB 18446744073709551616 c' % FP)) + vB 18446744073709551616 (nB 18446744073709551616 4 (vB 18446744073709551616 c * vB 18446744073709551616 c' % FP))) % FP)) + vB 18446744073709551616 (nB 18446744073709551616 4 ((vB 18446744073709551616 (nB 18446744073709551616 4 (vB 18446744073709551616 (nB 18446744073709551616 4 (vB 18446744073709551616 d * vB 18446744073709551616 d' % FP)) * vB 18446744073709551616 dNum % FP)) + vB 18446744073709551616 (nB 18446744073709551616 4 (vB 18446744073709551616 (nB 18446744073709551616 4 (vB 18446744073709551616 d * vB 18446744073709551616 d' % FP)) * vB 18446744073709551616 dNum % FP))) % FP))) % FP)) % FP)), D.arr .u64 4 (nB 18446744073709551616 4 (vB 18446744073709551616 (nB 18446744073709551616 4 (fsb (vB 18446744073709551616 (nB 18446744073709551616 4 (vB 18446744073709551616 (nB 18446744073709551616 4 ((vB 18446744073709551616 b + vB 18446744073709551616 a) % FP)) * vB 18446744073709551616 (nB 18446744073709551616 4 ((vB 18446744073709551616 b' + vB 18446744073709551616 a') % FP)) % FP))) (vB 18446744073709551616 (nB 18446744073709551616 4 (vB 18446744073709551616 (nB 18446744073709551616 4 (fsb (vB 18446744073709551616 b) (vB 18446744073709551616 a))) * vB 18446744073709551616 (nB 18446744073709551616 4 (fsb (vB 18446744073709551616 b') (vB 18446744073709551616 a'))) % FP))))) * vB 18446744073709551616 (nB 18446744073709551616 4 ((vB 18446744073709551616 (nB 18446744073709551616 4 (vB 18446744073709551616 (nB 18446744073709551616 4 ((vB 18446744073709551616 b + vB 18446744073709551616 a) % FP)) * vB 18446744073709551616 (nB 18446744073709551616 4 ((vB 18446744073709551616 b' + vB 18446744073709551616 a') % FP)) % FP)) + vB 18446744073709551616 (nB 18446744073709551616 4 (vB 18446744073709551616 (nB 18446744073709551616 4 (fsb (vB 18446744073709551616 b) (vB 18446744073709551616 a))) * vB 18446744073709551616 (nB 18446744073709551616 4 (fsb (vB 18446744073709551616 b') (vB 18446744073709551616 a'))) % FP))) % FP)) % FP))] = F) := by kernel_rfl
set_option maxRecDepth 100000 in
theorem vc16  (a b c d : List Int) (F : D)  :
    (owed c16 (fun _ => none) Try.f16 [quD a b c d] F) = (
 (True ∧ false = false) ∧ (True ∧ 8 ≠ 0) ∧ (Sk.st [Sk.arr 4, Sk.arr 4, Sk.arr 4, Sk.arr 4] = Sk.st [Sk.arr 4, Sk.arr 4, Sk.arr 4, Sk.arr 4] ∧ 2 < 4) ∧ (4 ≠ 0 ∧ 4 = 4 ∧ true = true) ∧ (∃ (l : List Int), [D.arr .u64 4 c] = [D.arr .u64 4 l] ∧ isN l) ∧ (True ∧ 4 ≠ 0) ∧ (Sk.arr 4 = Sk.arr 4 ∧ 4 ≠ 0 ∧ 4 = 4 ∧ false = false) ∧ (Sk.st [Sk.arr 4, Sk.arr 4, Sk.arr 4, Sk.arr 4] = Sk.st [Sk.arr 4, Sk.arr 4, Sk.arr 4, Sk.arr 4] ∧ 0 < 4) ∧ (4 ≠ 0 ∧ 4 = 4 ∧ true = true) ∧ (4 ≠ 0 ∧ 4 = 4 ∧ true = true) ∧ (∃ (l : List Int), ∃ (m : List Int), [D.arr .u64 4 a, D.arr .u64 4 (nB 18446744073709551616 4 (fpw (vB 18446744073709551616 c) (FP - 2)))] = [D.arr .u64 4 l, D.arr .u64 4 m] ∧ isN l ∧ isN m) ∧ (Sk.st [Sk.arr 4, Sk.arr 4, Sk.arr 4, Sk.arr 4] = Sk.st [Sk.arr 4, Sk.arr 4, Sk.arr 4, Sk.arr 4] ∧ 1 < 4) ∧ (4 ≠ 0 ∧ 4 = 4 ∧ true = true) ∧ (4 ≠ 0 ∧ 4 = 4 ∧ true = true) ∧ (∃ (l : List Int), ∃ (m : List Int), [D.arr .u64 4 b, D.arr .u64 4 (nB 18446744073709551616 4 (fpw (vB 18446744073709551616 c) (FP - 2)))] = [D.arr .u64 4 l, D.arr .u64 4 m] ∧ isN l ∧ isN m) ∧ (false = false ∧ (0 < 2 ∧ Sk.arr 4 = Sk.arr 4) ∧ false = false ∧ (1 < 2 ∧ Sk.arr 4 = Sk.arr 4) ∧ True) ∧ (Sk.st [Sk.arr 4, Sk.arr 4] = Sk.st [Sk.arr 4, Sk.arr 4] ∧ 8 ≠ 0 ∧ 8 = 8 ∧ false = false) ∧ ((8 ≠ 0 ∧ 8 = 8 ∧ true = true) ∧ True) ∧ D.st [D.arr .u64 4 (nB 18446744073709551616 4 (vB 18446744073709551616 a * vB 18446744073709551616 (nB 18446744073709551616 4 (fpw (vB 18446744073709551616 c) (FP - 2))) % FP)), D.arr .u64 4 (nB 18446744073709551616 4 (vB 18446744073709551616 b * vB 18446744073709551616 (nB 18446744073709551616 4 (fpw (vB 18446744073709551616 c) (FP - 2))) % FP))] = F) := by kernel_rfl
set_option maxRecDepth 100000 in
theorem vc9  (a b c : List Int) (F : D)  :
    (owed c9 (fun _ => none) Try.f9 [pjD a b c] F) = (
 (True ∧ false = false) ∧ (True ∧ 8 ≠ 0) ∧ (Sk.st [Sk.arr 16, Sk.arr 16, Sk.arr 16] = Sk.st [Sk.arr 16, Sk.arr 16, Sk.arr 16] ∧ 2 < 3) ∧ (16 ≠ 0 ∧ 16 = 16 ∧ true = true) ∧ (∃ (l : List Int), [D.arr .i64 16 c] = [D.arr .i64 16 l] ∧ isF l) ∧ (True ∧ 16 ≠ 0) ∧ (Sk.arr 16 = Sk.arr 16 ∧ 16 ≠ 0 ∧ 16 = 16 ∧ false = false) ∧ (Sk.st [Sk.arr 16, Sk.arr 16, Sk.arr 16] = Sk.st [Sk.arr 16, Sk.arr 16, Sk.arr 16] ∧ 0 < 3) ∧ (16 ≠ 0 ∧ 16 = 16 ∧ true = true) ∧ (16 ≠ 0 ∧ 16 = 16 ∧ true = true) ∧ (∃ (l : List Int), ∃ (m : List Int), [D.arr .i64 16 a, D.arr .i64 16 (nB 65536 16 (fpw (vB 65536 c) (FP - 2)))] = [D.arr .i64 16 l, D.arr .i64 16 m] ∧ isF l ∧ isF m) ∧ (∃ (l : List Int), [D.arr .i64 16 (nB 65536 16 (vB 65536 a * vB 65536 (nB 65536 16 (fpw (vB 65536 c) (FP - 2))) % FP))] = [D.arr .i64 16 l] ∧ isF l) ∧ (Sk.st [Sk.arr 16, Sk.arr 16, Sk.arr 16] = Sk.st [Sk.arr 16, Sk.arr 16, Sk.arr 16] ∧ 1 < 3) ∧ (16 ≠ 0 ∧ 16 = 16 ∧ true = true) ∧ (16 ≠ 0 ∧ 16 = 16 ∧ true = true) ∧ (∃ (l : List Int), ∃ (m : List Int), [D.arr .i64 16 b, D.arr .i64 16 (nB 65536 16 (fpw (vB 65536 c) (FP - 2)))] = [D.arr .i64 16 l, D.arr .i64 16 m] ∧ isF l ∧ isF m) ∧ (∃ (l : List Int), [D.arr .i64 16 (nB 65536 16 (vB 65536 b * vB 65536 (nB 65536 16 (fpw (vB 65536 c) (FP - 2))) % FP))] = [D.arr .i64 16 l] ∧ isF l) ∧ (false = false ∧ (0 < 2 ∧ Sk.arr 4 = Sk.arr 4) ∧ false = false ∧ (1 < 2 ∧ Sk.arr 4 = Sk.arr 4) ∧ True) ∧ (Sk.st [Sk.arr 4, Sk.arr 4] = Sk.st [Sk.arr 4, Sk.arr 4] ∧ 8 ≠ 0 ∧ 8 = 8 ∧ false = false) ∧ ((8 ≠ 0 ∧ 8 = 8 ∧ true = true) ∧ True) ∧ D.st [D.arr .u64 4 (nB 18446744073709551616 4 (vB 65536 (nB 65536 16 (vB 65536 a * vB 65536 (nB 65536 16 (fpw (vB 65536 c) (FP - 2))) % FP)))), D.arr .u64 4 (nB 18446744073709551616 4 (vB 65536 (nB 65536 16 (vB 65536 b * vB 65536 (nB 65536 16 (fpw (vB 65536 c) (FP - 2))) % FP))))] = F) := by kernel_rfl
set_option maxRecDepth 100000 in
theorem vc6  (l m : List Int) (F : D)  :
    (owed c6 (fun _ => none) Try.f6 [ptD l m] F) = (
 (True ∧ false = false) ∧ (True ∧ 48 ≠ 0) ∧ (Sk.st [Sk.arr 4, Sk.arr 4] = Sk.st [Sk.arr 4, Sk.arr 4] ∧ 0 < 2) ∧ (4 ≠ 0 ∧ 4 = 4 ∧ true = true) ∧ (∃ (l_1 : List Int), [D.arr .u64 4 l] = [D.arr .u64 4 l_1] ∧ isN l_1) ∧ (Sk.st [Sk.arr 4, Sk.arr 4] = Sk.st [Sk.arr 4, Sk.arr 4] ∧ 1 < 2) ∧ (4 ≠ 0 ∧ 4 = 4 ∧ true = true) ∧ (∃ (l : List Int), [D.arr .u64 4 m] = [D.arr .u64 4 l] ∧ isN l) ∧ (∃ (n : Nat), [D.val (.int .i64 1)] = [D.val (.int .i64 (↑n : Int))] ∧ n < 65536) ∧ (false = false ∧ (0 < 3 ∧ Sk.arr 16 = Sk.arr 16) ∧ false = false ∧ (1 < 3 ∧ Sk.arr 16 = Sk.arr 16) ∧ false = false ∧ (2 < 3 ∧ Sk.arr 16 = Sk.arr 16) ∧ True) ∧ (Sk.st [Sk.arr 16, Sk.arr 16, Sk.arr 16] = Sk.st [Sk.arr 16, Sk.arr 16, Sk.arr 16] ∧ 48 ≠ 0 ∧ 48 = 48 ∧ false = false) ∧ ((48 ≠ 0 ∧ 48 = 48 ∧ true = true) ∧ True) ∧ D.st [D.arr .i64 16 (nB 65536 16 (vB 18446744073709551616 l % FP)), D.arr .i64 16 (nB 65536 16 (vB 18446744073709551616 m % FP)), D.arr .i64 16 [(1 : Int), (0 : Int), (0 : Int), (0 : Int), (0 : Int), (0 : Int), (0 : Int), (0 : Int), (0 : Int), (0 : Int), (0 : Int), (0 : Int), (0 : Int), (0 : Int), (0 : Int), (0 : Int)]] = F) := by kernel_rfl
set_option maxRecDepth 100000 in
theorem vc24  (a b c a' b' c' : List Int) (F : D)  :
    (owed c24 (fun _ => none) Try.f24 [pjD a b c, pjD a' b' c'] F) = (
 (True ∧ false = false) ∧ (True ∧ false = false) ∧ (True ∧ 48 ≠ 0) ∧ (Sk.st [Sk.arr 16, Sk.arr 16, Sk.arr 16] = Sk.st [Sk.arr 16, Sk.arr 16, Sk.arr 16] ∧ 2 < 3) ∧ (16 ≠ 0 ∧ 16 = 16 ∧ true = true) ∧ (Sk.st [Sk.arr 16, Sk.arr 16, Sk.arr 16] = Sk.st [Sk.arr 16, Sk.arr 16, Sk.arr 16] ∧ 2 < 3) ∧ (16 ≠ 0 ∧ 16 = 16 ∧ true = true) ∧ (∃ (l : List Int), ∃ (m : List Int), [D.arr .i64 16 c, D.arr .i64 16 c'] = [D.arr .i64 16 l, D.arr .i64 16 m] ∧ isF l ∧ isF m) ∧ (Sk.st [Sk.arr 16, Sk.arr 16, Sk.arr 16] = Sk.st [Sk.arr 16, Sk.arr 16, Sk.arr 16] ∧ 0 < 3) ∧ (16 ≠ 0 ∧ 16 = 16 ∧ true = true) ∧ (Sk.st [Sk.arr 16, Sk.arr 16, Sk.arr 16] = Sk.st [Sk.arr 16, Sk.arr 16, Sk.arr 16] ∧ 0 < 3) ∧ (16 ≠ 0 ∧ 16 = 16 ∧ true = true) ∧ (∃ (l : List Int), ∃ (m : List Int), [D.arr .i64 16 a, D.arr .i64 16 a'] = [D.arr .i64 16 l, D.arr .i64 16 m] ∧ isF l ∧ isF m) ∧ (Sk.st [Sk.arr 16, Sk.arr 16, Sk.arr 16] = Sk.st [Sk.arr 16, Sk.arr 16, Sk.arr 16] ∧ 1 < 3) ∧ (16 ≠ 0 ∧ 16 = 16 ∧ true = true) ∧ (Sk.st [Sk.arr 16, Sk.arr 16, Sk.arr 16] = Sk.st [Sk.arr 16, Sk.arr 16, Sk.arr 16] ∧ 1 < 3) ∧ (16 ≠ 0 ∧ 16 = 16 ∧ true = true) ∧ (∃ (l : List Int), ∃ (m : List Int), [D.arr .i64 16 b, D.arr .i64 16 b'] = [D.arr .i64 16 l, D.arr .i64 16 m] ∧ isF l ∧ isF m) ∧ (True ∧ 16 ≠ 0) ∧ (True ∧ 16 ≠ 0) ∧ (True ∧ 16 ≠ 0) ∧ (Sk.arr 16 = Sk.arr 16 ∧ 16 ≠ 0 ∧ 16 = 16 ∧ false = false) ∧ (Sk.arr 16 = Sk.arr 16 ∧ 16 ≠ 0 ∧ 16 = 16 ∧ false = false) ∧ (Sk.arr 16 = Sk.arr 16 ∧ 16 ≠ 0 ∧ 16 = 16 ∧ false = false) ∧ (16 ≠ 0 ∧ 16 = 16 ∧ true = true) ∧ (16 ≠ 0 ∧ 16 = 16 ∧ true = true) ∧ (∃ (l : List Int), ∃ (m : List Int), [D.arr .i64 16 (nB 65536 16 (vB 65536 c * vB 65536 c' % FP)), D.arr .i64 16 (nB 65536 16 (vB 65536 c * vB 65536 c' % FP))] = [D.arr .i64 16 l, D.arr .i64 16 m] ∧ isF l ∧ isF m) ∧ 0 = 0 ∧ (16 ≠ 0 ∧ 16 = 16 ∧ true = true) ∧ (∃ (l : List Int), ∃ (m : List Int), [D.arr .i64 16 dFe, D.arr .i64 16 (nB 65536 16 (vB 65536 a * vB 65536 a' % FP))] = [D.arr .i64 16 l, D.arr .i64 16 m] ∧ isF l ∧ isF m) ∧ (16 ≠ 0 ∧ 16 = 16 ∧ true = true) ∧ (∃ (l : List Int), ∃ (m : List Int), [D.arr .i64 16 (nB 65536 16 (vB 65536 dFe * vB 65536 (nB 65536 16 (vB 65536 a * vB 65536 a' % FP)) % FP)), D.arr .i64 16 (nB 65536 16 (vB 65536 b * vB 65536 b' % FP))] = [D.arr .i64 16 l, D.arr .i64 16 m] ∧ isF l ∧ isF m) ∧ (True ∧ 16 ≠ 0) ∧ (True ∧ 16 ≠ 0) ∧ (Sk.arr 16 = Sk.arr 16 ∧ 16 ≠ 0 ∧ 16 = 16 ∧ false = false) ∧ (Sk.arr 16 = Sk.arr 16 ∧ 16 ≠ 0 ∧ 16 = 16 ∧ false = false) ∧ (16 ≠ 0 ∧ 16 = 16 ∧ true = true) ∧ (16 ≠ 0 ∧ 16 = 16 ∧ true = true) ∧ (∃ (l : List Int), ∃ (m : List Int), [D.arr .i64 16 (nB 65536 16 (vB 65536 (nB 65536 16 (vB 65536 c * vB 65536 c' % FP)) * vB 65536 (nB 65536 16 (vB 65536 c * vB 65536 c' % FP)) % FP)), D.arr .i64 16 (nB 65536 16 (vB 65536 (nB 65536 16 (vB 65536 dFe * vB 65536 (nB 65536 16 (vB 65536 a * vB 65536 a' % FP)) % FP)) * vB 65536 (nB 65536 16 (vB 65536 b * vB 65536 b' % FP)) % FP))] = [D.arr .i64 16 l, D.arr .i64 16 m] ∧ isF l ∧ isF m) ∧ (16 ≠ 0 ∧ 16 = 16 ∧ true = true) ∧ (16 ≠ 0 ∧ 16 = 16 ∧ true = true) ∧ (∃ (l : List Int),
 ∃ (m : List Int), [D.arr .i64 16 (nB 65536 16 (vB 65536 (nB 65536 16 (vB 65536 c * vB 65536 c' % FP)) * vB 65536 (nB 65536 16 (vB 65536 c * vB 65536 c' % FP)) % FP)), D.arr .i64 16 (nB 65536 16 (vB 65536 (nB 65536 16 (vB 65536 dFe * vB 65536 (nB 65536 16 (vB 65536 a * vB 65536 a' % FP)) % FP)) * vB 65536 (nB 65536 16 (vB 65536 b * vB 65536 b' % FP)) % FP))] = [D.arr .i64 16 l, D.arr .i64 16 m] ∧ isF l ∧ isF m) ∧ (True ∧ 16 ≠ 0) ∧ (True ∧ 16 ≠ 0) ∧ (Sk.arr 16 = Sk.arr 16 ∧ 16 ≠ 0 ∧ 16 = 16 ∧ false = false) ∧ (Sk.arr 16 = Sk.arr 16 ∧ 16 ≠ 0 ∧ 16 = 16 ∧ false = false) ∧ (Sk.st [Sk.arr 16, Sk.arr 16, Sk.arr 16] = Sk.st [Sk.arr 16, Sk.arr 16, Sk.arr 16] ∧ 0 < 3) ∧ (16 ≠ 0 ∧ 16 = 16 ∧ true = true) ∧ (Sk.st [Sk.arr 16, Sk.arr 16, Sk.arr 16] = Sk.st [Sk.arr 16, Sk.arr 16, Sk.arr 16] ∧ 1 < 3) ∧ (16 ≠ 0 ∧ 16 = 16 ∧ true = true) ∧ (∃ (l : List Int), ∃ (m : List Int), [D.arr .i64 16 a, D.arr .i64 16 b'] = [D.arr .i64 16 l, D.arr .i64 16 m] ∧ isF l ∧ isF m) ∧ (Sk.st [Sk.arr 16, Sk.arr 16, Sk.arr 16] = Sk.st [Sk.arr 16, Sk.arr 16, Sk.arr 16] ∧ 1 < 3) ∧ (16 ≠ 0 ∧ 16 = 16 ∧ true = true) ∧ (Sk.st [Sk.arr 16, Sk.arr 16, Sk.arr 16] = Sk.st [Sk.arr 16, Sk.arr 16, Sk.arr 16] ∧ 0 < 3) ∧ (16 ≠ 0 ∧ 16 = 16 ∧ true = true) ∧ (∃ (l : List Int), ∃ (m : List Int), [D.arr .i64 16 b, D.arr .i64 16 a'] = [D.arr .i64 16 l, D.arr .i64 16 m] ∧ isF l ∧ isF m) ∧ (∃ (l : List Int), ∃ (m : List Int), [D.arr .i64 16 (nB 65536 16 (vB 65536 a * vB 65536 b' % FP)), D.arr .i64 16 (nB 65536 16 (vB 65536 b * vB 65536 a' % FP))] = [D.arr .i64 16 l, D.arr .i64 16 m] ∧ isF l ∧ isF m) ∧ (True ∧ 16 ≠ 0) ∧ (Sk.arr 16 = Sk.arr 16 ∧ 16 ≠ 0 ∧ 16 = 16 ∧ false = false) ∧ (16 ≠ 0 ∧ 16 = 16 ∧ true = true) ∧ (16 ≠ 0 ∧ 16 = 16 ∧ true = true) ∧ (∃ (l : List Int), ∃ (m : List Int), [D.arr .i64 16 (nB 65536 16 (vB 65536 c * vB 65536 c' % FP)), D.arr .i64 16 (nB 65536 16 (fsb (vB 65536 (nB 65536 16 (vB 65536 (nB 65536 16 (vB 65536 c * vB 65536 c' % FP)) * vB 65536 (nB 65536 16 (vB 65536 c * vB 65536 c' % FP)) % FP))) (vB 65536 (nB 65536 16 (vB 65536 (nB 65536 16 (vB 65536 dFe * vB 65536 (nB 65536 16 (vB 65536 a * vB 65536 a' % FP)) % FP)) * vB 65536 (nB 65536 16 (vB 65536 b * vB 65536 b' % FP)) % FP)))))] = [D.arr .i64 16 l, D.arr .i64 16 m] ∧ isF l ∧ isF m) ∧ (16 ≠ 0 ∧ 16 = 16 ∧ true = true) ∧ (∃ (l : List Int), ∃ (m : List Int), [D.arr .i64 16 (nB 65536 16 (vB 65536 (nB 65536 16 (vB 65536 c * vB 65536 c' % FP)) * vB 65536 (nB 65536 16 (fsb (vB 65536 (nB 65536 16 (vB 65536 (nB 65536 16 (vB 65536 c * vB 65536 c' % FP)) * vB 65536 (nB 65536 16 (vB 65536 c * vB 65536 c' % FP)) % FP))) (vB 65536 (nB 65536 16 (vB 65536 (nB 65536 16 (vB 65536 dFe * vB 65536 (nB 65536 16 (vB 65536 a * vB 65536 a' % FP)) % FP)) * vB 65536 (nB 65536 16 (vB 65536 b * vB 65536 b' % FP)) % FP))))) % FP)), D.arr .i64 16 (nB 65536 16 ((vB 65536 (nB 65536 16 (vB 65536 a * vB 65536 b' % FP)) + vB 65536 (nB 65536 16 (vB 65536 b * vB 65536 a' % FP))) % FP))] = [D.arr .i64 16 l, D.arr .i64 16 m] ∧ isF l ∧ isF m) ∧ (16 ≠ 0 ∧ 16 = 16 ∧ true = true) ∧
 (16 ≠ 0 ∧ 16 = 16 ∧ true = true) ∧ (∃ (l : List Int), ∃ (m : List Int), [D.arr .i64 16 (nB 65536 16 (vB 65536 c * vB 65536 c' % FP)), D.arr .i64 16 (nB 65536 16 ((vB 65536 (nB 65536 16 (vB 65536 (nB 65536 16 (vB 65536 c * vB 65536 c' % FP)) * vB 65536 (nB 65536 16 (vB 65536 c * vB 65536 c' % FP)) % FP)) + vB 65536 (nB 65536 16 (vB 65536 (nB 65536 16 (vB 65536 dFe * vB 65536 (nB 65536 16 (vB 65536 a * vB 65536 a' % FP)) % FP)) * vB 65536 (nB 65536 16 (vB 65536 b * vB 65536 b' % FP)) % FP))) % FP))] = [D.arr .i64 16 l, D.arr .i64 16 m] ∧ isF l ∧ isF m) ∧ (16 ≠ 0 ∧ 16 = 16 ∧ true = true) ∧ (16 ≠ 0 ∧ 16 = 16 ∧ true = true) ∧ (∃ (l : List Int), ∃ (m : List Int), [D.arr .i64 16 (nB 65536 16 (vB 65536 a * vB 65536 a' % FP)), D.arr .i64 16 (nB 65536 16 (vB 65536 b * vB 65536 b' % FP))] = [D.arr .i64 16 l, D.arr .i64 16 m] ∧ isF l ∧ isF m) ∧ (∃ (l : List Int), ∃ (m : List Int), [D.arr .i64 16 (nB 65536 16 (vB 65536 (nB 65536 16 (vB 65536 c * vB 65536 c' % FP)) * vB 65536 (nB 65536 16 ((vB 65536 (nB 65536 16 (vB 65536 (nB 65536 16 (vB 65536 c * vB 65536 c' % FP)) * vB 65536 (nB 65536 16 (vB 65536 c * vB 65536 c' % FP)) % FP)) + vB 65536 (nB 65536 16 (vB 65536 (nB 65536 16 (vB 65536 dFe * vB 65536 (nB 65536 16 (vB 65536 a * vB 65536 a' % FP)) % FP)) * vB 65536 (nB 65536 16 (vB 65536 b * vB 65536 b' % FP)) % FP))) % FP)) % FP)), D.arr .i64 16 (nB 65536 16 ((vB 65536 (nB 65536 16 (vB 65536 a * vB 65536 a' % FP)) + vB 65536 (nB 65536 16 (vB 65536 b * vB 65536 b' % FP))) % FP))] = [D.arr .i64 16 l, D.arr .i64 16 m] ∧ isF l ∧ isF m) ∧ (16 ≠ 0 ∧ 16 = 16 ∧ true = true) ∧ (16 ≠ 0 ∧ 16 = 16 ∧ true = true) ∧ (∃ (l : List Int), ∃ (m : List Int), [D.arr .i64 16 (nB 65536 16 (fsb (vB 65536 (nB 65536 16 (vB 65536 (nB 65536 16 (vB 65536 c * vB 65536 c' % FP)) * vB 65536 (nB 65536 16 (vB 65536 c * vB 65536 c' % FP)) % FP))) (vB 65536 (nB 65536 16 (vB 65536 (nB 65536 16 (vB 65536 dFe * vB 65536 (nB 65536 16 (vB 65536 a * vB 65536 a' % FP)) % FP)) * vB 65536 (nB 65536 16 (vB 65536 b * vB 65536 b' % FP)) % FP))))), D.arr .i64 16 (nB 65536 16 ((vB 65536 (nB 65536 16 (vB 65536 (nB 65536 16 (vB 65536 c * vB 65536 c' % FP)) * vB 65536 (nB 65536 16 (vB 65536 c * vB 65536 c' % FP)) % FP)) + vB 65536 (nB 65536 16 (vB 65536 (nB 65536 16 (vB 65536 dFe * vB 65536 (nB 65536 16 (vB 65536 a * vB 65536 a' % FP)) % FP)) * vB 65536 (nB 65536 16 (vB 65536 b * vB 65536 b' % FP)) % FP))) % FP))] = [D.arr .i64 16 l, D.arr .i64 16 m] ∧ isF l ∧ isF m) ∧ (false = false ∧ (0 < 3 ∧ Sk.arr 16 = Sk.arr 16) ∧ false = false ∧ (1 < 3 ∧ Sk.arr 16 = Sk.arr 16) ∧ false = false ∧ (2 < 3 ∧ Sk.arr 16 = Sk.arr 16) ∧ True) ∧ (Sk.st [Sk.arr 16, Sk.arr 16, Sk.arr 16] = Sk.st [Sk.arr 16, Sk.arr 16, Sk.arr 16] ∧ 48 ≠ 0 ∧ 48 = 48 ∧ false = false) ∧ ((48 ≠ 0 ∧ 48 = 48 ∧ true = true) ∧ True) ∧ D.st [D.arr .i64 16 (nB 65536 16 (vB 65536 (nB 65536 16 (vB 65536 (nB 65536 16 (vB 65536 c * vB 65536 c' % FP)) * vB 65536 (nB 65536 16 (fsb (vB 65536 (nB 65536 16 (vB 65536 (nB 65536 16 (vB 65536 c * vB 65536 c' % FP)) * vB 65536 (nB 65536 16 (vB 65536 c * vB 65536 c' % FP)) % FP)))
 (vB 65536 (nB 65536 16 (vB 65536 (nB 65536 16 (vB 65536 dFe * vB 65536 (nB 65536 16 (vB 65536 a * vB 65536 a' % FP)) % FP)) * vB 65536 (nB 65536 16 (vB 65536 b * vB 65536 b' % FP)) % FP))))) % FP)) * vB 65536 (nB 65536 16 ((vB 65536 (nB 65536 16 (vB 65536 a * vB 65536 b' % FP)) + vB 65536 (nB 65536 16 (vB 65536 b * vB 65536 a' % FP))) % FP)) % FP)), D.arr .i64 16 (nB 65536 16 (vB 65536 (nB 65536 16 (vB 65536 (nB 65536 16 (vB 65536 c * vB 65536 c' % FP)) * vB 65536 (nB 65536 16 ((vB 65536 (nB 65536 16 (vB 65536 (nB 65536 16 (vB 65536 c * vB 65536 c' % FP)) * vB 65536 (nB 65536 16 (vB 65536 c * vB 65536 c' % FP)) % FP)) + vB 65536 (nB 65536 16 (vB 65536 (nB 65536 16 (vB 65536 dFe * vB 65536 (nB 65536 16 (vB 65536 a * vB 65536 a' % FP)) % FP)) * vB 65536 (nB 65536 16 (vB 65536 b * vB 65536 b' % FP)) % FP))) % FP)) % FP)) * vB 65536 (nB 65536 16 ((vB 65536 (nB 65536 16 (vB 65536 a * vB 65536 a' % FP)) + vB 65536 (nB 65536 16 (vB 65536 b * vB 65536 b' % FP))) % FP)) % FP)), D.arr .i64 16 (nB 65536 16 (vB 65536 (nB 65536 16 (fsb (vB 65536 (nB 65536 16 (vB 65536 (nB 65536 16 (vB 65536 c * vB 65536 c' % FP)) * vB 65536 (nB 65536 16 (vB 65536 c * vB 65536 c' % FP)) % FP))) (vB 65536 (nB 65536 16 (vB 65536 (nB 65536 16 (vB 65536 dFe * vB 65536 (nB 65536 16 (vB 65536 a * vB 65536 a' % FP)) % FP)) * vB 65536 (nB 65536 16 (vB 65536 b * vB 65536 b' % FP)) % FP))))) * vB 65536 (nB 65536 16 ((vB 65536 (nB 65536 16 (vB 65536 (nB 65536 16 (vB 65536 c * vB 65536 c' % FP)) * vB 65536 (nB 65536 16 (vB 65536 c * vB 65536 c' % FP)) % FP)) + vB 65536 (nB 65536 16 (vB 65536 (nB 65536 16 (vB 65536 dFe * vB 65536 (nB 65536 16 (vB 65536 a * vB 65536 a' % FP)) % FP)) * vB 65536 (nB 65536 16 (vB 65536 b * vB 65536 b' % FP)) % FP))) % FP)) % FP))] = F) := by kernel_rfl
end Go.Proofs.Ytpkcmjfmoemekaa
namespace Go.Proofs.Ytpkcmjfmoemekaa
open Go Go.Vg
theorem flt (v : Nat) : v % FP < 115792089237316195423570985008687907853269984665640564039457584007913129639936 := by have := mlt v; rw [FP_eq] at this ⊢; omega
theorem fslt (a b : Nat) : fsb a b < 115792089237316195423570985008687907853269984665640564039457584007913129639936 := flt _
theorem wnm (v : Nat) : vB 18446744073709551616 (nB 18446744073709551616 4 (v % FP)) = v % FP := wn (flt v)
theorem wns (a b : Nat) : vB 18446744073709551616 (nB 18446744073709551616 4 (fsb a b)) = fsb a b := wn (flt _)
theorem wnp (a b : Nat) : vB 18446744073709551616 (nB 18446744073709551616 4 (fpw a b)) = fpw a b := wn (fpw_nlt a b)
theorem fnm (v : Nat) : vB 65536 (nB 65536 16 (v % FP)) = v % FP := fn (flt v)
theorem fns (a b : Nat) : vB 65536 (nB 65536 16 (fsb a b)) = fsb a b := fn (flt _)
theorem fnp (a b : Nat) : vB 65536 (nB 65536 16 (fpw a b)) = fpw a b := fn (fpw_nlt a b)
theorem wdN : vB 18446744073709551616 dNum = dN := by decide
theorem fdN : vB 65536 dFe = dN := by decide
theorem w1 : vB 18446744073709551616 [1, 0, 0, 0] = 1 := rfl
theorem w0 : vB 18446744073709551616 [0, 0, 0, 0] = 0 := rfl
theorem f1 : vB 65536 oneF = 1 := rfl
theorem f1' : vB 65536 [1, 0, 0, 0, 0, 0, 0, 0, 0, 0, 0, 0, 0, 0, 0, 0] = 1 := rfl
theorem okw_dec {l : List Int} (h : l.all (fun x => decide (0 ≤ x) && decide (x < 18446744073709551616)) = true) : okw l := by
 intro x hx
 have := List.all_eq_true.1 h x hx
 rw [Bool.and_eq_true] at this
 exact ⟨of_decide_eq_true this.1, of_decide_eq_true this.2⟩
theorem okd_dec {l : List Int} (h : l.all (fun x => decide (0 ≤ x) && decide (x < 65536)) = true) : okd l := by
 intro x hx
 have := List.all_eq_true.1 h x hx
 rw [Bool.and_eq_true] at this
 exact ⟨of_decide_eq_true this.1, of_decide_eq_true this.2⟩
theorem N_d : isN dNum := ⟨okw_dec (by decide), rfl⟩
theorem N_1 : isN [1, 0, 0, 0] := ⟨okw_dec (by decide), rfl⟩
theorem N_0 : isN [0, 0, 0, 0] := ⟨okw_dec (by decide), rfl⟩
theorem F_d : isF dFe := ⟨okd_dec (by decide), rfl⟩
theorem F_1 : isF oneF := ⟨okd_dec (by decide), rfl⟩
theorem F_1' : isF [1, 0, 0, 0, 0, 0, 0, 0, 0, 0, 0, 0, 0, 0, 0, 0] := ⟨okd_dec (by decide), rfl⟩
theorem eqB_low {l : List Int} (h : isN l) : eqB l (nB 18446744073709551616 4 (vB 18446744073709551616 l % FP)) = decide (vB 18446744073709551616 l < FP) := by
 rw [eqB_eq, decide_eq_decide]
 constructor
 ·intro e
  have := congrArg (vB 18446744073709551616) e
  rw [wnm] at this
  rw [this]; exact mlt _
 ·intro e
  rw [Nat.mod_eq_of_lt e]
  exact (num_nB h).symm
theorem eqB_low' {l : List Int} (h : isN l) : eqB (nB 18446744073709551616 4 (vB 18446744073709551616 l % FP)) l = decide (vB 18446744073709551616 l < FP) := by
 rw [← eqB_low h, eqB_eq, eqB_eq, decide_eq_decide]
 exact ⟨fun h => h.symm, fun h => h.symm⟩
theorem eqB_num {a b : Nat} (ha : a < 115792089237316195423570985008687907853269984665640564039457584007913129639936) (hb : b < 115792089237316195423570985008687907853269984665640564039457584007913129639936) : eqB (nB 18446744073709551616 4 a) (nB 18446744073709551616 4 b) = decide (a = b) := by
 rw [eqB_eq, decide_eq_decide]
 constructor
 ·intro e
  have := congrArg (vB 18446744073709551616) e
  rwa [wn ha, wn hb] at this
 ·intro e; rw [e]
theorem eqB_fe {a b : Nat} (ha : a < 115792089237316195423570985008687907853269984665640564039457584007913129639936) (hb : b < 115792089237316195423570985008687907853269984665640564039457584007913129639936) : eqB (nB 65536 16 a) (nB 65536 16 b) = decide (a = b) := by
 rw [eqB_eq, decide_eq_decide]
 constructor
 ·intro e
  have := congrArg (vB 65536) e
  rwa [fn ha, fn hb] at this
 ·intro e; rw [e]
theorem onB_of {x y : Nat} (hx : x < FP) (hy : y < FP) : onB x y = decide (fsb (y * y % FP) (x * x % FP) = (1 + dN * (x * x % FP * (y * y % FP) % FP) % FP) % FP) := by
 unfold onB
 rw [decide_eq_true hx, decide_eq_true hy, Bool.true_and, Bool.true_and]
theorem onB_x {x y : Nat} (hx : ¬ x < FP) : onB x y = false := by
 unfold onB
 rw [decide_eq_false hx, Bool.false_and, Bool.false_and]
theorem onB_y {x y : Nat} (hy : ¬ y < FP) : onB x y = false := by
 unfold onB
 rw [decide_eq_false hy, Bool.and_false, Bool.false_and]
theorem onB_ref (a b : Nat) : (fsb (b % FP) (a % FP) = (1 + dN * (a % FP * (b % FP) % FP) % FP) % FP) ↔ b % FP = ((1 + a % FP) % FP + dN * (a % FP) % FP * (b % FP) % FP) % FP := by
 have h1 := mlt a
 have h2 := mlt b
 have e1 : dN * (a % FP * (b % FP) % FP) % FP = dN * (a % FP) % FP * (b % FP) % FP := by
  rw [Nat.mul_mod_mod, Nat.mod_mul_mod, Nat.mul_assoc]
 rw [e1]
 unfold fsb
 have h3 := mlt (dN * (a % FP) % FP * (b % FP))
 generalize dN * (a % FP) % FP * (b % FP) % FP = e at *
 generalize a % FP = a at *
 generalize b % FP = b at *
 rw [FP_eq] at *
 omega
set_option maxRecDepth 100000 in
theorem m10 : Meets Try.prog 10 sp10 := by
 refine meets_of_owed (C := c10) ⟨tab_ok, lkS_ok ⟨m27, m28, m29, m30, m31, trivial⟩⟩ (by kernel_rfl) (by kernel_rfl : Try.prog.funcs[10]? = some Try.f10) (by kernel_rfl) (by kernel_rfl) (by kernel_rfl) _ ?_
 rintro _ ⟨l, m, rfl, hl, hm⟩
 refine ⟨fun _ => rfl, fun _ => none, ?_⟩
 show owed c10 (fun _ => none) Try.f10 [ptD l m] (.val (.bool (onB (wv l) (wv m))))
 rw [vc10]
 have hd := N_d
 have h1 := N_1
 rw [eqB_low hl, eqB_low hm]
 simp (decide := true) only [eq_self, true_and, and_true, ne_eq, not_false_eq_true, wnm, wns, wdN, w1]
 refine ⟨⟨_, rfl, hl⟩, ?_⟩
 by_cases hx : vB 18446744073709551616 l < FP
 ·rw [decide_eq_true hx]
  refine ⟨⟨_, rfl, hm⟩, ?_⟩
  by_cases hy : vB 18446744073709551616 m < FP
  ·rw [decide_eq_true hy, eqB_num (fslt _ _) (flt _)]
   have e := onB_of hx hy
   refine ⟨⟨_, _, rfl, hl, hl⟩, ⟨_, _, rfl, hm, hm⟩, ⟨_, _, rfl, nN _, nN _⟩, ⟨_, _, rfl, nN _, nN _⟩, ⟨_, _, rfl, hd, nN _⟩, ⟨_, _, rfl, h1, nN _⟩, ?_⟩
   rw [show onB (wv l) (wv m) = _ from e]
  ·rw [decide_eq_false hy]
   have e : onB (wv l) (wv m) = false := onB_y hy
   rw [e]; rfl
 ·rw [decide_eq_false hx]
  have e : onB (wv l) (wv m) = false := onB_x hx
  rw [e]; rfl
set_option maxRecDepth 100000 in
theorem m5 : Meets Try.prog 5 sp5 := by
 refine meets_of_owed (C := c5) ⟨tab_ok, lkS_ok ⟨m17, m18, m19, m21, m20, m22, trivial⟩⟩ (by kernel_rfl) (by kernel_rfl : Try.prog.funcs[5]? = some Try.f5) (by kernel_rfl) (by kernel_rfl) (by kernel_rfl) _ ?_
 rintro _ ⟨l, m, rfl, hl, hm⟩
 refine ⟨fun _ => rfl, fun _ => none, ?_⟩
 show owed c5 (fun _ => none) Try.f5 [ptD l m] (.val (.bool (onB (wv l) (wv m))))
 rw [vc5]
 have hd := F_d
 have h1 := F_1'
 simp (decide := true) only [eq_self, true_and, and_true, ne_eq, not_false_eq_true, fnm, fdN, f1']
 rw [eqB_low' hl, eqB_low' hm]
 refine ⟨⟨_, rfl, hl⟩, ⟨_, rfl, hm⟩, ⟨_, rfl, nF _⟩, ?_⟩
 by_cases hx : vB 18446744073709551616 l < FP
 ·rw [decide_eq_true hx]
  refine ⟨⟨_, rfl, nF _⟩, ?_⟩
  by_cases hy : vB 18446744073709551616 m < FP
  ·rw [decide_eq_true hy, eqB_fe (flt _) (flt _), Nat.mod_eq_of_lt hx, Nat.mod_eq_of_lt hy]
   have e := onB_of hx hy
   have e2 := onB_ref (vB 18446744073709551616 l * vB 18446744073709551616 l) (vB 18446744073709551616 m * vB 18446744073709551616 m)
   rw [show onB (wv l) (wv m) = _ from e, decide_eq_decide.2 e2]
   refine ⟨⟨_, _, rfl, nF _, nF _⟩, ⟨_, _, rfl, nF _, nF _⟩, ⟨1, rfl, by decide⟩, ⟨_, _, rfl, h1, nF _⟩, ⟨_, _, rfl, hd, nF _⟩, ⟨_, _, rfl, nF _, nF _⟩, ⟨_, _, rfl, nF _, nF _⟩, rfl⟩
  ·rw [decide_eq_false hy]
   have e : onB (wv l) (wv m) = false := onB_y hy
   rw [e]; rfl
 ·rw [decide_eq_false hx]
  have e : onB (wv l) (wv m) = false := onB_x hx
  rw [e]; rfl
set_option maxRecDepth 100000 in
theorem m12 : Meets Try.prog 12 sp12 := by
 refine meets_of_owed (C := c39) ⟨tab_ok, fun f s h => by cases h⟩ (by kernel_rfl) (by kernel_rfl : Try.prog.funcs[12]? = some Try.f12) (by kernel_rfl) (by kernel_rfl) (by kernel_rfl) _ ?_
 intro ds hds
 obtain rfl : ds = [] := List.eq_nil_of_length_eq_zero hds
 refine ⟨fun _ => rfl, fun _ => none, ?_⟩
 show owed c39 (fun _ => none) Try.f12 [] (ptD [0, 0, 0, 0] [1, 0, 0, 0])
 rw [vc12]
 simp (decide := true) only [eq_self, true_and, and_true, ne_eq, not_false_eq_true]
set_option maxRecDepth 100000 in
theorem m11 : Meets Try.prog 11 sp11 := by
 refine meets_of_owed (C := c10) ⟨tab_ok, lkS_ok ⟨m27, m28, m29, m30, m31, trivial⟩⟩ (by kernel_rfl) (by kernel_rfl : Try.prog.funcs[11]? = some Try.f11) (by kernel_rfl) (by kernel_rfl) (by kernel_rfl) _ ?_
 rintro _ ⟨l, m, rfl, hl, hm⟩
 refine ⟨fun _ => rfl, fun _ => none, ?_⟩
 show owed c10 (fun _ => none) Try.f11 [ptD l m] (quD l m [1, 0, 0, 0] (nB 18446744073709551616 4 (wv l * wv m % FP)))
 rw [vc11]
 simp (decide := true) only [eq_self, true_and, and_true, ne_eq, not_false_eq_true]
 and_intros <;> first | exact True.intro | exact ⟨_, _, rfl, hl, hm⟩ | rfl | decide
set_option maxRecDepth 100000 in
theorem m14 : Meets Try.prog 14 sp14 := by
 refine meets_of_owed (C := c10) ⟨tab_ok, lkS_ok ⟨m27, m28, m29, m30, m31, trivial⟩⟩ (by kernel_rfl) (by kernel_rfl : Try.prog.funcs[14]? = some Try.f14) (by kernel_rfl) (by kernel_rfl) (by kernel_rfl) _ ?_
 rintro _ ⟨a, b, c, d, a', b', c', d', rfl, ⟨ha, hb, hc, hd⟩, ha', hb', hc', hd'⟩
 refine ⟨fun _ => rfl, fun _ => none, ?_⟩
 show owed c10 (fun _ => none) Try.f14 [quD a b c d, quD a' b' c' d'] (.st [n4 (qE (wv a) (wv b) (wv a') (wv b') * qF (wv c) (wv d) (wv c') (wv d') % FP), n4 (qG (wv c) (wv d) (wv c') (wv d') * qH (wv a) (wv b) (wv a') (wv b') % FP), n4 (qF (wv c) (wv d) (wv c') (wv d') * qG (wv c) (wv d) (wv c') (wv d') % FP), n4 (qE (wv a) (wv b) (wv a') (wv b') * qH (wv a) (wv b) (wv a') (wv b') % FP)])
 rw [vc14]
 have hdN := N_d
 unfold qE qF qG qH qA qB qC qZ
 simp (decide := true) only [eq_self, true_and, and_true, ne_eq, not_false_eq_true, wnm, wns, wdN]
 and_intros <;> first | exact True.intro | (refine ⟨_, _, rfl, ?_, ?_⟩ <;> first | exact nN _ | assumption) | rfl
set_option maxRecDepth 100000 in
theorem m16 : Meets Try.prog 16 sp16 := by
 refine meets_of_owed (C := c16) ⟨tab_ok, lkS_ok ⟨m33, m28, trivial⟩⟩ (by kernel_rfl) (by kernel_rfl : Try.prog.funcs[16]? = some Try.f16) (by kernel_rfl) (by kernel_rfl) (by kernel_rfl) _ ?_
 rintro _ ⟨a, b, c, d, rfl, ha, hb, hc, hd⟩
 refine ⟨fun _ => rfl, fun _ => none, ?_⟩
 show owed c16 (fun _ => none) Try.f16 [quD a b c d] (.st [n4 (aff (wv a) (wv c)), n4 (aff (wv b) (wv c))])
 rw [vc16]
 unfold aff
 simp (decide := true) only [eq_self, true_and, and_true, ne_eq, not_false_eq_true, wnm, wns, wnp]
 and_intros <;> first | exact True.intro | exact ⟨_, rfl, hc⟩ | (refine ⟨_, _, rfl, ?_, ?_⟩ <;> first | exact nN _ | assumption) | rfl
set_option maxRecDepth 100000 in
theorem m9 : Meets Try.prog 9 sp9 := by
 refine meets_of_owed (C := c9) ⟨tab_ok, lkS_ok ⟨m26, m19, m18, trivial⟩⟩ (by kernel_rfl) (by kernel_rfl : Try.prog.funcs[9]? = some Try.f9) (by kernel_rfl) (by kernel_rfl) (by kernel_rfl) _ ?_
 rintro _ ⟨a, b, c, rfl, ha, hb, hc⟩
 refine ⟨fun _ => rfl, fun _ => none, ?_⟩
 show owed c9 (fun _ => none) Try.f9 [pjD a b c] (.st [n4 (aff (vB 65536 a) (vB 65536 c)), n4 (aff (vB 65536 b) (vB 65536 c))])
 rw [vc9]
 unfold aff
 simp (decide := true) only [eq_self, true_and, and_true, ne_eq, not_false_eq_true, fnm, fns, fnp]
 and_intros <;> first | exact True.intro | exact ⟨_, rfl, hc⟩ | exact ⟨_, rfl, nF _⟩ | (refine ⟨_, _, rfl, ?_, ?_⟩ <;> first | exact nF _ | assumption) | rfl
set_option maxRecDepth 100000 in
theorem m6 : Meets Try.prog 6 sp6 := by
 refine meets_of_owed (C := c6) ⟨tab_ok, lkS_ok ⟨m17, m20, trivial⟩⟩ (by kernel_rfl) (by kernel_rfl : Try.prog.funcs[6]? = some Try.f6) (by kernel_rfl) (by kernel_rfl) (by kernel_rfl) _ ?_
 rintro _ ⟨l, m, rfl, hl, hm⟩
 refine ⟨fun _ => rfl, fun _ => none, ?_⟩
 show owed c6 (fun _ => none) Try.f6 [ptD l m] (pjD (nB 65536 16 (wv l % FP)) (nB 65536 16 (wv m % FP)) oneF)
 rw [vc6]
 simp (decide := true) only [eq_self, true_and, and_true, ne_eq, not_false_eq_true]
 and_intros <;> first | exact True.intro | exact ⟨_, rfl, hl⟩ | exact ⟨_, rfl, hm⟩ | exact ⟨1, rfl, by decide⟩ | rfl
set_option maxRecDepth 100000 in
theorem m24 : Meets Try.prog 24 sp24 := by
 refine meets_of_owed (C := c24) ⟨tab_ok, lkS_ok ⟨m19, m21, m40, m22, trivial⟩⟩ (by kernel_rfl) (by kernel_rfl : Try.prog.funcs[24]? = some Try.f24) (by kernel_rfl) (by kernel_rfl) (by kernel_rfl) _ ?_
 rintro _ ⟨a, b, c, a', b', c', rfl, ⟨ha, hb, hc⟩, ha', hb', hc'⟩
 refine ⟨fun _ => rfl, fun _ => none, ?_⟩
 show owed c24 (fun _ => none) Try.f24 [pjD a b c, pjD a' b' c'] (.st [fe (rX (vB 65536 a) (vB 65536 b) (vB 65536 c) (vB 65536 a') (vB 65536 b') (vB 65536 c')), fe (rY (vB 65536 a) (vB 65536 b) (vB 65536 c) (vB 65536 a') (vB 65536 b') (vB 65536 c')), fe (rZ (vB 65536 a) (vB 65536 b) (vB 65536 c) (vB 65536 a') (vB 65536 b') (vB 65536 c'))])
 rw [vc24]
 have hdN := F_d
 unfold rX rY rZ rE rB rS
 simp (decide := true) only [eq_self, true_and, and_true, ne_eq, not_false_eq_true, fnm, fns, fdN]
 and_intros <;> first | exact True.intro | (refine ⟨_, _, rfl, ?_, ?_⟩ <;> first | exact nF _ | assumption) | rfl
end Go.Proofs.Ytpkcmjfmoemekaa
namespace Go.Vg
theorem pP_2 : Prm 2 := small_of (by kernel_rfl)
theorem pP_3 : Prm 3 := small_of (by kernel_rfl)
theorem pP_17 : Prm 17 := small_of (by kernel_rfl)
theorem pP_239 : Prm 239 := small_of (by kernel_rfl)
theorem pP_479 : Prm 479 := (lucas_of (g := 13) (fs := [2, 239]) (by kernel_rfl) ⟨pP_2, pP_239, trivial⟩).1
theorem pP_32573 : Prm 32573 := (lucas_of (g := 2) (fs := [2, 2, 17, 479]) (by kernel_rfl) ⟨pP_2, pP_2, pP_17, pP_479, trivial⟩).1
theorem pP_65147 : Prm 65147 := (lucas_of (g := 2) (fs := [2, 32573]) (by kernel_rfl) ⟨pP_2, pP_32573, trivial⟩).1
theorem pP_11 : Prm 11 := small_of (by kernel_rfl)
theorem pP_353 : Prm 353 := (lucas_of (g := 3) (fs := [2, 2, 2, 2, 2, 11]) (by kernel_rfl) ⟨pP_2, pP_2, pP_2, pP_2, pP_2, pP_11, trivial⟩).1
theorem pP_59 : Prm 59 := small_of (by kernel_rfl)
theorem pP_487 : Prm 487 := (lucas_of (g := 3) (fs := [2, 3, 3, 3, 3, 3]) (by kernel_rfl) ⟨pP_2, pP_3, pP_3, pP_3, pP_3, pP_3, trivial⟩).1
theorem pP_57467 : Prm 57467 := (lucas_of (g := 2) (fs := [2, 59, 487]) (by kernel_rfl) ⟨pP_2, pP_59, pP_487, trivial⟩).1
theorem pP_7 : Prm 7 := small_of (by kernel_rfl)
theorem pP_131 : Prm 131 := small_of (by kernel_rfl)
theorem pP_132049 : Prm 132049 := (lucas_of (g := 26) (fs := [2, 2, 2, 2, 3, 3, 7, 131]) (by kernel_rfl) ⟨pP_2, pP_2, pP_2, pP_2, pP_3, pP_3, pP_7, pP_131, trivial⟩).1
theorem pP_43 : Prm 43 := small_of (by kernel_rfl)
theorem pP_23 : Prm 23 := small_of (by kernel_rfl)
theorem pP_3727 : Prm 3727 := (lucas_of (g := 3) (fs := [2, 3, 3, 3, 3, 23]) (by kernel_rfl) ⟨pP_2, pP_3, pP_3, pP_3, pP_3, pP_23, trivial⟩).1
theorem pP_1923133 : Prm 1923133 := (lucas_of (g := 2) (fs := [2, 2, 3, 43, 3727]) (by kernel_rfl) ⟨pP_2, pP_2, pP_3, pP_43, pP_3727, trivial⟩).1
theorem pP_31 : Prm 31 := small_of (by kernel_rfl)
theorem pP_107 : Prm 107 := small_of (by kernel_rfl)
theorem pP_223 : Prm 223 := small_of (by kernel_rfl)
theorem pP_173 : Prm 173 := small_of (by kernel_rfl)
theorem pP_4153 : Prm 4153 := (lucas_of (g := 5) (fs := [2, 2, 2, 3, 173]) (by kernel_rfl) ⟨pP_2, pP_2, pP_2, pP_3, pP_173, trivial⟩).1
theorem pP_5 : Prm 5 := small_of (by kernel_rfl)
theorem pP_41 : Prm 41 := small_of (by kernel_rfl)
theorem pP_1723 : Prm 1723 := (lucas_of (g := 3) (fs := [2, 3, 7, 41]) (by kernel_rfl) ⟨pP_2, pP_3, pP_7, pP_41, trivial⟩).1
theorem pP_430751 : Prm 430751 := (lucas_of (g := 17) (fs := [2, 5, 5, 5, 1723]) (by kernel_rfl) ⟨pP_2, pP_5, pP_5, pP_5, pP_1723, trivial⟩).1
theorem pP_31757755568855353 : Prm 31757755568855353 := (lucas_of (g := 10) (fs := [2, 2, 2, 3, 31, 107, 223, 4153, 430751]) (by kernel_rfl) ⟨pP_2, pP_2, pP_2, pP_3, pP_31, pP_107, pP_223, pP_4153, pP_430751, trivial⟩).1
theorem pP_19 : Prm 19 := small_of (by kernel_rfl)
theorem pP_83 : Prm 83 := small_of (by kernel_rfl)
theorem pP_9463 : Prm 9463 := (lucas_of (g := 3) (fs := [2, 3, 19, 83]) (by kernel_rfl) ⟨pP_2, pP_3, pP_19, pP_83, trivial⟩).1
theorem pP_37853 : Prm 37853 := (lucas_of (g := 2) (fs := [2, 2, 9463]) (by kernel_rfl) ⟨pP_2, pP_2, pP_9463, trivial⟩).1
theorem pP_75707 : Prm 75707 := (lucas_of (g := 2) (fs := [2, 37853]) (by kernel_rfl) ⟨pP_2, pP_37853, trivial⟩).1
theorem pP_13 : Prm 13 := small_of (by kernel_rfl)
theorem pP_29 : Prm 29 := small_of (by kernel_rfl)
theorem pP_2437 : Prm 2437 := (lucas_of (g := 2) (fs := [2, 2, 3, 7, 29]) (by kernel_rfl) ⟨pP_2, pP_2, pP_3, pP_7, pP_29, trivial⟩).1
theorem pP_97 : Prm 97 := small_of (by kernel_rfl)
theorem pP_419 : Prm 419 := (lucas_of (g := 2) (fs := [2, 11, 19]) (by kernel_rfl) ⟨pP_2, pP_11, pP_19, trivial⟩).1
theorem pP_569003 : Prm 569003 := (lucas_of (g := 2) (fs := [2, 7, 97, 419]) (by kernel_rfl) ⟨pP_2, pP_7, pP_97, pP_419, trivial⟩).1
theorem pP_2773320623 : Prm 2773320623 := (lucas_of (g := 5) (fs := [2, 2437, 569003]) (by kernel_rfl) ⟨pP_2, pP_2437, pP_569003, trivial⟩).1
theorem pP_72106336199 : Prm 72106336199 := (lucas_of (g := 7) (fs := [2, 13, 2773320623]) (by kernel_rfl) ⟨pP_2, pP_13, pP_2773320623, trivial⟩).1
theorem pP_47 : Prm 47 := small_of (by kernel_rfl)
theorem pP_127 : Prm 127 := small_of (by kernel_rfl)
theorem pP_103 : Prm 103 := small_of (by kernel_rfl)
theorem pP_991 : Prm 991 := (lucas_of (g := 6) (fs := [2, 3, 3, 5, 11]) (by kernel_rfl) ⟨pP_2, pP_3, pP_3, pP_5, pP_11, trivial⟩).1
theorem pP_8574133 : Prm 8574133 := (lucas_of (g := 2) (fs := [2, 2, 3, 7, 103, 991]) (by kernel_rfl) ⟨pP_2, pP_2, pP_3, pP_7, pP_103, pP_991, trivial⟩).1
theorem pP_1919519569386763 : Prm 1919519569386763 := (lucas_of (g := 2) (fs := [2, 3, 7, 19, 47, 47, 127, 8574133]) (by kernel_rfl) ⟨pP_2, pP_3, pP_7, pP_19, pP_47, pP_47, pP_127, pP_8574133, trivial⟩).1
theorem pP_75445702479781427272750846543864801 : Prm 75445702479781427272750846543864801 := (lucas_of (g := 7) (fs := [2, 2, 2, 2, 2, 3, 3, 5, 5, 75707, 72106336199, 1919519569386763]) (by kernel_rfl) ⟨pP_2, pP_2, pP_2, pP_2, pP_2, pP_3, pP_3, pP_5, pP_5, pP_75707, pP_72106336199, pP_1919519569386763, trivial⟩).1
theorem pP_74058212732561358302231226437062788676166966415465897661863160754340907 : Prm 74058212732561358302231226437062788676166966415465897661863160754340907 := (lucas_of (g := 2) (fs := [2, 3, 353, 57467, 132049, 1923133, 31757755568855353, 75445702479781427272750846543864801]) (by kernel_rfl) ⟨pP_2, pP_3, pP_353, pP_57467, pP_132049, pP_1923133, pP_31757755568855353, pP_75445702479781427272750846543864801, trivial⟩).1
theorem pP_f : Prm 57896044618658097711785492504343953926634992332820282019728792003956564819949 ∧ ∀ a, a % 57896044618658097711785492504343953926634992332820282019728792003956564819949 ≠ 0 → a ^ (57896044618658097711785492504343953926634992332820282019728792003956564819949 - 1) % 57896044618658097711785492504343953926634992332820282019728792003956564819949 = 1 := lucas_of (g := 2) (fs := [2, 2, 3, 65147, 74058212732561358302231226437062788676166966415465897661863160754340907]) (by kernel_rfl) ⟨pP_2, pP_2, pP_3, pP_65147, pP_74058212732561358302231226437062788676166966415465897661863160754340907, trivial⟩
end Go.Vg
namespace Go.Vg
theorem hd_of {p d h : Nat} (hb : (Nat.beq (pm p 256 d h) (p - 1) && Nat.ble (h + 1) (2 ^ 256)) = true) : d ^ h % p = p - 1 := by
 rw [Bool.and_eq_true] at hb
 rw [← pm_eq p 256 d h (Nat.le_of_ble_eq_true hb.2)]
 exact Nat.eq_of_beq_eq_true hb.1
end Go.Vg
namespace Go.Proofs.Ytpkcmjfmoemekaa
open Go Go.Vg
instance : NeZero FP := ⟨by decide⟩
abbrev FF : Type := Fin FP
def fz (n : Nat) : FF := Fin.ofNat FP n
def iC : Nat := 19681161376707505956807079304988542015446066515923890162744021073123829784752
def hC : Nat := 28948022309329048855892746252171976963317496166410141009864396001978282409974
theorem hC2 : hC + hC = FP - 1 := by decide
theorem FP_fer : Fer FP := by
 have h := pP_f.2
 rw [← FP_eq] at h
 exact h
theorem dN_h : dN ^ hC % FP = FP - 1 := hd_of (by kernel_rfl)
noncomputable def EC : EdF FF := edOf FP dN iC hC (fun a => fpw a (FP - 2)) (by decide) FP_fer hC2 dN_h (by decide) (fun a => fpw_eq a _)
theorem fz_m (a b : Nat) : fz (a * b % FP) = fz a * fz b := (fz_mod FP _).trans (fz_mul FP a b)
theorem fz_a (a b : Nat) : fz ((a + b) % FP) = fz a + fz b := (fz_mod FP _).trans (fz_add FP a b)
theorem fz_s (a b : Nat) : fz (fsb a b) = fz a - fz b := fz_sub FP a b
theorem EC_d : EC.d = fz dN := rfl
theorem EC_iv (u : FF) : EC.iv u = fz (fpw u.val (FP - 2)) := rfl
theorem fz_1 : fz 1 = 1 := rfl
theorem val_fz {a : Nat} (h : a < FP) : (fz a).val = a := Nat.mod_eq_of_lt h
structure QN where
 x : Nat
 y : Nat
 z : Nat
 t : Nat
structure PN where
 x : Nat
 y : Nat
 z : Nat
def QN.pl (a b : QN) : QN := ⟨qE a.x a.y b.x b.y * qF a.z a.t b.z b.t % FP, qG a.z a.t b.z b.t * qH a.x a.y b.x b.y % FP, qF a.z a.t b.z b.t * qG a.z a.t b.z b.t % FP, qE a.x a.y b.x b.y * qH a.x a.y b.x b.y % FP⟩
def PN.pl (a b : PN) : PN := ⟨rX a.x a.y a.z b.x b.y b.z, rY a.x a.y a.z b.x b.y b.z, rZ a.x a.y a.z b.x b.y b.z⟩
noncomputable def mlN (x y n : Nat) : FF × FF := EC.ml (fz x) (fz y) n
def QN.is (q : QN) (x y n : Nat) : Prop := EdF.rq (fz q.x) (fz q.y) (fz q.z) (fz q.t) (mlN x y n)
def PN.is (q : PN) (x y n : Nat) : Prop := EdF.rp (fz q.x) (fz q.y) (fz q.z) (mlN x y n)
theorem cv_of {x y : Nat} (h : onB x y = true) : EC.cv (fz x) (fz y) := by
 unfold onB at h
 rw [Bool.and_eq_true, Bool.and_eq_true] at h
 have h := of_decide_eq_true h.2
 have h := congrArg fz h
 rw [fz_s, fz_a, fz_m, fz_m, fz_m, fz_m, fz_m, fz_m, fz_1] at h
 unfold EdF.cv
 rw [EC_d]
 generalize fz x = a at *
 generalize fz y = b at *
 generalize fz dN = d at *
 grind
theorem QN.pl_is {x y : Nat} (h : onB x y = true) {a b : QN} {m n : Nat} (ha : a.is x y m) (hb : b.is x y n) : (a.pl b).is x y (m + n) := by
 have hc := cv_of h
 have := EC.rq_ad (EC.cv_ml hc m) (EC.cv_ml hc n) ha hb rfl rfl rfl rfl
 unfold QN.is QN.pl qE qF qG qH qA qB qC qZ
 unfold mlN
 rw [← EC.ad_ml hc m n]
 simp only [fz_m, fz_a, fz_s]
 exact this
theorem PN.pl_is {x y : Nat} (h : onB x y = true) {a b : PN} {m n : Nat} (ha : a.is x y m) (hb : b.is x y n) : (a.pl b).is x y (m + n) := by
 have hc := cv_of h
 have := EC.rp_ad (EC.cv_ml hc m) (EC.cv_ml hc n) ha hb
 unfold PN.is PN.pl rX rY rZ rB rE rS
 unfold mlN
 rw [← EC.ad_ml hc m n]
 simp only [fz_m, fz_a, fz_s]
 exact this
theorem aff_fz (x z : Nat) (hz : z < FP) : fz (aff x z) = fz x * EC.iv (fz z) := by
 unfold aff
 rw [fz_m, EC_iv, val_fz hz]
theorem aff_lt (x z : Nat) : aff x z < FP := mlt _
theorem PN.out {q : PN} {x y n : Nat} (h : q.is x y n) (hz : q.z < FP) : aff q.x q.z = (mlN x y n).1.val ∧ aff q.y q.z = (mlN x y n).2.val := by
 have := EC.rp_out h
 rw [← aff_fz _ _ hz, ← aff_fz _ _ hz] at this
 exact ⟨by rw [← this.1, val_fz (aff_lt _ _)], by rw [← this.2, val_fz (aff_lt _ _)]⟩
theorem QN.out {q : QN} {x y n : Nat} (h : q.is x y n) (hz : q.z < FP) : aff q.x q.z = (mlN x y n).1.val ∧ aff q.y q.z = (mlN x y n).2.val :=
 PN.out (q := ⟨q.x, q.y, q.z⟩) (EdF.rq_rp h) hz
theorem QN.zero (x y : Nat) : (⟨0, 1, 1, 0 * 1 % FP⟩ : QN).is x y 0 := by
 have := EC.rq_in 0 1
 unfold QN.is
 rw [fz_m]
 exact this
theorem QN.one (x y : Nat) : (⟨x, y, 1, x * y % FP⟩ : QN).is x y 1 := by
 have := EC.rq_in (fz x) (fz y)
 unfold QN.is mlN
 rw [fz_m, EC.ml_one]
 exact this
theorem PN.zero (x y : Nat) : (⟨0, 1, 1⟩ : PN).is x y 0 := EC.rp_in 0 1
theorem PN.one (x y : Nat) : (⟨x % FP, y % FP, 1⟩ : PN).is x y 1 := by
 have := EC.rp_in (fz x) (fz y)
 unfold PN.is mlN
 have e : ∀ a, fz (a % FP) = fz a := fz_mod FP
 rw [EC.ml_one, e, e]
 exact this
end Go.Proofs.Ytpkcmjfmoemekaa
