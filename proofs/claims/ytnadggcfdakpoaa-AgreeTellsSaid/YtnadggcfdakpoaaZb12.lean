/- The numbers modulo 2^255 - 19 of the reference: specs. -/
import Derived.Test.YtnadggcfdakpoaaZb11
import Derived.Test.YtnadggcfdakpoaaZb9
namespace Go.Proofs.Ytnadggcfdakpoaa
open Go Go.Vg
abbrev fel (l : List Int) : D := .arr .i64 16 l
abbrev fe (v : Nat) : D := fel (nB 65536 16 v)
abbrev fA (ds : List D) : Nat := vB 65536 (arrOf (ds.headD default))
abbrev fB (ds : List D) : Nat := vB 65536 (arrOf (ds.getD 1 default))
def isF (l : List Int) : Prop := okd l ∧ l.length = 16
def okL (l : List Int) : Prop := (∀ x ∈ l, 0 ≤ x ∧ x < 1099511627776) ∧ l.length = 17
noncomputable def dgF : List Int := opq (dg FP)
def dFe : List Int := [30883, 4953, 19914, 30187, 55467, 16705, 2637, 112, 59544, 30585, 16505, 36039, 65139, 11119, 27886, 20995]
def lsN (t : List Int) : Nat := vB 65536 (t.take 16) + 38 * (t.getD 16 0).toNat
def lsR (t : List Int) : Nat → List Int
  | 0 => t
  | r + 1 => nB 65536 16 (lsN (lsR t r)) ++ [((lsN (lsR t r) / 115792089237316195423570985008687907853269984665640564039457584007913129639936 : Nat) : Int)]
def lsI (l : List Int) (c i : Nat) : List Int := nB 65536 i (c + vB 65536 (l.take i)) ++ l.drop i
def lsC (l : List Int) (c i : Nat) : Nat := (c + vB 65536 (l.take i)) / 65536 ^ i
def mdF (i : Nat) : Int := if i = 0 then 65517 else if i = 15 then 32767 else 65535
def lsB (l : List Int) (i : Nat) : Nat := bor (vB 65536 (l.take i)) (FP % 65536 ^ i)
def lsD (l : List Int) (i : Nat) : List Int := nB 65536 i (vB 65536 (l.take i) + 65536 ^ i - FP % 65536 ^ i) ++ List.replicate (16 - i) 0
noncomputable def sp112 : Go.Vg.Spec := ⟨fun ds => ds.length = 0, fun _ => dgs dgF, false, []⟩
def sp101 : Go.Vg.Spec := ⟨fun ds => ds.length = 0, fun _ => fel dFe, true, []⟩
def sp100 : Go.Vg.Spec := ⟨fun ds => ∃ n, ds = [i64n n] ∧ n < 65536, fun ds => fel [numOf (ds.headD default), 0, 0, 0, 0, 0, 0, 0, 0, 0, 0, 0, 0, 0, 0, 0], true, [3]⟩
def sp110 : Go.Vg.Spec := ⟨fun ds => ∃ t, ds = [.arr .i64 17 t] ∧ okL t, fun ds => fe (fA ds % FP), true, [143]⟩
def sp111 : Go.Vg.Spec := ⟨fun ds => ∃ l, ds = [dgs l] ∧ okd l ∧ lenOk l, fun ds => fe (vB 65536 (intsOf (ds.headD default))), true, [94]⟩
def sp46 : Go.Vg.Spec := ⟨fun ds => ∃ l, ds = [num4 l] ∧ isN l, fun ds => fe (wA ds % FP), true, [24]⟩
def sp47 : Go.Vg.Spec := ⟨fun ds => ∃ l, ds = [fel l] ∧ isF l, fun ds => n4 (fA ds), true, [74]⟩
def sp53 : Go.Vg.Spec := ⟨fun ds => ∃ l m, ds = [fel l, fel m] ∧ isF l ∧ isF m, fun ds => fe ((fA ds + fB ds) % FP), true, [74, 74]⟩
def sp45 : Go.Vg.Spec := ⟨fun ds => ∃ l m, ds = [fel l, fel m] ∧ isF l ∧ isF m, fun ds => fe (fsb (fA ds) (fB ds)), true, [74, 74]⟩
def sp54 : Go.Vg.Spec := ⟨fun ds => ∃ l m, ds = [fel l, fel m] ∧ isF l ∧ isF m, fun ds => fe (fA ds * fB ds % FP), true, [74, 74]⟩
noncomputable def sp119 : Go.Vg.Spec := ⟨fun ds => ∃ l m, ds = [fel l, dgs m] ∧ isF l ∧ okd m ∧ lenOk m ∧ vB 65536 m < 2 ^ 256, fun ds => fe (fpw (fA ds) (vB 65536 (intsOf (ds.getD 1 default)))), true, [74, 94]⟩
noncomputable def sp55 : Go.Vg.Spec := ⟨fun ds => ∃ l, ds = [fel l] ∧ isF l, fun ds => fe (fpw (fA ds) (FP - 2)), true, [74]⟩
noncomputable def c112 : Ctx := ⟨tab, lkS [(66, sp66), (120, sp120)], [], []⟩
def c111 : Ctx := ⟨tab, lkS [(74, sp74)], [], []⟩
noncomputable def c46 : Ctx := ⟨tab, lkS [(72, sp72), (112, sp112), (84, sp84), (111, sp111)], [], []⟩
def c47 : Ctx := ⟨tab, lkS [(67, sp67)], [], []⟩
def c53 : Ctx := ⟨tab, lkS [(110, sp110)], [], []⟩
noncomputable def c119 : Ctx := ⟨tab, lkS [(100, sp100), (123, sp123), (54, sp54)], [], []⟩
noncomputable def c55 : Ctx := ⟨tab, lkS [(112, sp112), (120, sp120), (119, sp119)], [], []⟩
def inv110 (t : List Int) : Nat → Option Inv
  | 2 => some ⟨Nat, fun r => [(11, .d (i64n r))], fun r => [(1, .fix (.arr .i64 17 (lsR t r)))], fun s => (slotN s 11).toNat, fun _ r => r ≤ 3, fun r => 3 - r⟩
  | 6 => some ⟨Nat × Nat × List Int, fun x => [(17, .d (i64n x.1)), (3, .d (i64n x.2.1))], fun x => [(1, .fix (.arr .i64 17 x.2.2))], fun s => ((slotN s 17).toNat, (slotN s 3).toNat, rowD s 1),
      fun s x => x.1 ≤ 16 ∧ x.2.1 = lsC (rowD s 1) (slotN s 3).toNat x.1 ∧ x.2.2 = lsI (rowD s 1) (slotN s 3).toNat x.1, fun x => 16 - x.1⟩
  | 16 => some ⟨Nat, fun _ => [], fun v => [(5, .fix (fe v))], fun s => vB 65536 (rowD s 5), fun s v => v < 2 ^ 256 ∧ v % FP = vB 65536 (rowD s 5) % FP, fun v => v⟩
  | 100023 => some ⟨Nat, fun i => [(9, .d (i64 (mdF i)))], fun _ => [], fun s => (slotN s 8).toNat, fun s i => (i : Int) = slotN s 8, fun _ => 0⟩
  | 19 => some ⟨Nat × Nat × List Int, fun x => [(38, .d (i64n x.1)), (6, .d (i64n x.2.1))], fun x => [(7, .fix (fel x.2.2))], fun s => ((slotN s 38).toNat, (slotN s 6).toNat, rowD s 7),
      fun s x => x.1 ≤ 16 ∧ x.2.1 = lsB (rowD s 5) x.1 ∧ x.2.2 = lsD (rowD s 5) x.1, fun x => 16 - x.1⟩
  | _ => none
def inv111 (l : List Int) : Nat → Option Inv
  | 3 => some ⟨Nat, fun i => [(5, .d (i64n i))], fun i => [(3, .fix (fel (nB 65536 i (vB 65536 l) ++ List.replicate (16 - i) 0)))], fun s => (slotN s 5).toNat, fun _ i => i ≤ 16, fun i => 16 - i⟩
  | _ => none
def plF (l m : List Int) (i : Nat) : List Int := (List.range i).map fun j => l.getD j 0 + m.getD j 0
def miF (i : Nat) : Int := if i = 0 then 262068 else if i = 15 then 131068 else 262140
def lsF (l m : List Int) (i : Nat) : List Int := (List.range i).map fun j => l.getD j 0 + miF j - m.getD j 0
def inv53 (l m : List Int) : Nat → Option Inv
  | 3 => some ⟨Nat, fun i => [(7, .d (i64n i))], fun i => [(5, .fix (.arr .i64 17 (plF l m i ++ List.replicate (17 - i) 0)))], fun s => (slotN s 7).toNat, fun _ i => i ≤ 16, fun i => 16 - i⟩
  | _ => none
def inv45 (l m : List Int) : Nat → Option Inv
  | 3 => some ⟨Nat, fun i => [(8, .d (i64n i))], fun i => [(5, .fix (.arr .i64 17 (lsF l m i ++ List.replicate (17 - i) 0)))], fun s => (slotN s 8).toNat, fun _ i => i ≤ 16, fun i => 16 - i⟩
  | 100007 => some ⟨Nat, fun i => [(7, .d (i64 (miF i)))], fun _ => [], fun s => (slotN s 6).toNat, fun s i => (i : Int) = slotN s 6, fun _ => 0⟩
  | _ => none
structure ByI (l m : List Int) (i : Nat) (out : List Int) : Prop where
  len : out.length = 32
  ok : ∀ j, 0 ≤ out.getD j 0 ∧ out.getD j 0 ≤ i * 4294836225
  val : vB 65536 out = vB 65536 (l.take i) * vB 65536 m
structure ByJ (l m : List Int) (i k : Nat) (out : List Int) : Prop where
  len : out.length = 32
  ok : ∀ j, 0 ≤ out.getD j 0 ∧ out.getD j 0 ≤ i * 4294836225 + (if j < i + k then 4294836225 else 0)
  val : vB 65536 out = vB 65536 (l.take i) * vB 65536 m + 65536 ^ i * ((l.getD i 0).toNat * vB 65536 (m.take k))
def byS (p : List Int) (i : Nat) : Nat := vB 65536 (p.take i) + 38 * vB 65536 ((p.drop 16).take i)
def inv54 (l m : List Int) : Nat → Option Inv
  | 3 => some ⟨Nat × List Int, fun x => [(11, .d (i64n x.1))], fun x => [(5, .fix (.arr .i64 32 x.2))], fun s => ((slotN s 11).toNat, rowD s 5), fun _ x => x.1 ≤ 16 ∧ ByI l m x.1 x.2, fun x => 16 - x.1⟩
  | 6 => some ⟨Nat × List Int, fun x => [(14, .d (i64n x.1))], fun x => [(5, .fix (.arr .i64 32 x.2))], fun s => ((slotN s 14).toNat, rowD s 5), fun s x => x.1 ≤ 16 ∧ ByJ l m (slotN s 11).toNat x.1 x.2, fun x => 16 - x.1⟩
  | 14 => some ⟨Nat × Nat × List Int, fun x => [(33, .d (i64n x.1)), (9, .d (i64n x.2.1))], fun x => [(8, .fix (.arr .i64 17 x.2.2))], fun s => ((slotN s 33).toNat, (slotN s 9).toNat, rowD s 8),
      fun s x => x.1 ≤ 16 ∧ x.2.1 = byS (rowD s 5) x.1 / 65536 ^ x.1 ∧ x.2.2 = nB 65536 x.1 (byS (rowD s 5) x.1) ++ List.replicate (17 - x.1) 0, fun x => 16 - x.1⟩
  | _ => none
noncomputable def twF (l : List Int) (i : Nat) : List Int := if i = 0 then l else nB 65536 16 (fpw (vB 65536 l) (2 ^ i))
noncomputable def inv119 (l m : List Int) : Nat → Option Inv
  | 3 => some ⟨Nat, fun i => [(12, .d (i64n i))], fun i => [(5, .fix (fe (fpw (vB 65536 l) (vB 65536 m % 2 ^ i)))), (2, .fix (fel (twF l i)))], fun s => (slotN s 12).toNat, fun _ i => i ≤ 256, fun i => 256 - i⟩
  | _ => none
--KEEP List.replicate Nat.gcd Go.Vg.eqB Go.Vg.vB Go.Vg.nB Go.Vg.okd Go.Vg.okw Go.Vg.dg Go.Vg.dig Go.Vg.trimL okb lenOk lenS len1 sbd sbb dif bor cmpN shf i64ok subL sbD adl adc mulL mulH stL stH smN smC addL addK TimI TimJ isN bl2 bitN pkL pkI isBits FP fsb fpw dNum lowI mlS mlI isF okL dgF dFe lsN lsR lsI lsC mdF lsB lsD plF miF lsF ByI ByJ byS twF dgP
set_option maxRecDepth 100000 in
theorem vc112  (F : D)  :
    (owed c112 (fun _ => none) Try.f112 [] F) = (
 True ∧
 (∃ (n : Int), [D.val (Value.int IntKind.i64 (255 : Int))] = [D.val (Value.int IntKind.i64 n)] ∧ (0 : Int) ≤ n ∧ n ≤ (1048576 : Int)) ∧
 ((1 : Nat) = (1 : Nat) ∧ (1 : Nat) ≤ (4096 : Nat)) ∧
 (∃ (l : List Int), ∃ (m : List Int), [D.ints IntKind.i64 (dgP (255 : Nat)), D.ints IntKind.i64 [(19 : Int)]] = [D.ints IntKind.i64 l, D.ints IntKind.i64 m] ∧ (okd l ∧ lenS l) ∧ (okd m ∧ lenS m) ∧ vB (65536 : Nat) m ≤ vB (65536 : Nat) l) ∧ True ∧ (false = false ∧ True) ∧ D.ints IntKind.i64 (dg (vB (65536 : Nat) (dgP (255 : Nat)) - vB (65536 : Nat) [(19 : Int)])) = F) := by kernel_rfl
set_option maxRecDepth 100000 in
theorem vc101  (F : D)  :
    (owed c74 (fun _ => none) Try.f101 [] F) = (
 (True ∧ (16 : Nat) ≠ (0 : Nat)) ∧
 ((1 : Nat) = (1 : Nat) ∧
 false = false ∧
 ((0 : Nat) < (16 : Nat) ∧ ([] : List Nat) = [] ∧ true = true) ∧
 false = false ∧
 ((1 : Nat) < (16 : Nat) ∧ ([] : List Nat) = [] ∧ true = true) ∧
 false = false ∧
 ((2 : Nat) < (16 : Nat) ∧ ([] : List Nat) = [] ∧ true = true) ∧
 false = false ∧
 ((3 : Nat) < (16 : Nat) ∧ ([] : List Nat) = [] ∧ true = true) ∧
 false = false ∧
 ((4 : Nat) < (16 : Nat) ∧ ([] : List Nat) = [] ∧ true = true) ∧
 false = false ∧
 ((5 : Nat) < (16 : Nat) ∧ ([] : List Nat) = [] ∧ true = true) ∧
 false = false ∧
 ((6 : Nat) < (16 : Nat) ∧ ([] : List Nat) = [] ∧ true = true) ∧
 false = false ∧
 ((7 : Nat) < (16 : Nat) ∧ ([] : List Nat) = [] ∧ true = true) ∧
 false = false ∧
 ((8 : Nat) < (16 : Nat) ∧ ([] : List Nat) = [] ∧ true = true) ∧
 false = false ∧
 ((9 : Nat) < (16 : Nat) ∧ ([] : List Nat) = [] ∧ true = true) ∧
 false = false ∧
 ((10 : Nat) < (16 : Nat) ∧ ([] : List Nat) = [] ∧ true = true) ∧
 false = false ∧ ((11 : Nat) < (16 : Nat) ∧ ([] : List Nat) = [] ∧ true = true) ∧ false = false ∧ ((12 : Nat) < (16 : Nat) ∧ ([] : List Nat) = [] ∧ true = true) ∧ false = false ∧ ((13 : Nat) < (16 : Nat) ∧ ([] : List Nat) = [] ∧ true = true) ∧ false = false ∧ ((14 : Nat) < (16 : Nat) ∧ ([] : List Nat) = [] ∧ true = true) ∧ false = false ∧ ((15 : Nat) < (16 : Nat) ∧ ([] : List Nat) = [] ∧ true = true) ∧ True) ∧
 (Sk.arr (16 : Nat) = Sk.arr (16 : Nat) ∧ (16 : Nat) ≠ (0 : Nat) ∧ (16 : Nat) = (16 : Nat) ∧ false = false) ∧
 (((16 : Nat) ≠ (0 : Nat) ∧ (16 : Nat) = (16 : Nat) ∧ true = true) ∧ True) ∧ D.arr IntKind.i64 (16 : Nat) [(30883 : Int), (4953 : Int), (19914 : Int), (30187 : Int), (55467 : Int), (16705 : Int), (2637 : Int), (112 : Int), (59544 : Int), (30585 : Int), (16505 : Int), (36039 : Int), (65139 : Int), (11119 : Int), (27886 : Int), (20995 : Int)] = F) := by kernel_rfl
set_option maxRecDepth 100000 in
theorem vc100  (n : Nat) (F : D)  :
    (owed c74 (fun _ => none) Try.f100 [i64n n] F) = (
 (True ∧ (16 : Nat) ≠ (0 : Nat)) ∧
 True ∧
 ((1 : Nat) = (1 : Nat) ∧ false = false ∧ ((0 : Nat) < (16 : Nat) ∧ ([] : List Nat) = [] ∧ true = true) ∧ True) ∧
 (Sk.arr (16 : Nat) = Sk.arr (16 : Nat) ∧ (16 : Nat) ≠ (0 : Nat) ∧ (16 : Nat) = (16 : Nat) ∧ false = false) ∧
 (((16 : Nat) ≠ (0 : Nat) ∧ (16 : Nat) = (16 : Nat) ∧ true = true) ∧ True) ∧ D.arr IntKind.i64 (16 : Nat) [(↑n : Int), (0 : Int), (0 : Int), (0 : Int), (0 : Int), (0 : Int), (0 : Int), (0 : Int), (0 : Int), (0 : Int), (0 : Int), (0 : Int), (0 : Int), (0 : Int), (0 : Int), (0 : Int)] = F) := by kernel_rfl
set_option maxRecDepth 100000 in
theorem vc110  (t : List Int) (F : D)  :
    (owed c74 (inv110 t) Try.f110 [.arr .i64 17 t] F) = (
 (True ∧ false = false) ∧
 (True ∧ (16 : Nat) ≠ (0 : Nat)) ∧
 True ∧
 (((AV.d (D.val (Value.int IntKind.i64 (0 : Int))) = AV.d (D.val (Value.int IntKind.i64 (↑(Int.toNat (0 : Int)) : Int))) ∧ True) ∧
 (some (Blk.fix (D.arr IntKind.i64 (17 : Nat) t)) = some (Blk.fix (D.arr IntKind.i64 (17 : Nat) (lsR t (Int.toNat (0 : Int))))) ∧
 some (Blk.fix (D.arr IntKind.i64 (16 : Nat) [(0 : Int), (0 : Int), (0 : Int), (0 : Int), (0 : Int), (0 : Int), (0 : Int), (0 : Int), (0 : Int), (0 : Int), (0 : Int), (0 : Int), (0 : Int), (0 : Int), (0 : Int), (0 : Int)])) =
 some (Blk.fix (D.arr IntKind.i64 (16 : Nat) [(0 : Int), (0 : Int), (0 : Int), (0 : Int), (0 : Int), (0 : Int), (0 : Int), (0 : Int), (0 : Int), (0 : Int), (0 : Int), (0 : Int), (0 : Int), (0 : Int), (0 : Int), (0 : Int)])) ∧
 True) ∧
 true = true) ∧
 Int.toNat (0 : Int) ≤ (3 : Nat)) ∧
 ∀ (x : Nat),
 x ≤ (3 : Nat) →
 true = true ∧
 True ∧
 match decide ((↑x : Int) < (3 : Int)) with
 | true =>
  ((0 : Int) ≤ (16 : Int) ∧ (16 : Int) < (↑(17 : Nat) : Int) ∧ (17 : Nat) = (17 : Nat) ∧ (1 : Nat) = (1 : Nat)) ∧
  ((1 : Nat) ≠ (0 : Nat) ∧ (1 : Nat) = (1 : Nat) ∧ false = false) ∧
  True ∧
  True ∧
  ((0 : Int) ≤ (16 : Int) ∧ (16 : Int) < (↑(17 : Nat) : Int) ∧ (17 : Nat) = (17 : Nat) ∧ (1 : Nat) = (1 : Nat)) ∧
  (((16 : Nat) < (17 : Nat) ∧ ([] : List Nat) = [] ∧ true = true) ∧ (1 : Nat) ≠ (0 : Nat) ∧ (1 : Nat) = (1 : Nat) ∧ false = false) ∧
  True ∧
  (((AV.d (D.val (Value.int IntKind.i64 (0 : Int))) = AV.d (D.val (Value.int IntKind.i64 (↑(0 : Nat) : Int))) ∧ AV.d (D.val (Value.int IntKind.i64 (IntKind.i64.wrap ((lsR t x).getD (16 : Nat) (0 : Int) * (38 : Int))))) = AV.d (D.val (Value.int IntKind.i64 (↑(IntKind.i64.wrap ((lsR t x).getD (16 : Nat) (0 : Int) * (38 : Int))).toNat : Int))) ∧ True) ∧
  (some (Blk.fix (D.arr IntKind.i64 (17 : Nat) ((lsR t x).set (16 : Nat) (0 : Int)))) = some (Blk.fix (D.arr IntKind.i64 (17 : Nat) ((lsR t x).set (16 : Nat) (0 : Int)))) ∧
  some (Blk.fix (D.arr IntKind.i64 (16 : Nat) [(0 : Int), (0 : Int), (0 : Int), (0 : Int), (0 : Int), (0 : Int), (0 : Int), (0 : Int), (0 : Int), (0 : Int), (0 : Int), (0 : Int), (0 : Int), (0 : Int), (0 : Int), (0 : Int)])) =
  some (Blk.fix (D.arr IntKind.i64 (16 : Nat) [(0 : Int), (0 : Int), (0 : Int), (0 : Int), (0 : Int), (0 : Int), (0 : Int), (0 : Int), (0 : Int), (0 : Int), (0 : Int), (0 : Int), (0 : Int), (0 : Int), (0 : Int), (0 : Int)])) ∧
  True) ∧
  true = true) ∧
  (0 : Nat) ≤ (16 : Nat) ∧
  (IntKind.i64.wrap ((lsR t x).getD (16 : Nat) (0 : Int) * (38 : Int))).toNat = lsC ((lsR t x).set (16 : Nat) (0 : Int)) (IntKind.i64.wrap ((lsR t x).getD (16 : Nat) (0 : Int) * (38 : Int))).toNat (0 : Nat) ∧
  (lsR t x).set (16 : Nat) (0 : Int) = lsI ((lsR t x).set (16 : Nat) (0 : Int)) (IntKind.i64.wrap ((lsR t x).getD (16 : Nat) (0 : Int) * (38 : Int))).toNat (0 : Nat)) ∧
  ∀ (x_1 : Nat × Nat × List Int),
  x_1.fst ≤ (16 : Nat) ∧ x_1.snd.fst = lsC ((lsR t x).set (16 : Nat) (0 : Int)) (IntKind.i64.wrap ((lsR t x).getD (16 : Nat) (0 : Int) * (38 : Int))).toNat x_1.fst ∧ x_1.snd.snd = lsI ((lsR t x).set (16 : Nat) (0 : Int)) (IntKind.i64.wrap ((lsR t x).getD (16 : Nat) (0 : Int) * (38 : Int))).toNat x_1.fst →
  true = true ∧
  True ∧
  match decide ((↑x_1.fst : Int) < (16 : Int)) with
  | true =>
   True ∧
   True ∧
   True ∧
   True ∧
   ((0 : Int) ≤ (↑x_1.fst : Int) ∧ (↑x_1.fst : Int) < (↑(17 : Nat) : Int) ∧ (17 : Nat) = (17 : Nat) ∧ (1 : Nat) = (1 : Nat)) ∧
   ((1 : Nat) ≠ (0 : Nat) ∧ (1 : Nat) = (1 : Nat) ∧ false = false) ∧
   True ∧
   True ∧
   True ∧
   True ∧
   True ∧
   ((0 : Int) ≤ (↑x_1.fst : Int) ∧ (↑x_1.fst : Int) < (↑(17 : Nat) : Int) ∧ (17 : Nat) = (17 : Nat) ∧ (1 : Nat) = (1 : Nat)) ∧
   (((↑x_1.fst : Int).toNat < (17 : Nat) ∧ ([] : List Nat) = [] ∧ true = true) ∧ (1 : Nat) ≠ (0 : Nat) ∧ (1 : Nat) = (1 : Nat) ∧ false = false) ∧
   True ∧
   (0 : Int) ≤ (16 : Int) ∧
   True ∧
   True ∧
   True ∧
   ((AV.d (D.val (Value.int IntKind.i64 (IntKind.i64.wrap ((↑x_1.fst : Int) + (1 : Int))))) = AV.d (D.val (Value.int IntKind.i64 (↑(IntKind.i64.wrap ((↑x_1.fst : Int) + (1 : Int))).toNat : Int))) ∧
   AV.d (D.val (Value.int IntKind.i64 (ishr IntKind.i64 (IntKind.i64.wrap ((↑x_1.snd.fst : Int) + x_1.snd.snd.getD (↑x_1.fst : Int).toNat (0 : Int))) (16 : Int)))) =
   AV.d (D.val (Value.int IntKind.i64 (↑(ishr IntKind.i64 (IntKind.i64.wrap ((↑x_1.snd.fst : Int) + x_1.snd.snd.getD (↑x_1.fst : Int).toNat (0 : Int))) (16 : Int)).toNat : Int))) ∧
   True) ∧
   (some (Blk.fix (D.arr IntKind.i64 (17 : Nat) (x_1.snd.snd.set (↑x_1.fst : Int).toNat (iand IntKind.i64 (IntKind.i64.wrap ((↑x_1.snd.fst : Int) + x_1.snd.snd.getD (↑x_1.fst : Int).toNat (0 : Int))) (65535 : Int))))) =
   some (Blk.fix (D.arr IntKind.i64 (17 : Nat) (x_1.snd.snd.set (↑x_1.fst : Int).toNat (iand IntKind.i64 (IntKind.i64.wrap ((↑x_1.snd.fst : Int) + x_1.snd.snd.getD (↑x_1.fst : Int).toNat (0 : Int))) (65535 : Int))))) ∧
   some (Blk.fix (D.arr IntKind.i64 (16 : Nat) [(0 : Int), (0 : Int), (0 : Int), (0 : Int), (0 : Int), (0 : Int), (0 : Int), (0 : Int), (0 : Int), (0 : Int), (0 : Int), (0 : Int), (0 : Int), (0 : Int), (0 : Int), (0 : Int)])) =
   some (Blk.fix (D.arr IntKind.i64 (16 : Nat) [(0 : Int), (0 : Int), (0 : Int), (0 : Int), (0 : Int), (0 : Int), (0 : Int), (0 : Int), (0 : Int), (0 : Int), (0 : Int), (0 : Int), (0 : Int), (0 : Int), (0 : Int), (0 : Int)])) ∧
   True) ∧
   true = true) ∧
   ((IntKind.i64.wrap ((↑x_1.fst : Int) + (1 : Int))).toNat ≤ (16 : Nat) ∧
   (ishr IntKind.i64 (IntKind.i64.wrap ((↑x_1.snd.fst : Int) + x_1.snd.snd.getD (↑x_1.fst : Int).toNat (0 : Int))) (16 : Int)).toNat = lsC ((lsR t x).set (16 : Nat) (0 : Int)) (IntKind.i64.wrap ((lsR t x).getD (16 : Nat) (0 : Int) * (38 : Int))).toNat (IntKind.i64.wrap ((↑x_1.fst : Int) + (1 : Int))).toNat ∧
   x_1.snd.snd.set (↑x_1.fst : Int).toNat (iand IntKind.i64 (IntKind.i64.wrap ((↑x_1.snd.fst : Int) + x_1.snd.snd.getD (↑x_1.fst : Int).toNat (0 : Int))) (65535 : Int)) =
   lsI ((lsR t x).set (16 : Nat) (0 : Int)) (IntKind.i64.wrap ((lsR t x).getD (16 : Nat) (0 : Int) * (38 : Int))).toNat (IntKind.i64.wrap ((↑x_1.fst : Int) + (1 : Int))).toNat) ∧
   (16 : Nat) - (IntKind.i64.wrap ((↑x_1.fst : Int) + (1 : Int))).toNat < (16 : Nat) - x_1.fst
  | false =>
   True ∧
   ((0 : Int) ≤ (16 : Int) ∧ (16 : Int) < (↑(17 : Nat) : Int) ∧ (17 : Nat) = (17 : Nat) ∧ (1 : Nat) = (1 : Nat)) ∧
   (((16 : Nat) < (17 : Nat) ∧ ([] : List Nat) = [] ∧ true = true) ∧ (1 : Nat) ≠ (0 : Nat) ∧ (1 : Nat) = (1 : Nat) ∧ false = false) ∧
   True ∧
   True ∧
   ((AV.d (D.val (Value.int IntKind.i64 (IntKind.i64.wrap ((↑x : Int) + (1 : Int))))) = AV.d (D.val (Value.int IntKind.i64 (↑(IntKind.i64.wrap ((↑x : Int) + (1 : Int))).toNat : Int))) ∧ True) ∧
   (some (Blk.fix (D.arr IntKind.i64 (17 : Nat) (x_1.snd.snd.set (16 : Nat) (↑x_1.snd.fst : Int)))) = some (Blk.fix (D.arr IntKind.i64 (17 : Nat) (lsR t (IntKind.i64.wrap ((↑x : Int) + (1 : Int))).toNat))) ∧
   some (Blk.fix (D.arr IntKind.i64 (16 : Nat) [(0 : Int), (0 : Int), (0 : Int), (0 : Int), (0 : Int), (0 : Int), (0 : Int), (0 : Int), (0 : Int), (0 : Int), (0 : Int), (0 : Int), (0 : Int), (0 : Int), (0 : Int), (0 : Int)])) =
   some (Blk.fix (D.arr IntKind.i64 (16 : Nat) [(0 : Int), (0 : Int), (0 : Int), (0 : Int), (0 : Int), (0 : Int), (0 : Int), (0 : Int), (0 : Int), (0 : Int), (0 : Int), (0 : Int), (0 : Int), (0 : Int), (0 : Int), (0 : Int)])) ∧
   True) ∧
   true = true) ∧
   (IntKind.i64.wrap ((↑x : Int) + (1 : Int))).toNat ≤ (3 : Nat) ∧ (3 : Nat) - (IntKind.i64.wrap ((↑x : Int) + (1 : Int))).toNat < (3 : Nat) - x
 | false =>
  (True ∧ (16 : Nat) ≠ (0 : Nat)) ∧
  ((0 : Int) ≤ (0 : Int) ∧ (0 : Int) ≤ (↑(16 : Nat) : Int) ∧ (↑(16 : Nat) : Int) ≤ (↑(16 : Nat) : Int) ∧ (16 : Nat) = (16 : Nat) ∧ (1 : Nat) = (1 : Nat)) ∧
  ((0 : Int) ≤ (0 : Int) ∧ (0 : Int) ≤ (16 : Int) ∧ (16 : Int) ≤ (↑(17 : Nat) : Int) ∧ (17 : Nat) = (17 : Nat) ∧ (1 : Nat) = (1 : Nat)) ∧
  (IntKind.i64 = IntKind.i64 ∧ (1 : Nat) = (1 : Nat)) ∧
  ((True ∧
  (some (Blk.fix (D.arr IntKind.i64 (17 : Nat) (lsR t x))) = some (Blk.fix (D.arr IntKind.i64 (17 : Nat) (lsR t x))) ∧
  some (Blk.fix (D.arr IntKind.i64 (16 : Nat) [(0 : Int), (0 : Int), (0 : Int), (0 : Int), (0 : Int), (0 : Int), (0 : Int), (0 : Int), (0 : Int), (0 : Int), (0 : Int), (0 : Int), (0 : Int), (0 : Int), (0 : Int), (0 : Int)])) =
  some (Blk.fix (D.arr IntKind.i64 (16 : Nat) [(0 : Int), (0 : Int), (0 : Int), (0 : Int), (0 : Int), (0 : Int), (0 : Int), (0 : Int), (0 : Int), (0 : Int), (0 : Int), (0 : Int), (0 : Int), (0 : Int), (0 : Int), (0 : Int)])) ∧
  some
  (Blk.fix
  (D.arr IntKind.i64 (16 : Nat)
  (List.take ((List.take (16 : Nat) (List.drop (0 : Nat) (lsR t x))).length.min ((↑(16 : Nat) : Int).toNat - Int.toNat (0 : Int))) (List.take (16 : Nat) (List.drop (0 : Nat) (lsR t x))) ++
  List.drop ((0 : Nat) + (List.take (16 : Nat) (List.drop (0 : Nat) (lsR t x))).length.min ((↑(16 : Nat) : Int).toNat - Int.toNat (0 : Int))) [(0 : Int), (0 : Int), (0 : Int), (0 : Int), (0 : Int), (0 : Int), (0 : Int), (0 : Int), (0 : Int), (0 : Int), (0 : Int), (0 : Int), (0 : Int), (0 : Int), (0 : Int), (0 : Int)]))) =
  some
  (Blk.fix
  (D.arr IntKind.i64 (16 : Nat)
  (nB (65536 : Nat) (16 : Nat)
  (vB (65536 : Nat)
  (List.take ((List.take (16 : Nat) (List.drop (0 : Nat) (lsR t x))).length.min ((↑(16 : Nat) : Int).toNat - Int.toNat (0 : Int))) (List.take (16 : Nat) (List.drop (0 : Nat) (lsR t x))) ++
  List.drop ((0 : Nat) + (List.take (16 : Nat) (List.drop (0 : Nat) (lsR t x))).length.min ((↑(16 : Nat) : Int).toNat - Int.toNat (0 : Int))) [(0 : Int), (0 : Int), (0 : Int), (0 : Int), (0 : Int), (0 : Int), (0 : Int), (0 : Int), (0 : Int), (0 : Int), (0 : Int), (0 : Int), (0 : Int), (0 : Int), (0 : Int), (0 : Int)]))))) ∧
  True) ∧
  true = true) ∧
  vB (65536 : Nat)
  (List.take ((List.take (16 : Nat) (List.drop (0 : Nat) (lsR t x))).length.min ((↑(16 : Nat) : Int).toNat - Int.toNat (0 : Int))) (List.take (16 : Nat) (List.drop (0 : Nat) (lsR t x))) ++
  List.drop ((0 : Nat) + (List.take (16 : Nat) (List.drop (0 : Nat) (lsR t x))).length.min ((↑(16 : Nat) : Int).toNat - Int.toNat (0 : Int))) [(0 : Int), (0 : Int), (0 : Int), (0 : Int), (0 : Int), (0 : Int), (0 : Int), (0 : Int), (0 : Int), (0 : Int), (0 : Int), (0 : Int), (0 : Int), (0 : Int), (0 : Int), (0 : Int)]) <
  (115792089237316195423570985008687907853269984665640564039457584007913129639936 : Nat) ∧
  vB (65536 : Nat)
  (List.take ((List.take (16 : Nat) (List.drop (0 : Nat) (lsR t x))).length.min ((↑(16 : Nat) : Int).toNat - Int.toNat (0 : Int))) (List.take (16 : Nat) (List.drop (0 : Nat) (lsR t x))) ++
  List.drop ((0 : Nat) + (List.take (16 : Nat) (List.drop (0 : Nat) (lsR t x))).length.min ((↑(16 : Nat) : Int).toNat - Int.toNat (0 : Int))) [(0 : Int), (0 : Int), (0 : Int), (0 : Int), (0 : Int), (0 : Int), (0 : Int), (0 : Int), (0 : Int), (0 : Int), (0 : Int), (0 : Int), (0 : Int), (0 : Int), (0 : Int), (0 : Int)]) %
  FP =
  vB (65536 : Nat)
  (List.take ((List.take (16 : Nat) (List.drop (0 : Nat) (lsR t x))).length.min ((↑(16 : Nat) : Int).toNat - Int.toNat (0 : Int))) (List.take (16 : Nat) (List.drop (0 : Nat) (lsR t x))) ++
  List.drop ((0 : Nat) + (List.take (16 : Nat) (List.drop (0 : Nat) (lsR t x))).length.min ((↑(16 : Nat) : Int).toNat - Int.toNat (0 : Int))) [(0 : Int), (0 : Int), (0 : Int), (0 : Int), (0 : Int), (0 : Int), (0 : Int), (0 : Int), (0 : Int), (0 : Int), (0 : Int), (0 : Int), (0 : Int), (0 : Int), (0 : Int), (0 : Int)]) %
  FP) ∧
  ∀ (x_1 : Nat),
  x_1 < (115792089237316195423570985008687907853269984665640564039457584007913129639936 : Nat) ∧
  x_1 % FP =
  vB (65536 : Nat)
  (List.take ((List.take (16 : Nat) (List.drop (0 : Nat) (lsR t x))).length.min ((↑(16 : Nat) : Int).toNat - Int.toNat (0 : Int))) (List.take (16 : Nat) (List.drop (0 : Nat) (lsR t x))) ++
  List.drop ((0 : Nat) + (List.take (16 : Nat) (List.drop (0 : Nat) (lsR t x))).length.min ((↑(16 : Nat) : Int).toNat - Int.toNat (0 : Int))) [(0 : Int), (0 : Int), (0 : Int), (0 : Int), (0 : Int), (0 : Int), (0 : Int), (0 : Int), (0 : Int), (0 : Int), (0 : Int), (0 : Int), (0 : Int), (0 : Int), (0 : Int), (0 : Int)]) %
  FP →
  true = true ∧
  True ∧
  (True ∧ (16 : Nat) ≠ (0 : Nat)) ∧
  True ∧
  (((AV.d (D.val (Value.int IntKind.i64 (0 : Int))) = AV.d (D.val (Value.int IntKind.i64 (↑(0 : Nat) : Int))) ∧ AV.d (D.val (Value.int IntKind.i64 (0 : Int))) = AV.d (D.val (Value.int IntKind.i64 (↑(0 : Nat) : Int))) ∧ True) ∧
  (some (Blk.fix (D.arr IntKind.i64 (17 : Nat) (lsR t x))) = some (Blk.fix (D.arr IntKind.i64 (17 : Nat) (lsR t x))) ∧
  some (Blk.fix (D.arr IntKind.i64 (16 : Nat) [(0 : Int), (0 : Int), (0 : Int), (0 : Int), (0 : Int), (0 : Int), (0 : Int), (0 : Int), (0 : Int), (0 : Int), (0 : Int), (0 : Int), (0 : Int), (0 : Int), (0 : Int), (0 : Int)])) =
  some (Blk.fix (D.arr IntKind.i64 (16 : Nat) [(0 : Int), (0 : Int), (0 : Int), (0 : Int), (0 : Int), (0 : Int), (0 : Int), (0 : Int), (0 : Int), (0 : Int), (0 : Int), (0 : Int), (0 : Int), (0 : Int), (0 : Int), (0 : Int)])) ∧
  some (Blk.fix (D.arr IntKind.i64 (16 : Nat) (nB (65536 : Nat) (16 : Nat) x_1))) = some (Blk.fix (D.arr IntKind.i64 (16 : Nat) (nB (65536 : Nat) (16 : Nat) x_1))) ∧
  some (Blk.fix (D.arr IntKind.i64 (16 : Nat) [(0 : Int), (0 : Int), (0 : Int), (0 : Int), (0 : Int), (0 : Int), (0 : Int), (0 : Int), (0 : Int), (0 : Int), (0 : Int), (0 : Int), (0 : Int), (0 : Int), (0 : Int), (0 : Int)])) =
  some (Blk.fix (D.arr IntKind.i64 (16 : Nat) [(0 : Int), (0 : Int), (0 : Int), (0 : Int), (0 : Int), (0 : Int), (0 : Int), (0 : Int), (0 : Int), (0 : Int), (0 : Int), (0 : Int), (0 : Int), (0 : Int), (0 : Int), (0 : Int)])) ∧
  True) ∧
  true = true) ∧
  (0 : Nat) ≤ (16 : Nat) ∧ (0 : Nat) = lsB (nB (65536 : Nat) (16 : Nat) x_1) (0 : Nat) ∧ [(0 : Int), (0 : Int), (0 : Int), (0 : Int), (0 : Int), (0 : Int), (0 : Int), (0 : Int), (0 : Int), (0 : Int), (0 : Int), (0 : Int), (0 : Int), (0 : Int), (0 : Int), (0 : Int)] = lsD (nB (65536 : Nat) (16 : Nat) x_1) (0 : Nat)) ∧
  ∀ (x_2 : Nat × Nat × List Int),
  x_2.fst ≤ (16 : Nat) ∧ x_2.snd.fst = lsB (nB (65536 : Nat) (16 : Nat) x_1) x_2.fst ∧ x_2.snd.snd = lsD (nB (65536 : Nat) (16 : Nat) x_1) x_2.fst →
  true = true ∧
  True ∧
  match decide ((↑x_2.fst : Int) < (16 : Int)) with
  | true =>
   True ∧
   True ∧
   True ∧
   True ∧
   True ∧
   (match (↑x_2.fst : Int) == (0 : Int) with
   | true =>
    True ∧
    ((AV.d (D.val (Value.int IntKind.i64 (65517 : Int))) = AV.d (D.val (Value.int IntKind.i64 (mdF (↑x_2.fst : Int).toNat))) ∧ True) ∧
    (some (Blk.fix (D.arr IntKind.i64 (17 : Nat) (lsR t x))) = some (Blk.fix (D.arr IntKind.i64 (17 : Nat) (lsR t x))) ∧
    some (Blk.fix (D.arr IntKind.i64 (16 : Nat) [(0 : Int), (0 : Int), (0 : Int), (0 : Int), (0 : Int), (0 : Int), (0 : Int), (0 : Int), (0 : Int), (0 : Int), (0 : Int), (0 : Int), (0 : Int), (0 : Int), (0 : Int), (0 : Int)])) =
    some (Blk.fix (D.arr IntKind.i64 (16 : Nat) [(0 : Int), (0 : Int), (0 : Int), (0 : Int), (0 : Int), (0 : Int), (0 : Int), (0 : Int), (0 : Int), (0 : Int), (0 : Int), (0 : Int), (0 : Int), (0 : Int), (0 : Int), (0 : Int)])) ∧
    some (Blk.fix (D.arr IntKind.i64 (16 : Nat) (nB (65536 : Nat) (16 : Nat) x_1))) = some (Blk.fix (D.arr IntKind.i64 (16 : Nat) (nB (65536 : Nat) (16 : Nat) x_1))) ∧ some (Blk.fix (D.arr IntKind.i64 (16 : Nat) x_2.snd.snd)) = some (Blk.fix (D.arr IntKind.i64 (16 : Nat) x_2.snd.snd)) ∧ True) ∧
    true = true) ∧
    (↑(↑x_2.fst : Int).toNat : Int) = (↑x_2.fst : Int)
   | false =>
    True ∧
    True ∧
    match (↑x_2.fst : Int) == (15 : Int) with
    | true =>
     True ∧
     ((AV.d (D.val (Value.int IntKind.i64 (32767 : Int))) = AV.d (D.val (Value.int IntKind.i64 (mdF (↑x_2.fst : Int).toNat))) ∧ True) ∧
     (some (Blk.fix (D.arr IntKind.i64 (17 : Nat) (lsR t x))) = some (Blk.fix (D.arr IntKind.i64 (17 : Nat) (lsR t x))) ∧
     some (Blk.fix (D.arr IntKind.i64 (16 : Nat) [(0 : Int), (0 : Int), (0 : Int), (0 : Int), (0 : Int), (0 : Int), (0 : Int), (0 : Int), (0 : Int), (0 : Int), (0 : Int), (0 : Int), (0 : Int), (0 : Int), (0 : Int), (0 : Int)])) =
     some (Blk.fix (D.arr IntKind.i64 (16 : Nat) [(0 : Int), (0 : Int), (0 : Int), (0 : Int), (0 : Int), (0 : Int), (0 : Int), (0 : Int), (0 : Int), (0 : Int), (0 : Int), (0 : Int), (0 : Int), (0 : Int), (0 : Int), (0 : Int)])) ∧
     some (Blk.fix (D.arr IntKind.i64 (16 : Nat) (nB (65536 : Nat) (16 : Nat) x_1))) = some (Blk.fix (D.arr IntKind.i64 (16 : Nat) (nB (65536 : Nat) (16 : Nat) x_1))) ∧ some (Blk.fix (D.arr IntKind.i64 (16 : Nat) x_2.snd.snd)) = some (Blk.fix (D.arr IntKind.i64 (16 : Nat) x_2.snd.snd)) ∧ True) ∧
     true = true) ∧
     (↑(↑x_2.fst : Int).toNat : Int) = (↑x_2.fst : Int)
    | false =>
     ((AV.d (D.val (Value.int IntKind.i64 (65535 : Int))) = AV.d (D.val (Value.int IntKind.i64 (mdF (↑x_2.fst : Int).toNat))) ∧ True) ∧
     (some (Blk.fix (D.arr IntKind.i64 (17 : Nat) (lsR t x))) = some (Blk.fix (D.arr IntKind.i64 (17 : Nat) (lsR t x))) ∧
     some (Blk.fix (D.arr IntKind.i64 (16 : Nat) [(0 : Int), (0 : Int), (0 : Int), (0 : Int), (0 : Int), (0 : Int), (0 : Int), (0 : Int), (0 : Int), (0 : Int), (0 : Int), (0 : Int), (0 : Int), (0 : Int), (0 : Int), (0 : Int)])) =
     some (Blk.fix (D.arr IntKind.i64 (16 : Nat) [(0 : Int), (0 : Int), (0 : Int), (0 : Int), (0 : Int), (0 : Int), (0 : Int), (0 : Int), (0 : Int), (0 : Int), (0 : Int), (0 : Int), (0 : Int), (0 : Int), (0 : Int), (0 : Int)])) ∧
     some (Blk.fix (D.arr IntKind.i64 (16 : Nat) (nB (65536 : Nat) (16 : Nat) x_1))) = some (Blk.fix (D.arr IntKind.i64 (16 : Nat) (nB (65536 : Nat) (16 : Nat) x_1))) ∧ some (Blk.fix (D.arr IntKind.i64 (16 : Nat) x_2.snd.snd)) = some (Blk.fix (D.arr IntKind.i64 (16 : Nat) x_2.snd.snd)) ∧ True) ∧
     true = true) ∧
     (↑(↑x_2.fst : Int).toNat : Int) = (↑x_2.fst : Int)) ∧
    ∀ (z : Nat),
    (↑z : Int) = (↑x_2.fst : Int) →
    true = true ∧
    True ∧
    ((0 : Int) ≤ (↑x_2.fst : Int) ∧ (↑x_2.fst : Int) < (↑(16 : Nat) : Int) ∧ (16 : Nat) = (16 : Nat) ∧ (1 : Nat) = (1 : Nat)) ∧
    ((1 : Nat) ≠ (0 : Nat) ∧ (1 : Nat) = (1 : Nat) ∧ false = false) ∧
    True ∧
    True ∧
    True ∧
    True ∧
    True ∧
    True ∧
    True ∧
    True ∧
    match decide (IntKind.i64.wrap (IntKind.i64.wrap ((nB (65536 : Nat) (16 : Nat) x_1).getD (↑x_2.fst : Int).toNat (0 : Int) - mdF z) - (↑x_2.snd.fst : Int)) < (0 : Int)) with
    | true =>
     True ∧
     True ∧
     True ∧
     True ∧
     True ∧
     True ∧
     ((0 : Int) ≤ (↑x_2.fst : Int) ∧ (↑x_2.fst : Int) < (↑(16 : Nat) : Int) ∧ (16 : Nat) = (16 : Nat) ∧ (1 : Nat) = (1 : Nat)) ∧
     (((↑x_2.fst : Int).toNat < (16 : Nat) ∧ ([] : List Nat) = [] ∧ true = true) ∧ (1 : Nat) ≠ (0 : Nat) ∧ (1 : Nat) = (1 : Nat) ∧ false = false) ∧
     True ∧
     True ∧
     ((AV.d (D.val (Value.int IntKind.i64 (IntKind.i64.wrap ((↑x_2.fst : Int) + (1 : Int))))) = AV.d (D.val (Value.int IntKind.i64 (↑(IntKind.i64.wrap ((↑x_2.fst : Int) + (1 : Int))).toNat : Int))) ∧
     AV.d (D.val (Value.int IntKind.i64 (1 : Int))) = AV.d (D.val (Value.int IntKind.i64 (↑(1 : Nat) : Int))) ∧ True) ∧
     (some (Blk.fix (D.arr IntKind.i64 (17 : Nat) (lsR t x))) = some (Blk.fix (D.arr IntKind.i64 (17 : Nat) (lsR t x))) ∧
     some (Blk.fix (D.arr IntKind.i64 (16 : Nat) [(0 : Int), (0 : Int), (0 : Int), (0 : Int), (0 : Int), (0 : Int), (0 : Int), (0 : Int), (0 : Int), (0 : Int), (0 : Int), (0 : Int), (0 : Int), (0 : Int), (0 : Int), (0 : Int)])) =
     some (Blk.fix (D.arr IntKind.i64 (16 : Nat) [(0 : Int), (0 : Int), (0 : Int), (0 : Int), (0 : Int), (0 : Int), (0 : Int), (0 : Int), (0 : Int), (0 : Int), (0 : Int), (0 : Int), (0 : Int), (0 : Int), (0 : Int), (0 : Int)])) ∧
     some (Blk.fix (D.arr IntKind.i64 (16 : Nat) (nB (65536 : Nat) (16 : Nat) x_1))) = some (Blk.fix (D.arr IntKind.i64 (16 : Nat) (nB (65536 : Nat) (16 : Nat) x_1))) ∧
     some (Blk.fix (D.arr IntKind.i64 (16 : Nat) (x_2.snd.snd.set (↑x_2.fst : Int).toNat (IntKind.i64.wrap (IntKind.i64.wrap (IntKind.i64.wrap ((nB (65536 : Nat) (16 : Nat) x_1).getD (↑x_2.fst : Int).toNat (0 : Int) - mdF z) - (↑x_2.snd.fst : Int)) + (65536 : Int)))))) =
     some (Blk.fix (D.arr IntKind.i64 (16 : Nat) (x_2.snd.snd.set (↑x_2.fst : Int).toNat (IntKind.i64.wrap (IntKind.i64.wrap (IntKind.i64.wrap ((nB (65536 : Nat) (16 : Nat) x_1).getD (↑x_2.fst : Int).toNat (0 : Int) - mdF z) - (↑x_2.snd.fst : Int)) + (65536 : Int)))))) ∧
     True) ∧
     true = true) ∧
     ((IntKind.i64.wrap ((↑x_2.fst : Int) + (1 : Int))).toNat ≤ (16 : Nat) ∧
     (1 : Nat) = lsB (nB (65536 : Nat) (16 : Nat) x_1) (IntKind.i64.wrap ((↑x_2.fst : Int) + (1 : Int))).toNat ∧
     x_2.snd.snd.set (↑x_2.fst : Int).toNat (IntKind.i64.wrap (IntKind.i64.wrap (IntKind.i64.wrap ((nB (65536 : Nat) (16 : Nat) x_1).getD (↑x_2.fst : Int).toNat (0 : Int) - mdF z) - (↑x_2.snd.fst : Int)) + (65536 : Int))) =
     lsD (nB (65536 : Nat) (16 : Nat) x_1) (IntKind.i64.wrap ((↑x_2.fst : Int) + (1 : Int))).toNat) ∧
     (16 : Nat) - (IntKind.i64.wrap ((↑x_2.fst : Int) + (1 : Int))).toNat < (16 : Nat) - x_2.fst
    | false =>
     True ∧
     True ∧
     ((0 : Int) ≤ (↑x_2.fst : Int) ∧ (↑x_2.fst : Int) < (↑(16 : Nat) : Int) ∧ (16 : Nat) = (16 : Nat) ∧ (1 : Nat) = (1 : Nat)) ∧
     (((↑x_2.fst : Int).toNat < (16 : Nat) ∧ ([] : List Nat) = [] ∧ true = true) ∧ (1 : Nat) ≠ (0 : Nat) ∧ (1 : Nat) = (1 : Nat) ∧ false = false) ∧
     True ∧
     True ∧
     ((AV.d (D.val (Value.int IntKind.i64 (IntKind.i64.wrap ((↑x_2.fst : Int) + (1 : Int))))) = AV.d (D.val (Value.int IntKind.i64 (↑(IntKind.i64.wrap ((↑x_2.fst : Int) + (1 : Int))).toNat : Int))) ∧
     AV.d (D.val (Value.int IntKind.i64 (0 : Int))) = AV.d (D.val (Value.int IntKind.i64 (↑(0 : Nat) : Int))) ∧ True) ∧
     (some (Blk.fix (D.arr IntKind.i64 (17 : Nat) (lsR t x))) = some (Blk.fix (D.arr IntKind.i64 (17 : Nat) (lsR t x))) ∧
     some (Blk.fix (D.arr IntKind.i64 (16 : Nat) [(0 : Int), (0 : Int), (0 : Int), (0 : Int), (0 : Int), (0 : Int), (0 : Int), (0 : Int), (0 : Int), (0 : Int), (0 : Int), (0 : Int), (0 : Int), (0 : Int), (0 : Int), (0 : Int)])) =
     some (Blk.fix (D.arr IntKind.i64 (16 : Nat) [(0 : Int), (0 : Int), (0 : Int), (0 : Int), (0 : Int), (0 : Int), (0 : Int), (0 : Int), (0 : Int), (0 : Int), (0 : Int), (0 : Int), (0 : Int), (0 : Int), (0 : Int), (0 : Int)])) ∧
     some (Blk.fix (D.arr IntKind.i64 (16 : Nat) (nB (65536 : Nat) (16 : Nat) x_1))) = some (Blk.fix (D.arr IntKind.i64 (16 : Nat) (nB (65536 : Nat) (16 : Nat) x_1))) ∧
     some (Blk.fix (D.arr IntKind.i64 (16 : Nat) (x_2.snd.snd.set (↑x_2.fst : Int).toNat (IntKind.i64.wrap (IntKind.i64.wrap ((nB (65536 : Nat) (16 : Nat) x_1).getD (↑x_2.fst : Int).toNat (0 : Int) - mdF z) - (↑x_2.snd.fst : Int)))))) =
     some (Blk.fix (D.arr IntKind.i64 (16 : Nat) (x_2.snd.snd.set (↑x_2.fst : Int).toNat (IntKind.i64.wrap (IntKind.i64.wrap ((nB (65536 : Nat) (16 : Nat) x_1).getD (↑x_2.fst : Int).toNat (0 : Int) - mdF z) - (↑x_2.snd.fst : Int)))))) ∧
     True) ∧
     true = true) ∧
     ((IntKind.i64.wrap ((↑x_2.fst : Int) + (1 : Int))).toNat ≤ (16 : Nat) ∧
     (0 : Nat) = lsB (nB (65536 : Nat) (16 : Nat) x_1) (IntKind.i64.wrap ((↑x_2.fst : Int) + (1 : Int))).toNat ∧
     x_2.snd.snd.set (↑x_2.fst : Int).toNat (IntKind.i64.wrap (IntKind.i64.wrap ((nB (65536 : Nat) (16 : Nat) x_1).getD (↑x_2.fst : Int).toNat (0 : Int) - mdF z) - (↑x_2.snd.fst : Int))) = lsD (nB (65536 : Nat) (16 : Nat) x_1) (IntKind.i64.wrap ((↑x_2.fst : Int) + (1 : Int))).toNat) ∧
     (16 : Nat) - (IntKind.i64.wrap ((↑x_2.fst : Int) + (1 : Int))).toNat < (16 : Nat) - x_2.fst
  | false =>
   True ∧
   True ∧
   match (↑x_2.snd.fst : Int) == (1 : Int) with
   | true => ((16 : Nat) ≠ (0 : Nat) ∧ (16 : Nat) = (16 : Nat) ∧ true = true) ∧ (Sk.arr (16 : Nat) = Sk.arr (16 : Nat) ∧ (16 : Nat) ≠ (0 : Nat) ∧ (16 : Nat) = (16 : Nat) ∧ false = false) ∧ (((16 : Nat) ≠ (0 : Nat) ∧ (16 : Nat) = (16 : Nat) ∧ true = true) ∧ True) ∧ D.arr IntKind.i64 (16 : Nat) (nB (65536 : Nat) (16 : Nat) x_1) = F
   | false =>
    ((16 : Nat) ≠ (0 : Nat) ∧ (16 : Nat) = (16 : Nat) ∧ true = true) ∧
    (Sk.arr (16 : Nat) = Sk.arr (16 : Nat) ∧ (16 : Nat) ≠ (0 : Nat) ∧ (16 : Nat) = (16 : Nat) ∧ false = false) ∧
    (True ∧
    (some (Blk.fix (D.arr IntKind.i64 (17 : Nat) (lsR t x))) = some (Blk.fix (D.arr IntKind.i64 (17 : Nat) (lsR t x))) ∧
    some (Blk.fix (D.arr IntKind.i64 (16 : Nat) [(0 : Int), (0 : Int), (0 : Int), (0 : Int), (0 : Int), (0 : Int), (0 : Int), (0 : Int), (0 : Int), (0 : Int), (0 : Int), (0 : Int), (0 : Int), (0 : Int), (0 : Int), (0 : Int)])) =
    some (Blk.fix (D.arr IntKind.i64 (16 : Nat) [(0 : Int), (0 : Int), (0 : Int), (0 : Int), (0 : Int), (0 : Int), (0 : Int), (0 : Int), (0 : Int), (0 : Int), (0 : Int), (0 : Int), (0 : Int), (0 : Int), (0 : Int), (0 : Int)])) ∧
    some (Blk.fix (D.arr IntKind.i64 (16 : Nat) x_2.snd.snd)) = some (Blk.fix (D.arr IntKind.i64 (16 : Nat) (nB (65536 : Nat) (16 : Nat) (vB (65536 : Nat) x_2.snd.snd)))) ∧ True) ∧
    true = true) ∧
    (vB (65536 : Nat) x_2.snd.snd < (115792089237316195423570985008687907853269984665640564039457584007913129639936 : Nat) ∧
    vB (65536 : Nat) x_2.snd.snd % FP =
    vB (65536 : Nat)
    (List.take ((List.take (16 : Nat) (List.drop (0 : Nat) (lsR t x))).length.min ((↑(16 : Nat) : Int).toNat - Int.toNat (0 : Int))) (List.take (16 : Nat) (List.drop (0 : Nat) (lsR t x))) ++
    List.drop ((0 : Nat) + (List.take (16 : Nat) (List.drop (0 : Nat) (lsR t x))).length.min ((↑(16 : Nat) : Int).toNat - Int.toNat (0 : Int))) [(0 : Int), (0 : Int), (0 : Int), (0 : Int), (0 : Int), (0 : Int), (0 : Int), (0 : Int), (0 : Int), (0 : Int), (0 : Int), (0 : Int), (0 : Int), (0 : Int), (0 : Int), (0 : Int)]) %
    FP) ∧
    vB (65536 : Nat) x_2.snd.snd < x_1) := by kernel_rfl
set_option maxRecDepth 100000 in
theorem vc111  (l : List Int) (F : D)  :
    (owed c111 (inv111 l) Try.f111 [dgs l] F) = (
 (True ∧ (16 : Nat) ≠ (0 : Nat)) ∧
 (True ∧ (16 : Nat) ≠ (0 : Nat)) ∧
 True ∧
 (((AV.d (D.val (Value.int IntKind.i64 (0 : Int))) = AV.d (D.val (Value.int IntKind.i64 (↑(Int.toNat (0 : Int)) : Int))) ∧ True) ∧
 (some (Blk.fix (D.arr IntKind.i64 (16 : Nat) [(0 : Int), (0 : Int), (0 : Int), (0 : Int), (0 : Int), (0 : Int), (0 : Int), (0 : Int), (0 : Int), (0 : Int), (0 : Int), (0 : Int), (0 : Int), (0 : Int), (0 : Int), (0 : Int)])) =
 some (Blk.fix (D.arr IntKind.i64 (16 : Nat) [(0 : Int), (0 : Int), (0 : Int), (0 : Int), (0 : Int), (0 : Int), (0 : Int), (0 : Int), (0 : Int), (0 : Int), (0 : Int), (0 : Int), (0 : Int), (0 : Int), (0 : Int), (0 : Int)])) ∧
 some (Blk.fix (D.arr IntKind.i64 (16 : Nat) [(0 : Int), (0 : Int), (0 : Int), (0 : Int), (0 : Int), (0 : Int), (0 : Int), (0 : Int), (0 : Int), (0 : Int), (0 : Int), (0 : Int), (0 : Int), (0 : Int), (0 : Int), (0 : Int)])) =
 some (Blk.fix (D.arr IntKind.i64 (16 : Nat) (nB (65536 : Nat) (Int.toNat (0 : Int)) (vB (65536 : Nat) l) ++ [(0 : Int), (0 : Int), (0 : Int), (0 : Int), (0 : Int), (0 : Int), (0 : Int), (0 : Int), (0 : Int), (0 : Int), (0 : Int), (0 : Int), (0 : Int), (0 : Int), (0 : Int), (0 : Int)]))) ∧
 True) ∧
 true = true) ∧
 Int.toNat (0 : Int) ≤ (16 : Nat)) ∧
 ∀ (x : Nat),
 x ≤ (16 : Nat) →
 true = true ∧
 True ∧
 match decide ((↑x : Int) < (16 : Int)) with
 | true =>
  True ∧
  True ∧
  True ∧
  True ∧
  True ∧
  (∃ (l_1 : List Int), ∃ (i : Int), [D.ints IntKind.i64 l, D.val (Value.int IntKind.i64 (↑x : Int))] = [D.ints IntKind.i64 l_1, D.val (Value.int IntKind.i64 i)] ∧ lenOk l_1) ∧
  ((0 : Int) ≤ (↑x : Int) ∧ (↑x : Int) < (↑(16 : Nat) : Int) ∧ (16 : Nat) = (16 : Nat) ∧ (1 : Nat) = (1 : Nat)) ∧
  (((↑x : Int).toNat < (16 : Nat) ∧ ([] : List Nat) = [] ∧ true = true) ∧ (1 : Nat) ≠ (0 : Nat) ∧ (1 : Nat) = (1 : Nat) ∧ false = false) ∧
  True ∧
  True ∧
  ((AV.d (D.val (Value.int IntKind.i64 (IntKind.i64.wrap ((↑x : Int) + (1 : Int))))) = AV.d (D.val (Value.int IntKind.i64 (↑(IntKind.i64.wrap ((↑x : Int) + (1 : Int))).toNat : Int))) ∧ True) ∧
  (some (Blk.fix (D.arr IntKind.i64 (16 : Nat) [(0 : Int), (0 : Int), (0 : Int), (0 : Int), (0 : Int), (0 : Int), (0 : Int), (0 : Int), (0 : Int), (0 : Int), (0 : Int), (0 : Int), (0 : Int), (0 : Int), (0 : Int), (0 : Int)])) =
  some (Blk.fix (D.arr IntKind.i64 (16 : Nat) [(0 : Int), (0 : Int), (0 : Int), (0 : Int), (0 : Int), (0 : Int), (0 : Int), (0 : Int), (0 : Int), (0 : Int), (0 : Int), (0 : Int), (0 : Int), (0 : Int), (0 : Int), (0 : Int)])) ∧
  some (Blk.fix (D.arr IntKind.i64 (16 : Nat) ((nB (65536 : Nat) x (vB (65536 : Nat) l) ++ List.replicate ((16 : Nat) - x) (0 : Int)).set (↑x : Int).toNat (dig l (↑x : Int))))) =
  some (Blk.fix (D.arr IntKind.i64 (16 : Nat) (nB (65536 : Nat) (IntKind.i64.wrap ((↑x : Int) + (1 : Int))).toNat (vB (65536 : Nat) l) ++ List.replicate ((16 : Nat) - (IntKind.i64.wrap ((↑x : Int) + (1 : Int))).toNat) (0 : Int)))) ∧
  True) ∧
  true = true) ∧
  (IntKind.i64.wrap ((↑x : Int) + (1 : Int))).toNat ≤ (16 : Nat) ∧ (16 : Nat) - (IntKind.i64.wrap ((↑x : Int) + (1 : Int))).toNat < (16 : Nat) - x
 | false => ((16 : Nat) ≠ (0 : Nat) ∧ (16 : Nat) = (16 : Nat) ∧ true = true) ∧ (Sk.arr (16 : Nat) = Sk.arr (16 : Nat) ∧ (16 : Nat) ≠ (0 : Nat) ∧ (16 : Nat) = (16 : Nat) ∧ false = false) ∧ (((16 : Nat) ≠ (0 : Nat) ∧ (16 : Nat) = (16 : Nat) ∧ true = true) ∧ True) ∧ D.arr IntKind.i64 (16 : Nat) (nB (65536 : Nat) x (vB (65536 : Nat) l) ++ List.replicate ((16 : Nat) - x) (0 : Int)) = F) := by kernel_rfl
set_option maxRecDepth 100000 in
theorem vc46  (l : List Int) (F : D)  :
    (owed c46 (fun _ => none) Try.f46 [num4 l] F) = (
 (True ∧ false = false) ∧
 (True ∧ (16 : Nat) ≠ (0 : Nat)) ∧
 ((4 : Nat) ≠ (0 : Nat) ∧ (4 : Nat) = (4 : Nat) ∧ true = true) ∧
 (∃ (l_1 : List Int), [D.arr IntKind.u64 (4 : Nat) l] = [D.arr IntKind.u64 (4 : Nat) l_1] ∧ okw l_1 ∧ l_1.length = (4 : Nat)) ∧
 (0 : Nat) = (0 : Nat) ∧
 (∃ (l_1 : List Int), ∃ (m : List Int), [D.ints IntKind.i64 (dg (vB (18446744073709551616 : Nat) l)), D.ints IntKind.i64 dgF] = [D.ints IntKind.i64 l_1, D.ints IntKind.i64 m] ∧ (okd l_1 ∧ len1 l_1) ∧ (okd m ∧ len1 m) ∧ vB (65536 : Nat) m ≠ (0 : Nat)) ∧
 (∃ (l_1 : List Int), [D.ints IntKind.i64 (dg (vB (65536 : Nat) (dg (vB (18446744073709551616 : Nat) l)) % vB (65536 : Nat) dgF))] = [D.ints IntKind.i64 l_1] ∧ okd l_1 ∧ lenOk l_1) ∧
 (Sk.arr (16 : Nat) = Sk.arr (16 : Nat) ∧ (16 : Nat) ≠ (0 : Nat) ∧ (16 : Nat) = (16 : Nat) ∧ false = false) ∧ (((16 : Nat) ≠ (0 : Nat) ∧ (16 : Nat) = (16 : Nat) ∧ true = true) ∧ True) ∧ D.arr IntKind.i64 (16 : Nat) (nB (65536 : Nat) (16 : Nat) (vB (65536 : Nat) (dg (vB (65536 : Nat) (dg (vB (18446744073709551616 : Nat) l)) % vB (65536 : Nat) dgF)))) = F) := by kernel_rfl
set_option maxRecDepth 100000 in
theorem vc47  (l : List Int) (F : D)  :
    (owed c47 (fun _ => none) Try.f47 [fel l] F) = (
 (True ∧ false = false) ∧
 (True ∧ (4 : Nat) ≠ (0 : Nat)) ∧
 ((0 : Int) ≤ (0 : Int) ∧ (0 : Int) ≤ (↑(16 : Nat) : Int) ∧ (↑(16 : Nat) : Int) ≤ (↑(16 : Nat) : Int) ∧ (16 : Nat) = (16 : Nat) ∧ (1 : Nat) = (1 : Nat)) ∧
 (∃ (l_1 : List Int), [D.ints IntKind.i64 (List.take ((↑(16 : Nat) : Int).toNat - (0 : Nat)) (List.drop (0 : Nat) l))] = [D.ints IntKind.i64 l_1] ∧ okd l_1 ∧ lenOk l_1) ∧
 (Sk.arr (4 : Nat) = Sk.arr (4 : Nat) ∧ (4 : Nat) ≠ (0 : Nat) ∧ (4 : Nat) = (4 : Nat) ∧ false = false) ∧ (((4 : Nat) ≠ (0 : Nat) ∧ (4 : Nat) = (4 : Nat) ∧ true = true) ∧ True) ∧ D.arr IntKind.u64 (4 : Nat) (nB (18446744073709551616 : Nat) (4 : Nat) (vB (65536 : Nat) (List.take ((↑(16 : Nat) : Int).toNat - (0 : Nat)) (List.drop (0 : Nat) l)))) = F) := by kernel_rfl
set_option maxRecDepth 100000 in
theorem vc53  (l m : List Int) (F : D)  :
    (owed c53 (inv53 l m) Try.f53 [fel l, fel m] F) = (
 (True ∧ false = false) ∧
 (True ∧ false = false) ∧
 (True ∧ (16 : Nat) ≠ (0 : Nat)) ∧
 (True ∧ (17 : Nat) ≠ (0 : Nat)) ∧
 True ∧
 (((AV.d (D.val (Value.int IntKind.i64 (0 : Int))) = AV.d (D.val (Value.int IntKind.i64 (↑(Int.toNat (0 : Int)) : Int))) ∧ True) ∧
 (some (Blk.fix (D.arr IntKind.i64 (16 : Nat) l)) = some (Blk.fix (D.arr IntKind.i64 (16 : Nat) l)) ∧
 some (Blk.fix (D.arr IntKind.i64 (16 : Nat) m)) = some (Blk.fix (D.arr IntKind.i64 (16 : Nat) m)) ∧
 some (Blk.fix (D.arr IntKind.i64 (16 : Nat) [(0 : Int), (0 : Int), (0 : Int), (0 : Int), (0 : Int), (0 : Int), (0 : Int), (0 : Int), (0 : Int), (0 : Int), (0 : Int), (0 : Int), (0 : Int), (0 : Int), (0 : Int), (0 : Int)])) =
 some (Blk.fix (D.arr IntKind.i64 (16 : Nat) [(0 : Int), (0 : Int), (0 : Int), (0 : Int), (0 : Int), (0 : Int), (0 : Int), (0 : Int), (0 : Int), (0 : Int), (0 : Int), (0 : Int), (0 : Int), (0 : Int), (0 : Int), (0 : Int)])) ∧
 some (Blk.fix (D.arr IntKind.i64 (17 : Nat) [(0 : Int), (0 : Int), (0 : Int), (0 : Int), (0 : Int), (0 : Int), (0 : Int), (0 : Int), (0 : Int), (0 : Int), (0 : Int), (0 : Int), (0 : Int), (0 : Int), (0 : Int), (0 : Int), (0 : Int)])) =
 some (Blk.fix (D.arr IntKind.i64 (17 : Nat) (plF l m (Int.toNat (0 : Int)) ++ [(0 : Int), (0 : Int), (0 : Int), (0 : Int), (0 : Int), (0 : Int), (0 : Int), (0 : Int), (0 : Int), (0 : Int), (0 : Int), (0 : Int), (0 : Int), (0 : Int), (0 : Int), (0 : Int), (0 : Int)]))) ∧
 True) ∧
 true = true) ∧
 Int.toNat (0 : Int) ≤ (16 : Nat)) ∧
 ∀ (x : Nat),
 x ≤ (16 : Nat) →
 true = true ∧
 True ∧
 match decide ((↑x : Int) < (16 : Int)) with
 | true =>
  True ∧
  True ∧
  True ∧
  True ∧
  ((0 : Int) ≤ (↑x : Int) ∧ (↑x : Int) < (↑(16 : Nat) : Int) ∧ (16 : Nat) = (16 : Nat) ∧ (1 : Nat) = (1 : Nat)) ∧
  ((1 : Nat) ≠ (0 : Nat) ∧ (1 : Nat) = (1 : Nat) ∧ false = false) ∧
  True ∧
  ((0 : Int) ≤ (↑x : Int) ∧ (↑x : Int) < (↑(16 : Nat) : Int) ∧ (16 : Nat) = (16 : Nat) ∧ (1 : Nat) = (1 : Nat)) ∧
  ((1 : Nat) ≠ (0 : Nat) ∧ (1 : Nat) = (1 : Nat) ∧ false = false) ∧
  True ∧
  ((0 : Int) ≤ (↑x : Int) ∧ (↑x : Int) < (↑(17 : Nat) : Int) ∧ (17 : Nat) = (17 : Nat) ∧ (1 : Nat) = (1 : Nat)) ∧
  (((↑x : Int).toNat < (17 : Nat) ∧ ([] : List Nat) = [] ∧ true = true) ∧ (1 : Nat) ≠ (0 : Nat) ∧ (1 : Nat) = (1 : Nat) ∧ false = false) ∧
  True ∧
  True ∧
  ((AV.d (D.val (Value.int IntKind.i64 (IntKind.i64.wrap ((↑x : Int) + (1 : Int))))) = AV.d (D.val (Value.int IntKind.i64 (↑(IntKind.i64.wrap ((↑x : Int) + (1 : Int))).toNat : Int))) ∧ True) ∧
  (some (Blk.fix (D.arr IntKind.i64 (16 : Nat) l)) = some (Blk.fix (D.arr IntKind.i64 (16 : Nat) l)) ∧
  some (Blk.fix (D.arr IntKind.i64 (16 : Nat) m)) = some (Blk.fix (D.arr IntKind.i64 (16 : Nat) m)) ∧
  some (Blk.fix (D.arr IntKind.i64 (16 : Nat) [(0 : Int), (0 : Int), (0 : Int), (0 : Int), (0 : Int), (0 : Int), (0 : Int), (0 : Int), (0 : Int), (0 : Int), (0 : Int), (0 : Int), (0 : Int), (0 : Int), (0 : Int), (0 : Int)])) =
  some (Blk.fix (D.arr IntKind.i64 (16 : Nat) [(0 : Int), (0 : Int), (0 : Int), (0 : Int), (0 : Int), (0 : Int), (0 : Int), (0 : Int), (0 : Int), (0 : Int), (0 : Int), (0 : Int), (0 : Int), (0 : Int), (0 : Int), (0 : Int)])) ∧
  some (Blk.fix (D.arr IntKind.i64 (17 : Nat) ((plF l m x ++ List.replicate ((17 : Nat) - x) (0 : Int)).set (↑x : Int).toNat (IntKind.i64.wrap (l.getD (↑x : Int).toNat (0 : Int) + m.getD (↑x : Int).toNat (0 : Int)))))) =
  some (Blk.fix (D.arr IntKind.i64 (17 : Nat) (plF l m (IntKind.i64.wrap ((↑x : Int) + (1 : Int))).toNat ++ List.replicate ((17 : Nat) - (IntKind.i64.wrap ((↑x : Int) + (1 : Int))).toNat) (0 : Int)))) ∧
  True) ∧
  true = true) ∧
  (IntKind.i64.wrap ((↑x : Int) + (1 : Int))).toNat ≤ (16 : Nat) ∧ (16 : Nat) - (IntKind.i64.wrap ((↑x : Int) + (1 : Int))).toNat < (16 : Nat) - x
 | false =>
  ((17 : Nat) ≠ (0 : Nat) ∧ (17 : Nat) = (17 : Nat) ∧ true = true) ∧
  (∃ (t : List Int), [D.arr IntKind.i64 (17 : Nat) (plF l m x ++ List.replicate ((17 : Nat) - x) (0 : Int))] = [D.arr IntKind.i64 (17 : Nat) t] ∧ okL t) ∧
  (Sk.arr (16 : Nat) = Sk.arr (16 : Nat) ∧ (16 : Nat) ≠ (0 : Nat) ∧ (16 : Nat) = (16 : Nat) ∧ false = false) ∧ (((16 : Nat) ≠ (0 : Nat) ∧ (16 : Nat) = (16 : Nat) ∧ true = true) ∧ True) ∧ D.arr IntKind.i64 (16 : Nat) (nB (65536 : Nat) (16 : Nat) (vB (65536 : Nat) (plF l m x ++ List.replicate ((17 : Nat) - x) (0 : Int)) % FP)) = F) := by kernel_rfl
set_option maxRecDepth 100000 in
theorem vc45  (l m : List Int) (F : D)  :
    (owed c53 (inv45 l m) Try.f45 [fel l, fel m] F) = (
 (True ∧ false = false) ∧
 (True ∧ false = false) ∧
 (True ∧ (16 : Nat) ≠ (0 : Nat)) ∧
 (True ∧ (17 : Nat) ≠ (0 : Nat)) ∧
 True ∧
 (((AV.d (D.val (Value.int IntKind.i64 (0 : Int))) = AV.d (D.val (Value.int IntKind.i64 (↑(Int.toNat (0 : Int)) : Int))) ∧ True) ∧
 (some (Blk.fix (D.arr IntKind.i64 (16 : Nat) l)) = some (Blk.fix (D.arr IntKind.i64 (16 : Nat) l)) ∧
 some (Blk.fix (D.arr IntKind.i64 (16 : Nat) m)) = some (Blk.fix (D.arr IntKind.i64 (16 : Nat) m)) ∧
 some (Blk.fix (D.arr IntKind.i64 (16 : Nat) [(0 : Int), (0 : Int), (0 : Int), (0 : Int), (0 : Int), (0 : Int), (0 : Int), (0 : Int), (0 : Int), (0 : Int), (0 : Int), (0 : Int), (0 : Int), (0 : Int), (0 : Int), (0 : Int)])) =
 some (Blk.fix (D.arr IntKind.i64 (16 : Nat) [(0 : Int), (0 : Int), (0 : Int), (0 : Int), (0 : Int), (0 : Int), (0 : Int), (0 : Int), (0 : Int), (0 : Int), (0 : Int), (0 : Int), (0 : Int), (0 : Int), (0 : Int), (0 : Int)])) ∧
 some (Blk.fix (D.arr IntKind.i64 (17 : Nat) [(0 : Int), (0 : Int), (0 : Int), (0 : Int), (0 : Int), (0 : Int), (0 : Int), (0 : Int), (0 : Int), (0 : Int), (0 : Int), (0 : Int), (0 : Int), (0 : Int), (0 : Int), (0 : Int), (0 : Int)])) =
 some (Blk.fix (D.arr IntKind.i64 (17 : Nat) (lsF l m (Int.toNat (0 : Int)) ++ [(0 : Int), (0 : Int), (0 : Int), (0 : Int), (0 : Int), (0 : Int), (0 : Int), (0 : Int), (0 : Int), (0 : Int), (0 : Int), (0 : Int), (0 : Int), (0 : Int), (0 : Int), (0 : Int), (0 : Int)]))) ∧
 True) ∧
 true = true) ∧
 Int.toNat (0 : Int) ≤ (16 : Nat)) ∧
 ∀ (x : Nat),
 x ≤ (16 : Nat) →
 true = true ∧
 True ∧
 match decide ((↑x : Int) < (16 : Int)) with
 | true =>
  True ∧
  True ∧
  True ∧
  True ∧
  True ∧
  (match (↑x : Int) == (0 : Int) with
  | true =>
   True ∧
   ((AV.d (D.val (Value.int IntKind.i64 (262068 : Int))) = AV.d (D.val (Value.int IntKind.i64 (miF (↑x : Int).toNat))) ∧ True) ∧
   (some (Blk.fix (D.arr IntKind.i64 (16 : Nat) l)) = some (Blk.fix (D.arr IntKind.i64 (16 : Nat) l)) ∧
   some (Blk.fix (D.arr IntKind.i64 (16 : Nat) m)) = some (Blk.fix (D.arr IntKind.i64 (16 : Nat) m)) ∧
   some (Blk.fix (D.arr IntKind.i64 (16 : Nat) [(0 : Int), (0 : Int), (0 : Int), (0 : Int), (0 : Int), (0 : Int), (0 : Int), (0 : Int), (0 : Int), (0 : Int), (0 : Int), (0 : Int), (0 : Int), (0 : Int), (0 : Int), (0 : Int)])) =
   some (Blk.fix (D.arr IntKind.i64 (16 : Nat) [(0 : Int), (0 : Int), (0 : Int), (0 : Int), (0 : Int), (0 : Int), (0 : Int), (0 : Int), (0 : Int), (0 : Int), (0 : Int), (0 : Int), (0 : Int), (0 : Int), (0 : Int), (0 : Int)])) ∧
   some (Blk.fix (D.arr IntKind.i64 (17 : Nat) (lsF l m x ++ List.replicate ((17 : Nat) - x) (0 : Int)))) = some (Blk.fix (D.arr IntKind.i64 (17 : Nat) (lsF l m x ++ List.replicate ((17 : Nat) - x) (0 : Int)))) ∧ True) ∧
   true = true) ∧
   (↑(↑x : Int).toNat : Int) = (↑x : Int)
  | false =>
   True ∧
   True ∧
   match (↑x : Int) == (15 : Int) with
   | true =>
    True ∧
    ((AV.d (D.val (Value.int IntKind.i64 (131068 : Int))) = AV.d (D.val (Value.int IntKind.i64 (miF (↑x : Int).toNat))) ∧ True) ∧
    (some (Blk.fix (D.arr IntKind.i64 (16 : Nat) l)) = some (Blk.fix (D.arr IntKind.i64 (16 : Nat) l)) ∧
    some (Blk.fix (D.arr IntKind.i64 (16 : Nat) m)) = some (Blk.fix (D.arr IntKind.i64 (16 : Nat) m)) ∧
    some (Blk.fix (D.arr IntKind.i64 (16 : Nat) [(0 : Int), (0 : Int), (0 : Int), (0 : Int), (0 : Int), (0 : Int), (0 : Int), (0 : Int), (0 : Int), (0 : Int), (0 : Int), (0 : Int), (0 : Int), (0 : Int), (0 : Int), (0 : Int)])) =
    some (Blk.fix (D.arr IntKind.i64 (16 : Nat) [(0 : Int), (0 : Int), (0 : Int), (0 : Int), (0 : Int), (0 : Int), (0 : Int), (0 : Int), (0 : Int), (0 : Int), (0 : Int), (0 : Int), (0 : Int), (0 : Int), (0 : Int), (0 : Int)])) ∧
    some (Blk.fix (D.arr IntKind.i64 (17 : Nat) (lsF l m x ++ List.replicate ((17 : Nat) - x) (0 : Int)))) = some (Blk.fix (D.arr IntKind.i64 (17 : Nat) (lsF l m x ++ List.replicate ((17 : Nat) - x) (0 : Int)))) ∧ True) ∧
    true = true) ∧
    (↑(↑x : Int).toNat : Int) = (↑x : Int)
   | false =>
    ((AV.d (D.val (Value.int IntKind.i64 (262140 : Int))) = AV.d (D.val (Value.int IntKind.i64 (miF (↑x : Int).toNat))) ∧ True) ∧
    (some (Blk.fix (D.arr IntKind.i64 (16 : Nat) l)) = some (Blk.fix (D.arr IntKind.i64 (16 : Nat) l)) ∧
    some (Blk.fix (D.arr IntKind.i64 (16 : Nat) m)) = some (Blk.fix (D.arr IntKind.i64 (16 : Nat) m)) ∧
    some (Blk.fix (D.arr IntKind.i64 (16 : Nat) [(0 : Int), (0 : Int), (0 : Int), (0 : Int), (0 : Int), (0 : Int), (0 : Int), (0 : Int), (0 : Int), (0 : Int), (0 : Int), (0 : Int), (0 : Int), (0 : Int), (0 : Int), (0 : Int)])) =
    some (Blk.fix (D.arr IntKind.i64 (16 : Nat) [(0 : Int), (0 : Int), (0 : Int), (0 : Int), (0 : Int), (0 : Int), (0 : Int), (0 : Int), (0 : Int), (0 : Int), (0 : Int), (0 : Int), (0 : Int), (0 : Int), (0 : Int), (0 : Int)])) ∧
    some (Blk.fix (D.arr IntKind.i64 (17 : Nat) (lsF l m x ++ List.replicate ((17 : Nat) - x) (0 : Int)))) = some (Blk.fix (D.arr IntKind.i64 (17 : Nat) (lsF l m x ++ List.replicate ((17 : Nat) - x) (0 : Int)))) ∧ True) ∧
    true = true) ∧
    (↑(↑x : Int).toNat : Int) = (↑x : Int)) ∧
   ∀ (z : Nat),
   (↑z : Int) = (↑x : Int) →
   true = true ∧
   True ∧
   True ∧
   ((0 : Int) ≤ (↑x : Int) ∧ (↑x : Int) < (↑(16 : Nat) : Int) ∧ (16 : Nat) = (16 : Nat) ∧ (1 : Nat) = (1 : Nat)) ∧
   ((1 : Nat) ≠ (0 : Nat) ∧ (1 : Nat) = (1 : Nat) ∧ false = false) ∧
   True ∧
   True ∧
   True ∧
   ((0 : Int) ≤ (↑x : Int) ∧ (↑x : Int) < (↑(16 : Nat) : Int) ∧ (16 : Nat) = (16 : Nat) ∧ (1 : Nat) = (1 : Nat)) ∧
   ((1 : Nat) ≠ (0 : Nat) ∧ (1 : Nat) = (1 : Nat) ∧ false = false) ∧
   True ∧
   ((0 : Int) ≤ (↑x : Int) ∧ (↑x : Int) < (↑(17 : Nat) : Int) ∧ (17 : Nat) = (17 : Nat) ∧ (1 : Nat) = (1 : Nat)) ∧
   (((↑x : Int).toNat < (17 : Nat) ∧ ([] : List Nat) = [] ∧ true = true) ∧ (1 : Nat) ≠ (0 : Nat) ∧ (1 : Nat) = (1 : Nat) ∧ false = false) ∧
   True ∧
   True ∧
   ((AV.d (D.val (Value.int IntKind.i64 (IntKind.i64.wrap ((↑x : Int) + (1 : Int))))) = AV.d (D.val (Value.int IntKind.i64 (↑(IntKind.i64.wrap ((↑x : Int) + (1 : Int))).toNat : Int))) ∧ True) ∧
   (some (Blk.fix (D.arr IntKind.i64 (16 : Nat) l)) = some (Blk.fix (D.arr IntKind.i64 (16 : Nat) l)) ∧
   some (Blk.fix (D.arr IntKind.i64 (16 : Nat) m)) = some (Blk.fix (D.arr IntKind.i64 (16 : Nat) m)) ∧
   some (Blk.fix (D.arr IntKind.i64 (16 : Nat) [(0 : Int), (0 : Int), (0 : Int), (0 : Int), (0 : Int), (0 : Int), (0 : Int), (0 : Int), (0 : Int), (0 : Int), (0 : Int), (0 : Int), (0 : Int), (0 : Int), (0 : Int), (0 : Int)])) =
   some (Blk.fix (D.arr IntKind.i64 (16 : Nat) [(0 : Int), (0 : Int), (0 : Int), (0 : Int), (0 : Int), (0 : Int), (0 : Int), (0 : Int), (0 : Int), (0 : Int), (0 : Int), (0 : Int), (0 : Int), (0 : Int), (0 : Int), (0 : Int)])) ∧
   some (Blk.fix (D.arr IntKind.i64 (17 : Nat) ((lsF l m x ++ List.replicate ((17 : Nat) - x) (0 : Int)).set (↑x : Int).toNat (IntKind.i64.wrap (IntKind.i64.wrap (l.getD (↑x : Int).toNat (0 : Int) + miF z) - m.getD (↑x : Int).toNat (0 : Int)))))) =
   some (Blk.fix (D.arr IntKind.i64 (17 : Nat) (lsF l m (IntKind.i64.wrap ((↑x : Int) + (1 : Int))).toNat ++ List.replicate ((17 : Nat) - (IntKind.i64.wrap ((↑x : Int) + (1 : Int))).toNat) (0 : Int)))) ∧
   True) ∧
   true = true) ∧
   (IntKind.i64.wrap ((↑x : Int) + (1 : Int))).toNat ≤ (16 : Nat) ∧ (16 : Nat) - (IntKind.i64.wrap ((↑x : Int) + (1 : Int))).toNat < (16 : Nat) - x
 | false =>
  ((17 : Nat) ≠ (0 : Nat) ∧ (17 : Nat) = (17 : Nat) ∧ true = true) ∧
  (∃ (t : List Int), [D.arr IntKind.i64 (17 : Nat) (lsF l m x ++ List.replicate ((17 : Nat) - x) (0 : Int))] = [D.arr IntKind.i64 (17 : Nat) t] ∧ okL t) ∧
  (Sk.arr (16 : Nat) = Sk.arr (16 : Nat) ∧ (16 : Nat) ≠ (0 : Nat) ∧ (16 : Nat) = (16 : Nat) ∧ false = false) ∧ (((16 : Nat) ≠ (0 : Nat) ∧ (16 : Nat) = (16 : Nat) ∧ true = true) ∧ True) ∧ D.arr IntKind.i64 (16 : Nat) (nB (65536 : Nat) (16 : Nat) (vB (65536 : Nat) (lsF l m x ++ List.replicate ((17 : Nat) - x) (0 : Int)) % FP)) = F) := by kernel_rfl
set_option maxRecDepth 100000 in
theorem vc54  (l m : List Int) (F : D)  :
    (owed c53 (inv54 l m) Try.f54 [fel l, fel m] F) = (
 (True ∧ false = false) ∧
 (True ∧ false = false) ∧
 (True ∧ (16 : Nat) ≠ (0 : Nat)) ∧
 (True ∧ (32 : Nat) ≠ (0 : Nat)) ∧
 True ∧
 (((AV.d (D.val (Value.int IntKind.i64 (0 : Int))) = AV.d (D.val (Value.int IntKind.i64 (↑(0 : Nat) : Int))) ∧ True) ∧
 (some (Blk.fix (D.arr IntKind.i64 (16 : Nat) l)) = some (Blk.fix (D.arr IntKind.i64 (16 : Nat) l)) ∧
 some (Blk.fix (D.arr IntKind.i64 (16 : Nat) m)) = some (Blk.fix (D.arr IntKind.i64 (16 : Nat) m)) ∧
 some (Blk.fix (D.arr IntKind.i64 (16 : Nat) [(0 : Int), (0 : Int), (0 : Int), (0 : Int), (0 : Int), (0 : Int), (0 : Int), (0 : Int), (0 : Int), (0 : Int), (0 : Int), (0 : Int), (0 : Int), (0 : Int), (0 : Int), (0 : Int)])) =
 some (Blk.fix (D.arr IntKind.i64 (16 : Nat) [(0 : Int), (0 : Int), (0 : Int), (0 : Int), (0 : Int), (0 : Int), (0 : Int), (0 : Int), (0 : Int), (0 : Int), (0 : Int), (0 : Int), (0 : Int), (0 : Int), (0 : Int), (0 : Int)])) ∧
 some
 (Blk.fix
 (D.arr IntKind.i64 (32 : Nat)
 [(0 : Int), (0 : Int), (0 : Int), (0 : Int), (0 : Int), (0 : Int), (0 : Int), (0 : Int), (0 : Int), (0 : Int), (0 : Int), (0 : Int), (0 : Int), (0 : Int), (0 : Int), (0 : Int), (0 : Int), (0 : Int), (0 : Int), (0 : Int), (0 : Int), (0 : Int), (0 : Int), (0 : Int), (0 : Int), (0 : Int), (0 : Int), (0 : Int), (0 : Int), (0 : Int), (0 : Int), (0 : Int)])) =
 some
 (Blk.fix
 (D.arr IntKind.i64 (32 : Nat)
 [(0 : Int), (0 : Int), (0 : Int), (0 : Int), (0 : Int), (0 : Int), (0 : Int), (0 : Int), (0 : Int), (0 : Int), (0 : Int), (0 : Int), (0 : Int), (0 : Int), (0 : Int), (0 : Int), (0 : Int), (0 : Int), (0 : Int), (0 : Int), (0 : Int), (0 : Int), (0 : Int), (0 : Int), (0 : Int), (0 : Int), (0 : Int), (0 : Int), (0 : Int), (0 : Int), (0 : Int), (0 : Int)])) ∧
 True) ∧
 true = true) ∧
 (0 : Nat) ≤ (16 : Nat) ∧
 ByI l m (0 : Nat) [(0 : Int), (0 : Int), (0 : Int), (0 : Int), (0 : Int), (0 : Int), (0 : Int), (0 : Int), (0 : Int), (0 : Int), (0 : Int), (0 : Int), (0 : Int), (0 : Int), (0 : Int), (0 : Int), (0 : Int), (0 : Int), (0 : Int), (0 : Int), (0 : Int), (0 : Int), (0 : Int), (0 : Int), (0 : Int), (0 : Int), (0 : Int), (0 : Int), (0 : Int), (0 : Int), (0 : Int), (0 : Int)]) ∧
 ∀ (x : Nat × List Int),
 x.fst ≤ (16 : Nat) ∧ ByI l m x.fst x.snd →
 true = true ∧
 True ∧
 match decide ((↑x.fst : Int) < (16 : Int)) with
 | true =>
  True ∧
  True ∧
  True ∧
  (((AV.d (D.val (Value.int IntKind.i64 (0 : Int))) = AV.d (D.val (Value.int IntKind.i64 (↑(0 : Nat) : Int))) ∧ True) ∧
  (some (Blk.fix (D.arr IntKind.i64 (16 : Nat) l)) = some (Blk.fix (D.arr IntKind.i64 (16 : Nat) l)) ∧
  some (Blk.fix (D.arr IntKind.i64 (16 : Nat) m)) = some (Blk.fix (D.arr IntKind.i64 (16 : Nat) m)) ∧
  some (Blk.fix (D.arr IntKind.i64 (16 : Nat) [(0 : Int), (0 : Int), (0 : Int), (0 : Int), (0 : Int), (0 : Int), (0 : Int), (0 : Int), (0 : Int), (0 : Int), (0 : Int), (0 : Int), (0 : Int), (0 : Int), (0 : Int), (0 : Int)])) =
  some (Blk.fix (D.arr IntKind.i64 (16 : Nat) [(0 : Int), (0 : Int), (0 : Int), (0 : Int), (0 : Int), (0 : Int), (0 : Int), (0 : Int), (0 : Int), (0 : Int), (0 : Int), (0 : Int), (0 : Int), (0 : Int), (0 : Int), (0 : Int)])) ∧
  some (Blk.fix (D.arr IntKind.i64 (32 : Nat) x.snd)) = some (Blk.fix (D.arr IntKind.i64 (32 : Nat) x.snd)) ∧ True) ∧
  true = true) ∧
  (0 : Nat) ≤ (16 : Nat) ∧ ByJ l m (↑x.fst : Int).toNat (0 : Nat) x.snd) ∧
  ∀ (x_1 : Nat × List Int),
  x_1.fst ≤ (16 : Nat) ∧ ByJ l m (↑x.fst : Int).toNat x_1.fst x_1.snd →
  true = true ∧
  True ∧
  match decide ((↑x_1.fst : Int) < (16 : Int)) with
  | true =>
   True ∧
   True ∧
   True ∧
   True ∧
   True ∧
   ((0 : Int) ≤ IntKind.i64.wrap ((↑x.fst : Int) + (↑x_1.fst : Int)) ∧ IntKind.i64.wrap ((↑x.fst : Int) + (↑x_1.fst : Int)) < (↑(32 : Nat) : Int) ∧ (32 : Nat) = (32 : Nat) ∧ (1 : Nat) = (1 : Nat)) ∧
   ((1 : Nat) ≠ (0 : Nat) ∧ (1 : Nat) = (1 : Nat) ∧ false = false) ∧
   True ∧
   ((0 : Int) ≤ (↑x.fst : Int) ∧ (↑x.fst : Int) < (↑(16 : Nat) : Int) ∧ (16 : Nat) = (16 : Nat) ∧ (1 : Nat) = (1 : Nat)) ∧
   ((1 : Nat) ≠ (0 : Nat) ∧ (1 : Nat) = (1 : Nat) ∧ false = false) ∧
   True ∧
   ((0 : Int) ≤ (↑x_1.fst : Int) ∧ (↑x_1.fst : Int) < (↑(16 : Nat) : Int) ∧ (16 : Nat) = (16 : Nat) ∧ (1 : Nat) = (1 : Nat)) ∧
   ((1 : Nat) ≠ (0 : Nat) ∧ (1 : Nat) = (1 : Nat) ∧ false = false) ∧
   True ∧
   True ∧
   ((0 : Int) ≤ IntKind.i64.wrap ((↑x.fst : Int) + (↑x_1.fst : Int)) ∧ IntKind.i64.wrap ((↑x.fst : Int) + (↑x_1.fst : Int)) < (↑(32 : Nat) : Int) ∧ (32 : Nat) = (32 : Nat) ∧ (1 : Nat) = (1 : Nat)) ∧
   (((IntKind.i64.wrap ((↑x.fst : Int) + (↑x_1.fst : Int))).toNat < (32 : Nat) ∧ ([] : List Nat) = [] ∧ true = true) ∧ (1 : Nat) ≠ (0 : Nat) ∧ (1 : Nat) = (1 : Nat) ∧ false = false) ∧
   True ∧
   True ∧
   ((AV.d (D.val (Value.int IntKind.i64 (IntKind.i64.wrap ((↑x_1.fst : Int) + (1 : Int))))) = AV.d (D.val (Value.int IntKind.i64 (↑(IntKind.i64.wrap ((↑x_1.fst : Int) + (1 : Int))).toNat : Int))) ∧ True) ∧
   (some (Blk.fix (D.arr IntKind.i64 (16 : Nat) l)) = some (Blk.fix (D.arr IntKind.i64 (16 : Nat) l)) ∧
   some (Blk.fix (D.arr IntKind.i64 (16 : Nat) m)) = some (Blk.fix (D.arr IntKind.i64 (16 : Nat) m)) ∧
   some (Blk.fix (D.arr IntKind.i64 (16 : Nat) [(0 : Int), (0 : Int), (0 : Int), (0 : Int), (0 : Int), (0 : Int), (0 : Int), (0 : Int), (0 : Int), (0 : Int), (0 : Int), (0 : Int), (0 : Int), (0 : Int), (0 : Int), (0 : Int)])) =
   some (Blk.fix (D.arr IntKind.i64 (16 : Nat) [(0 : Int), (0 : Int), (0 : Int), (0 : Int), (0 : Int), (0 : Int), (0 : Int), (0 : Int), (0 : Int), (0 : Int), (0 : Int), (0 : Int), (0 : Int), (0 : Int), (0 : Int), (0 : Int)])) ∧
   some
   (Blk.fix
   (D.arr IntKind.i64 (32 : Nat)
   (x_1.snd.set (IntKind.i64.wrap ((↑x.fst : Int) + (↑x_1.fst : Int))).toNat (IntKind.i64.wrap (x_1.snd.getD (IntKind.i64.wrap ((↑x.fst : Int) + (↑x_1.fst : Int))).toNat (0 : Int) + IntKind.i64.wrap (l.getD (↑x.fst : Int).toNat (0 : Int) * m.getD (↑x_1.fst : Int).toNat (0 : Int))))))) =
   some
   (Blk.fix
   (D.arr IntKind.i64 (32 : Nat)
   (x_1.snd.set (IntKind.i64.wrap ((↑x.fst : Int) + (↑x_1.fst : Int))).toNat (IntKind.i64.wrap (x_1.snd.getD (IntKind.i64.wrap ((↑x.fst : Int) + (↑x_1.fst : Int))).toNat (0 : Int) + IntKind.i64.wrap (l.getD (↑x.fst : Int).toNat (0 : Int) * m.getD (↑x_1.fst : Int).toNat (0 : Int))))))) ∧
   True) ∧
   true = true) ∧
   ((IntKind.i64.wrap ((↑x_1.fst : Int) + (1 : Int))).toNat ≤ (16 : Nat) ∧
   ByJ l m (↑x.fst : Int).toNat (IntKind.i64.wrap ((↑x_1.fst : Int) + (1 : Int))).toNat
   (x_1.snd.set (IntKind.i64.wrap ((↑x.fst : Int) + (↑x_1.fst : Int))).toNat (IntKind.i64.wrap (x_1.snd.getD (IntKind.i64.wrap ((↑x.fst : Int) + (↑x_1.fst : Int))).toNat (0 : Int) + IntKind.i64.wrap (l.getD (↑x.fst : Int).toNat (0 : Int) * m.getD (↑x_1.fst : Int).toNat (0 : Int)))))) ∧
   (16 : Nat) - (IntKind.i64.wrap ((↑x_1.fst : Int) + (1 : Int))).toNat < (16 : Nat) - x_1.fst
  | false =>
   True ∧
   True ∧
   ((AV.d (D.val (Value.int IntKind.i64 (IntKind.i64.wrap ((↑x.fst : Int) + (1 : Int))))) = AV.d (D.val (Value.int IntKind.i64 (↑(IntKind.i64.wrap ((↑x.fst : Int) + (1 : Int))).toNat : Int))) ∧ True) ∧
   (some (Blk.fix (D.arr IntKind.i64 (16 : Nat) l)) = some (Blk.fix (D.arr IntKind.i64 (16 : Nat) l)) ∧
   some (Blk.fix (D.arr IntKind.i64 (16 : Nat) m)) = some (Blk.fix (D.arr IntKind.i64 (16 : Nat) m)) ∧
   some (Blk.fix (D.arr IntKind.i64 (16 : Nat) [(0 : Int), (0 : Int), (0 : Int), (0 : Int), (0 : Int), (0 : Int), (0 : Int), (0 : Int), (0 : Int), (0 : Int), (0 : Int), (0 : Int), (0 : Int), (0 : Int), (0 : Int), (0 : Int)])) =
   some (Blk.fix (D.arr IntKind.i64 (16 : Nat) [(0 : Int), (0 : Int), (0 : Int), (0 : Int), (0 : Int), (0 : Int), (0 : Int), (0 : Int), (0 : Int), (0 : Int), (0 : Int), (0 : Int), (0 : Int), (0 : Int), (0 : Int), (0 : Int)])) ∧
   some (Blk.fix (D.arr IntKind.i64 (32 : Nat) x_1.snd)) = some (Blk.fix (D.arr IntKind.i64 (32 : Nat) x_1.snd)) ∧ True) ∧
   true = true) ∧
   ((IntKind.i64.wrap ((↑x.fst : Int) + (1 : Int))).toNat ≤ (16 : Nat) ∧ ByI l m (IntKind.i64.wrap ((↑x.fst : Int) + (1 : Int))).toNat x_1.snd) ∧ (16 : Nat) - (IntKind.i64.wrap ((↑x.fst : Int) + (1 : Int))).toNat < (16 : Nat) - x.fst
 | false =>
  (True ∧ (17 : Nat) ≠ (0 : Nat)) ∧
  True ∧
  True ∧
  (((AV.d (D.val (Value.int IntKind.i64 (0 : Int))) = AV.d (D.val (Value.int IntKind.i64 (↑(0 : Nat) : Int))) ∧ AV.d (D.val (Value.int IntKind.i64 (0 : Int))) = AV.d (D.val (Value.int IntKind.i64 (↑(0 : Nat) : Int))) ∧ True) ∧
  (some (Blk.fix (D.arr IntKind.i64 (16 : Nat) l)) = some (Blk.fix (D.arr IntKind.i64 (16 : Nat) l)) ∧
  some (Blk.fix (D.arr IntKind.i64 (16 : Nat) m)) = some (Blk.fix (D.arr IntKind.i64 (16 : Nat) m)) ∧
  some (Blk.fix (D.arr IntKind.i64 (16 : Nat) [(0 : Int), (0 : Int), (0 : Int), (0 : Int), (0 : Int), (0 : Int), (0 : Int), (0 : Int), (0 : Int), (0 : Int), (0 : Int), (0 : Int), (0 : Int), (0 : Int), (0 : Int), (0 : Int)])) =
  some (Blk.fix (D.arr IntKind.i64 (16 : Nat) [(0 : Int), (0 : Int), (0 : Int), (0 : Int), (0 : Int), (0 : Int), (0 : Int), (0 : Int), (0 : Int), (0 : Int), (0 : Int), (0 : Int), (0 : Int), (0 : Int), (0 : Int), (0 : Int)])) ∧
  some (Blk.fix (D.arr IntKind.i64 (32 : Nat) x.snd)) = some (Blk.fix (D.arr IntKind.i64 (32 : Nat) x.snd)) ∧
  some (Blk.fix (D.arr IntKind.i64 (17 : Nat) [(0 : Int), (0 : Int), (0 : Int), (0 : Int), (0 : Int), (0 : Int), (0 : Int), (0 : Int), (0 : Int), (0 : Int), (0 : Int), (0 : Int), (0 : Int), (0 : Int), (0 : Int), (0 : Int), (0 : Int)])) =
  some (Blk.fix (D.arr IntKind.i64 (17 : Nat) [(0 : Int), (0 : Int), (0 : Int), (0 : Int), (0 : Int), (0 : Int), (0 : Int), (0 : Int), (0 : Int), (0 : Int), (0 : Int), (0 : Int), (0 : Int), (0 : Int), (0 : Int), (0 : Int), (0 : Int)])) ∧
  True) ∧
  true = true) ∧
  (0 : Nat) ≤ (16 : Nat) ∧
  (0 : Nat) = byS x.snd (0 : Nat) / (1 : Nat) ∧
  [(0 : Int), (0 : Int), (0 : Int), (0 : Int), (0 : Int), (0 : Int), (0 : Int), (0 : Int), (0 : Int), (0 : Int), (0 : Int), (0 : Int), (0 : Int), (0 : Int), (0 : Int), (0 : Int), (0 : Int)] =
  nB (65536 : Nat) (0 : Nat) (byS x.snd (0 : Nat)) ++ [(0 : Int), (0 : Int), (0 : Int), (0 : Int), (0 : Int), (0 : Int), (0 : Int), (0 : Int), (0 : Int), (0 : Int), (0 : Int), (0 : Int), (0 : Int), (0 : Int), (0 : Int), (0 : Int), (0 : Int)]) ∧
  ∀ (x_1 : Nat × Nat × List Int),
  x_1.fst ≤ (16 : Nat) ∧ x_1.snd.fst = byS x.snd x_1.fst / (65536 : Nat) ^ x_1.fst ∧ x_1.snd.snd = nB (65536 : Nat) x_1.fst (byS x.snd x_1.fst) ++ List.replicate ((17 : Nat) - x_1.fst) (0 : Int) →
  true = true ∧
  True ∧
  match decide ((↑x_1.fst : Int) < (16 : Int)) with
  | true =>
   True ∧
   True ∧
   True ∧
   True ∧
   ((0 : Int) ≤ (↑x_1.fst : Int) ∧ (↑x_1.fst : Int) < (↑(32 : Nat) : Int) ∧ (32 : Nat) = (32 : Nat) ∧ (1 : Nat) = (1 : Nat)) ∧
   ((1 : Nat) ≠ (0 : Nat) ∧ (1 : Nat) = (1 : Nat) ∧ false = false) ∧
   True ∧
   True ∧
   ((0 : Int) ≤ IntKind.i64.wrap ((↑x_1.fst : Int) + (16 : Int)) ∧ IntKind.i64.wrap ((↑x_1.fst : Int) + (16 : Int)) < (↑(32 : Nat) : Int) ∧ (32 : Nat) = (32 : Nat) ∧ (1 : Nat) = (1 : Nat)) ∧
   ((1 : Nat) ≠ (0 : Nat) ∧ (1 : Nat) = (1 : Nat) ∧ false = false) ∧
   True ∧
   True ∧
   True ∧
   True ∧
   True ∧
   True ∧
   True ∧
   ((0 : Int) ≤ (↑x_1.fst : Int) ∧ (↑x_1.fst : Int) < (↑(17 : Nat) : Int) ∧ (17 : Nat) = (17 : Nat) ∧ (1 : Nat) = (1 : Nat)) ∧
   (((↑x_1.fst : Int).toNat < (17 : Nat) ∧ ([] : List Nat) = [] ∧ true = true) ∧ (1 : Nat) ≠ (0 : Nat) ∧ (1 : Nat) = (1 : Nat) ∧ false = false) ∧
   True ∧
   (0 : Int) ≤ (16 : Int) ∧
   True ∧
   True ∧
   True ∧
   ((AV.d (D.val (Value.int IntKind.i64 (IntKind.i64.wrap ((↑x_1.fst : Int) + (1 : Int))))) = AV.d (D.val (Value.int IntKind.i64 (↑(IntKind.i64.wrap ((↑x_1.fst : Int) + (1 : Int))).toNat : Int))) ∧
   AV.d (D.val (Value.int IntKind.i64 (ishr IntKind.i64 (IntKind.i64.wrap ((↑x_1.snd.fst : Int) + IntKind.i64.wrap (x.snd.getD (↑x_1.fst : Int).toNat (0 : Int) + IntKind.i64.wrap ((38 : Int) * x.snd.getD (IntKind.i64.wrap ((↑x_1.fst : Int) + (16 : Int))).toNat (0 : Int))))) (16 : Int)))) =
   AV.d
   (D.val (Value.int IntKind.i64 (↑(ishr IntKind.i64 (IntKind.i64.wrap ((↑x_1.snd.fst : Int) + IntKind.i64.wrap (x.snd.getD (↑x_1.fst : Int).toNat (0 : Int) + IntKind.i64.wrap ((38 : Int) * x.snd.getD (IntKind.i64.wrap ((↑x_1.fst : Int) + (16 : Int))).toNat (0 : Int))))) (16 : Int)).toNat : Int))) ∧
   True) ∧
   (some (Blk.fix (D.arr IntKind.i64 (16 : Nat) l)) = some (Blk.fix (D.arr IntKind.i64 (16 : Nat) l)) ∧
   some (Blk.fix (D.arr IntKind.i64 (16 : Nat) m)) = some (Blk.fix (D.arr IntKind.i64 (16 : Nat) m)) ∧
   some (Blk.fix (D.arr IntKind.i64 (16 : Nat) [(0 : Int), (0 : Int), (0 : Int), (0 : Int), (0 : Int), (0 : Int), (0 : Int), (0 : Int), (0 : Int), (0 : Int), (0 : Int), (0 : Int), (0 : Int), (0 : Int), (0 : Int), (0 : Int)])) =
   some (Blk.fix (D.arr IntKind.i64 (16 : Nat) [(0 : Int), (0 : Int), (0 : Int), (0 : Int), (0 : Int), (0 : Int), (0 : Int), (0 : Int), (0 : Int), (0 : Int), (0 : Int), (0 : Int), (0 : Int), (0 : Int), (0 : Int), (0 : Int)])) ∧
   some (Blk.fix (D.arr IntKind.i64 (32 : Nat) x.snd)) = some (Blk.fix (D.arr IntKind.i64 (32 : Nat) x.snd)) ∧
   some
   (Blk.fix
   (D.arr IntKind.i64 (17 : Nat)
   (x_1.snd.snd.set (↑x_1.fst : Int).toNat
   (iand IntKind.i64 (IntKind.i64.wrap ((↑x_1.snd.fst : Int) + IntKind.i64.wrap (x.snd.getD (↑x_1.fst : Int).toNat (0 : Int) + IntKind.i64.wrap ((38 : Int) * x.snd.getD (IntKind.i64.wrap ((↑x_1.fst : Int) + (16 : Int))).toNat (0 : Int))))) (65535 : Int))))) =
   some
   (Blk.fix
   (D.arr IntKind.i64 (17 : Nat)
   (x_1.snd.snd.set (↑x_1.fst : Int).toNat
   (iand IntKind.i64 (IntKind.i64.wrap ((↑x_1.snd.fst : Int) + IntKind.i64.wrap (x.snd.getD (↑x_1.fst : Int).toNat (0 : Int) + IntKind.i64.wrap ((38 : Int) * x.snd.getD (IntKind.i64.wrap ((↑x_1.fst : Int) + (16 : Int))).toNat (0 : Int))))) (65535 : Int))))) ∧
   True) ∧
   true = true) ∧
   ((IntKind.i64.wrap ((↑x_1.fst : Int) + (1 : Int))).toNat ≤ (16 : Nat) ∧
   (ishr IntKind.i64 (IntKind.i64.wrap ((↑x_1.snd.fst : Int) + IntKind.i64.wrap (x.snd.getD (↑x_1.fst : Int).toNat (0 : Int) + IntKind.i64.wrap ((38 : Int) * x.snd.getD (IntKind.i64.wrap ((↑x_1.fst : Int) + (16 : Int))).toNat (0 : Int))))) (16 : Int)).toNat =
   byS x.snd (IntKind.i64.wrap ((↑x_1.fst : Int) + (1 : Int))).toNat / (65536 : Nat) ^ (IntKind.i64.wrap ((↑x_1.fst : Int) + (1 : Int))).toNat ∧
   x_1.snd.snd.set (↑x_1.fst : Int).toNat (iand IntKind.i64 (IntKind.i64.wrap ((↑x_1.snd.fst : Int) + IntKind.i64.wrap (x.snd.getD (↑x_1.fst : Int).toNat (0 : Int) + IntKind.i64.wrap ((38 : Int) * x.snd.getD (IntKind.i64.wrap ((↑x_1.fst : Int) + (16 : Int))).toNat (0 : Int))))) (65535 : Int)) =
   nB (65536 : Nat) (IntKind.i64.wrap ((↑x_1.fst : Int) + (1 : Int))).toNat (byS x.snd (IntKind.i64.wrap ((↑x_1.fst : Int) + (1 : Int))).toNat) ++ List.replicate ((17 : Nat) - (IntKind.i64.wrap ((↑x_1.fst : Int) + (1 : Int))).toNat) (0 : Int)) ∧
   (16 : Nat) - (IntKind.i64.wrap ((↑x_1.fst : Int) + (1 : Int))).toNat < (16 : Nat) - x_1.fst
  | false =>
   True ∧
   ((0 : Int) ≤ (16 : Int) ∧ (16 : Int) < (↑(17 : Nat) : Int) ∧ (17 : Nat) = (17 : Nat) ∧ (1 : Nat) = (1 : Nat)) ∧
   (((16 : Nat) < (17 : Nat) ∧ ([] : List Nat) = [] ∧ true = true) ∧ (1 : Nat) ≠ (0 : Nat) ∧ (1 : Nat) = (1 : Nat) ∧ false = false) ∧
   ((17 : Nat) ≠ (0 : Nat) ∧ (17 : Nat) = (17 : Nat) ∧ true = true) ∧
   (∃ (t : List Int), [D.arr IntKind.i64 (17 : Nat) (x_1.snd.snd.set (16 : Nat) (↑x_1.snd.fst : Int))] = [D.arr IntKind.i64 (17 : Nat) t] ∧ okL t) ∧
   (Sk.arr (16 : Nat) = Sk.arr (16 : Nat) ∧ (16 : Nat) ≠ (0 : Nat) ∧ (16 : Nat) = (16 : Nat) ∧ false = false) ∧ (((16 : Nat) ≠ (0 : Nat) ∧ (16 : Nat) = (16 : Nat) ∧ true = true) ∧ True) ∧ D.arr IntKind.i64 (16 : Nat) (nB (65536 : Nat) (16 : Nat) (vB (65536 : Nat) (x_1.snd.snd.set (16 : Nat) (↑x_1.snd.fst : Int)) % FP)) = F) := by kernel_rfl
set_option maxRecDepth 100000 in
theorem vc119  (l m : List Int) (F : D)  :
    (owed c119 (inv119 l m) Try.f119 [fel l, dgs m] F) = (
 (True ∧ false = false) ∧
 (True ∧ (16 : Nat) ≠ (0 : Nat)) ∧
 (∃ (n : Nat), [D.val (Value.int IntKind.i64 (1 : Int))] = [D.val (Value.int IntKind.i64 (↑n : Int))] ∧ n < (65536 : Nat)) ∧
 (True ∧ (16 : Nat) ≠ (0 : Nat)) ∧
 (Sk.arr (16 : Nat) = Sk.arr (16 : Nat) ∧ (16 : Nat) ≠ (0 : Nat) ∧ (16 : Nat) = (16 : Nat) ∧ false = false) ∧
 True ∧
 (∃ (l : List Int), ∃ (n : Int), [D.ints IntKind.i64 m, D.val (Value.int IntKind.i64 (256 : Int))] = [D.ints IntKind.i64 l, D.val (Value.int IntKind.i64 n)] ∧ okd l ∧ lenOk l ∧ (0 : Int) ≤ n ∧ n ≤ (16777216 : Int)) ∧
 True ∧
 True ∧
 (((AV.d (D.val (Value.int IntKind.i64 (0 : Int))) = AV.d (D.val (Value.int IntKind.i64 (↑(Int.toNat (0 : Int)) : Int))) ∧ True) ∧
 (some (Blk.fix (D.arr IntKind.i64 (16 : Nat) l)) = some (Blk.fix (D.arr IntKind.i64 (16 : Nat) (twF l (Int.toNat (0 : Int))))) ∧
 some (Blk.fix (D.arr IntKind.i64 (16 : Nat) [(0 : Int), (0 : Int), (0 : Int), (0 : Int), (0 : Int), (0 : Int), (0 : Int), (0 : Int), (0 : Int), (0 : Int), (0 : Int), (0 : Int), (0 : Int), (0 : Int), (0 : Int), (0 : Int)])) =
 some (Blk.fix (D.arr IntKind.i64 (16 : Nat) [(0 : Int), (0 : Int), (0 : Int), (0 : Int), (0 : Int), (0 : Int), (0 : Int), (0 : Int), (0 : Int), (0 : Int), (0 : Int), (0 : Int), (0 : Int), (0 : Int), (0 : Int), (0 : Int)])) ∧
 some (Blk.fix (D.arr IntKind.i64 (16 : Nat) [(1 : Int), (0 : Int), (0 : Int), (0 : Int), (0 : Int), (0 : Int), (0 : Int), (0 : Int), (0 : Int), (0 : Int), (0 : Int), (0 : Int), (0 : Int), (0 : Int), (0 : Int), (0 : Int)])) = some (Blk.fix (D.arr IntKind.i64 (16 : Nat) (nB (65536 : Nat) (16 : Nat) (fpw (vB (65536 : Nat) l) (vB (65536 : Nat) m % (1 : Nat)))))) ∧
 True) ∧
 true = true) ∧
 Int.toNat (0 : Int) ≤ (256 : Nat)) ∧
 ∀ (x : Nat),
 x ≤ (256 : Nat) →
 true = true ∧
 True ∧
 match decide ((↑x : Int) < (↑(nB (2 : Nat) (256 : Nat) (vB (65536 : Nat) m)).length : Int)) with
 | true =>
  ((0 : Int) ≤ (↑x : Int) ∧ (↑x : Int) < (↑(nB (2 : Nat) (256 : Nat) (vB (65536 : Nat) m)).length : Int) ∧ (1 : Nat) = (1 : Nat)) ∧
  ((1 : Nat) ≠ (0 : Nat) ∧ (1 : Nat) = (1 : Nat) ∧ false = false) ∧
  True ∧
  True ∧
  True ∧
  match (nB (2 : Nat) (256 : Nat) (vB (65536 : Nat) m)).getD (↑x : Int).toNat (0 : Int) == (1 : Int) with
  | true =>
   ((16 : Nat) ≠ (0 : Nat) ∧ (16 : Nat) = (16 : Nat) ∧ true = true) ∧
   ((16 : Nat) ≠ (0 : Nat) ∧ (16 : Nat) = (16 : Nat) ∧ true = true) ∧
   (∃ (l_1 : List Int), ∃ (m_1 : List Int), [D.arr IntKind.i64 (16 : Nat) (nB (65536 : Nat) (16 : Nat) (fpw (vB (65536 : Nat) l) (vB (65536 : Nat) m % (2 : Nat) ^ x))), D.arr IntKind.i64 (16 : Nat) (twF l x)] = [D.arr IntKind.i64 (16 : Nat) l_1, D.arr IntKind.i64 (16 : Nat) m_1] ∧ isF l_1 ∧ isF m_1) ∧
   (Sk.arr (16 : Nat) = Sk.arr (16 : Nat) ∧ (16 : Nat) ≠ (0 : Nat) ∧ (16 : Nat) = (16 : Nat) ∧ false = false) ∧
   ((16 : Nat) ≠ (0 : Nat) ∧ (16 : Nat) = (16 : Nat) ∧ true = true) ∧
   ((16 : Nat) ≠ (0 : Nat) ∧ (16 : Nat) = (16 : Nat) ∧ true = true) ∧
   (∃ (l_1 : List Int), ∃ (m : List Int), [D.arr IntKind.i64 (16 : Nat) (twF l x), D.arr IntKind.i64 (16 : Nat) (twF l x)] = [D.arr IntKind.i64 (16 : Nat) l_1, D.arr IntKind.i64 (16 : Nat) m] ∧ isF l_1 ∧ isF m) ∧
   (Sk.arr (16 : Nat) = Sk.arr (16 : Nat) ∧ (16 : Nat) ≠ (0 : Nat) ∧ (16 : Nat) = (16 : Nat) ∧ false = false) ∧
   True ∧
   True ∧
   ((AV.d (D.val (Value.int IntKind.i64 (IntKind.i64.wrap ((↑x : Int) + (1 : Int))))) = AV.d (D.val (Value.int IntKind.i64 (↑(IntKind.i64.wrap ((↑x : Int) + (1 : Int))).toNat : Int))) ∧ True) ∧
   (some (Blk.fix (D.arr IntKind.i64 (16 : Nat) (nB (65536 : Nat) (16 : Nat) (vB (65536 : Nat) (twF l x) * vB (65536 : Nat) (twF l x) % FP)))) = some (Blk.fix (D.arr IntKind.i64 (16 : Nat) (twF l (IntKind.i64.wrap ((↑x : Int) + (1 : Int))).toNat))) ∧
   some (Blk.fix (D.arr IntKind.i64 (16 : Nat) [(0 : Int), (0 : Int), (0 : Int), (0 : Int), (0 : Int), (0 : Int), (0 : Int), (0 : Int), (0 : Int), (0 : Int), (0 : Int), (0 : Int), (0 : Int), (0 : Int), (0 : Int), (0 : Int)])) =
   some (Blk.fix (D.arr IntKind.i64 (16 : Nat) [(0 : Int), (0 : Int), (0 : Int), (0 : Int), (0 : Int), (0 : Int), (0 : Int), (0 : Int), (0 : Int), (0 : Int), (0 : Int), (0 : Int), (0 : Int), (0 : Int), (0 : Int), (0 : Int)])) ∧
   some (Blk.fix (D.arr IntKind.i64 (16 : Nat) (nB (65536 : Nat) (16 : Nat) (vB (65536 : Nat) (nB (65536 : Nat) (16 : Nat) (fpw (vB (65536 : Nat) l) (vB (65536 : Nat) m % (2 : Nat) ^ x))) * vB (65536 : Nat) (twF l x) % FP)))) =
   some (Blk.fix (D.arr IntKind.i64 (16 : Nat) (nB (65536 : Nat) (16 : Nat) (fpw (vB (65536 : Nat) l) (vB (65536 : Nat) m % (2 : Nat) ^ (IntKind.i64.wrap ((↑x : Int) + (1 : Int))).toNat))))) ∧
   True) ∧
   true = true) ∧
   (IntKind.i64.wrap ((↑x : Int) + (1 : Int))).toNat ≤ (256 : Nat) ∧ (256 : Nat) - (IntKind.i64.wrap ((↑x : Int) + (1 : Int))).toNat < (256 : Nat) - x
  | false =>
   ((16 : Nat) ≠ (0 : Nat) ∧ (16 : Nat) = (16 : Nat) ∧ true = true) ∧
   ((16 : Nat) ≠ (0 : Nat) ∧ (16 : Nat) = (16 : Nat) ∧ true = true) ∧
   (∃ (l_1 : List Int), ∃ (m : List Int), [D.arr IntKind.i64 (16 : Nat) (twF l x), D.arr IntKind.i64 (16 : Nat) (twF l x)] = [D.arr IntKind.i64 (16 : Nat) l_1, D.arr IntKind.i64 (16 : Nat) m] ∧ isF l_1 ∧ isF m) ∧
   (Sk.arr (16 : Nat) = Sk.arr (16 : Nat) ∧ (16 : Nat) ≠ (0 : Nat) ∧ (16 : Nat) = (16 : Nat) ∧ false = false) ∧
   True ∧
   True ∧
   ((AV.d (D.val (Value.int IntKind.i64 (IntKind.i64.wrap ((↑x : Int) + (1 : Int))))) = AV.d (D.val (Value.int IntKind.i64 (↑(IntKind.i64.wrap ((↑x : Int) + (1 : Int))).toNat : Int))) ∧ True) ∧
   (some (Blk.fix (D.arr IntKind.i64 (16 : Nat) (nB (65536 : Nat) (16 : Nat) (vB (65536 : Nat) (twF l x) * vB (65536 : Nat) (twF l x) % FP)))) = some (Blk.fix (D.arr IntKind.i64 (16 : Nat) (twF l (IntKind.i64.wrap ((↑x : Int) + (1 : Int))).toNat))) ∧
   some (Blk.fix (D.arr IntKind.i64 (16 : Nat) [(0 : Int), (0 : Int), (0 : Int), (0 : Int), (0 : Int), (0 : Int), (0 : Int), (0 : Int), (0 : Int), (0 : Int), (0 : Int), (0 : Int), (0 : Int), (0 : Int), (0 : Int), (0 : Int)])) =
   some (Blk.fix (D.arr IntKind.i64 (16 : Nat) [(0 : Int), (0 : Int), (0 : Int), (0 : Int), (0 : Int), (0 : Int), (0 : Int), (0 : Int), (0 : Int), (0 : Int), (0 : Int), (0 : Int), (0 : Int), (0 : Int), (0 : Int), (0 : Int)])) ∧
   some (Blk.fix (D.arr IntKind.i64 (16 : Nat) (nB (65536 : Nat) (16 : Nat) (fpw (vB (65536 : Nat) l) (vB (65536 : Nat) m % (2 : Nat) ^ x))))) = some (Blk.fix (D.arr IntKind.i64 (16 : Nat) (nB (65536 : Nat) (16 : Nat) (fpw (vB (65536 : Nat) l) (vB (65536 : Nat) m % (2 : Nat) ^ (IntKind.i64.wrap ((↑x : Int) + (1 : Int))).toNat))))) ∧
   True) ∧
   true = true) ∧
   (IntKind.i64.wrap ((↑x : Int) + (1 : Int))).toNat ≤ (256 : Nat) ∧ (256 : Nat) - (IntKind.i64.wrap ((↑x : Int) + (1 : Int))).toNat < (256 : Nat) - x
 | false =>
  ((16 : Nat) ≠ (0 : Nat) ∧ (16 : Nat) = (16 : Nat) ∧ true = true) ∧
  (Sk.arr (16 : Nat) = Sk.arr (16 : Nat) ∧ (16 : Nat) ≠ (0 : Nat) ∧ (16 : Nat) = (16 : Nat) ∧ false = false) ∧ (((16 : Nat) ≠ (0 : Nat) ∧ (16 : Nat) = (16 : Nat) ∧ true = true) ∧ True) ∧ D.arr IntKind.i64 (16 : Nat) (nB (65536 : Nat) (16 : Nat) (fpw (vB (65536 : Nat) l) (vB (65536 : Nat) m % (2 : Nat) ^ x))) = F) := by kernel_rfl
set_option maxRecDepth 100000 in
theorem vc55  (l : List Int) (F : D)  :
    (owed c55 (fun _ => none) Try.f55 [fel l] F) = (
 (True ∧ false = false) ∧
 (True ∧ (16 : Nat) ≠ (0 : Nat)) ∧
 ((16 : Nat) ≠ (0 : Nat) ∧ (16 : Nat) = (16 : Nat) ∧ true = true) ∧
 (0 : Nat) = (0 : Nat) ∧
 ((1 : Nat) = (1 : Nat) ∧ (1 : Nat) ≤ (4096 : Nat)) ∧
 (∃ (l : List Int), ∃ (m : List Int), [D.ints IntKind.i64 dgF, D.ints IntKind.i64 [(2 : Int)]] = [D.ints IntKind.i64 l, D.ints IntKind.i64 m] ∧ (okd l ∧ lenS l) ∧ (okd m ∧ lenS m) ∧ vB (65536 : Nat) m ≤ vB (65536 : Nat) l) ∧
 (∃ (l_1 : List Int), ∃ (m : List Int), [D.arr IntKind.i64 (16 : Nat) l, D.ints IntKind.i64 (dg (vB (65536 : Nat) dgF - vB (65536 : Nat) [(2 : Int)]))] = [D.arr IntKind.i64 (16 : Nat) l_1, D.ints IntKind.i64 m] ∧ isF l_1 ∧ okd m ∧ lenOk m ∧ vB (65536 : Nat) m < (115792089237316195423570985008687907853269984665640564039457584007913129639936 : Nat)) ∧
 (Sk.arr (16 : Nat) = Sk.arr (16 : Nat) ∧ (16 : Nat) ≠ (0 : Nat) ∧ (16 : Nat) = (16 : Nat) ∧ false = false) ∧ (((16 : Nat) ≠ (0 : Nat) ∧ (16 : Nat) = (16 : Nat) ∧ true = true) ∧ True) ∧ D.arr IntKind.i64 (16 : Nat) (nB (65536 : Nat) (16 : Nat) (fpw (vB (65536 : Nat) l) (vB (65536 : Nat) (dg (vB (65536 : Nat) dgF - vB (65536 : Nat) [(2 : Int)]))))) = F) := by kernel_rfl
end Go.Proofs.Ytnadggcfdakpoaa
namespace Go.Proofs.Ytnadggcfdakpoaa
open Go Go.Vg
theorem M16 : 65536 ^ 16 = 115792089237316195423570985008687907853269984665640564039457584007913129639936 := rfl
theorem okd_g {l : List Int} (h : okd l) {i : Nat} (hi : i < l.length) : ∃ x : Nat, l.getD i 0 = (x : Int) ∧ x < 65536 := okd_get h hi
theorem vB_bound {K : Nat} : ∀ {l : List Int}, (∀ x ∈ l, x < (K : Int)) → 65535 * vB 65536 l ≤ K * (65536 ^ l.length - 1)
  | [], _ => Nat.zero_le _
  | x :: l, h => by
    have h1 := vB_bound (l := l) fun y hy => h y (List.mem_cons_of_mem _ hy)
    have h2 := h x (List.mem_cons_self ..)
    have h3 : x.toNat ≤ K := by omega
    have h4 : 0 < 65536 ^ l.length := Nat.pow_pos (by decide)
    show 65535 * (x.toNat + 65536 * vB 65536 l) ≤ K * (65536 ^ (l.length + 1) - 1)
    rw [Nat.pow_succ]
    generalize 65536 ^ l.length = P at *
    have h5 : K * (P * 65536 - 1) = 65536 * (K * (P - 1)) + 65535 * K := by
      obtain ⟨p, rfl⟩ : ∃ p, P = p + 1 := ⟨P - 1, by omega⟩
      rw [Nat.add_sub_cancel, show (p + 1) * 65536 - 1 = 65536 * p + 65535 by omega, Nat.mul_add, Nat.mul_left_comm, Nat.mul_comm K 65535]
    rw [h5]
    have h6 : 65535 * x.toNat ≤ 65535 * K := Nat.mul_le_mul_left _ h3
    generalize K * (P - 1) = Q at *
    omega
theorem vB_small {K : Nat} {l : List Int} (h : ∀ x ∈ l, x < (K : Int)) : vB 65536 l ≤ K * 65536 ^ l.length := by
  have := vB_bound h
  have h2 : K * (65536 ^ l.length - 1) ≤ K * 65536 ^ l.length := Nat.mul_le_mul_left _ (Nat.sub_le _ _)
  omega
theorem growD {b : Nat} (hb : 0 < b) {i : Nat} {l : List Int} (h : i < l.length) (S t : Nat) :
    (nB b i S ++ l.drop i).set i (((S / b ^ i + t) % b : Nat) : Int) = nB b (i + 1) (S + b ^ i * t) ++ l.drop (i + 1) := by
  have e : nB b i (S + b ^ i * t) = nB b i S := by rw [← nB_mod b i (S + _), Nat.add_mul_mod_self_left, nB_mod]
  rw [nB_push, e, Nat.add_mul_div_left _ _ (Nat.pow_pos hb), List.set_append_right _ _ (by rw [nB_length]; exact Nat.le_refl _), nB_length, Nat.sub_self, List.drop_eq_getElem_cons h, List.set_cons_zero, List.append_assoc]
  rfl
theorem nBd_get (b i S : Nat) (l : List Int) : (nB b i S ++ l.drop i).getD i 0 = l.getD i 0 := by
  rw [List.getD_eq_getElem?_getD, List.getElem?_append_right (by rw [nB_length]; exact Nat.le_refl _), nB_length, Nat.sub_self, List.getElem?_drop, Nat.add_zero, ← List.getD_eq_getElem?_getD]
theorem nBr_get (b i S n : Nat) : (nB b i S ++ List.replicate n 0).getD i 0 = 0 := by
  rw [List.getD_eq_getElem?_getD, List.getElem?_append_right (by rw [nB_length]; exact Nat.le_refl _), nB_length, Nat.sub_self]
  cases n <;> rfl
theorem okL_get {l : List Int} (h : okL l) (i : Nat) : ∃ x : Nat, l.getD i 0 = (x : Int) ∧ x < 1099511627776 := by
  rcases Nat.lt_or_ge i l.length with hi | hi
  · have := h.1 _ (getD_memN hi)
    exact ⟨(l.getD i 0).toNat, by omega, by omega⟩
  · exact ⟨0, by rw [List.getD_eq_getElem?_getD, List.getElem?_eq_none hi]; rfl, by decide⟩
theorem lsR_len {t : List Int} (h : okL t) : ∀ r, (lsR t r).length = 17
  | 0 => h.2
  | r + 1 => by show (nB 65536 16 _ ++ [_]).length = 17; rw [List.length_append, nB_length]; rfl
theorem lsR_take (t : List Int) (r : Nat) : (lsR t (r + 1)).take 16 = nB 65536 16 (lsN (lsR t r)) := by
  show (nB 65536 16 _ ++ [_]).take 16 = _
  rw [List.take_append_of_le_length (by rw [nB_length]; exact Nat.le_refl _), List.take_of_length_le (by rw [nB_length]; exact Nat.le_refl _)]
theorem lsR_top (t : List Int) (r : Nat) : (lsR t (r + 1)).getD 16 0 = ((lsN (lsR t r) / 115792089237316195423570985008687907853269984665640564039457584007913129639936 : Nat) : Int) := by
  show (nB 65536 16 _ ++ [_]).getD 16 0 = _
  rw [List.getD_eq_getElem?_getD, List.getElem?_append_right (by rw [nB_length]; exact Nat.le_refl _), nB_length]
  rfl
theorem lsN_succ (t : List Int) (r : Nat) : lsN (lsR t (r + 1)) = lsN (lsR t r) % 115792089237316195423570985008687907853269984665640564039457584007913129639936 + 38 * (lsN (lsR t r) / 115792089237316195423570985008687907853269984665640564039457584007913129639936) := by
  rw [lsN, lsR_take, lsR_top, vB_nB, M16, Int.toNat_natCast]
theorem lsN_zero {t : List Int} (h : okL t) : lsN t < 16777474 * 115792089237316195423570985008687907853269984665640564039457584007913129639936 := by
  have h1 := vB_bound (K := 1099511627776) (l := t.take 16) fun x hx => (h.1 x (List.mem_of_mem_take hx)).2
  rw [List.length_take, h.2, show min 16 17 = 16 from rfl, M16] at h1
  obtain ⟨y, hy, hy2⟩ := okL_get h 16
  unfold lsN
  rw [hy, Int.toNat_natCast]
  omega
theorem lsN_bounds {t : List Int} (h : okL t) : lsN t / 115792089237316195423570985008687907853269984665640564039457584007913129639936 ≤ 16777474 ∧ lsN (lsR t 1) / 115792089237316195423570985008687907853269984665640564039457584007913129639936 ≤ 1 ∧ lsN (lsR t 2) < 115792089237316195423570985008687907853269984665640564039457584007913129639936 := by
  have h0 := lsN_zero h
  have h1 := lsN_succ t 0
  have h2 := lsN_succ t 1
  have e0 : lsR t 0 = t := rfl
  rw [e0] at h1
  generalize lsN (lsR t 2) = c at *
  generalize lsN (lsR t (0 + 1)) = b at *
  generalize lsN t = a at *
  omega
theorem lsN_mod {t : List Int} : ∀ r, lsN (lsR t r) % FP = lsN t % FP
  | 0 => rfl
  | r + 1 => by
    rw [lsN_succ, ← lsN_mod r, FP_eq]
    omega
theorem vB_17 {t : List Int} (h : okL t) : lsN t % FP = vB 65536 t % FP := by
  have e : t = t.take 16 ++ [t.getD 16 0] := by
    conv => lhs; rw [← List.take_append_drop 16 t]
    congr 1
    rw [List.drop_eq_getElem_cons (by rw [h.2]; decide), List.drop_of_length_le (by rw [h.2]; decide), List.getD_eq_getElem?_getD, List.getElem?_eq_getElem (by rw [h.2]; decide)]
    rfl
  have e2 : vB 65536 t = vB 65536 (t.take 16) + 115792089237316195423570985008687907853269984665640564039457584007913129639936 * (t.getD 16 0).toNat := by
    conv => lhs; rw [e]
    rw [vB_append, List.length_take, h.2]
    show _ + 65536 ^ 16 * ((t.getD 16 0).toNat + 65536 * 0) = _
    rw [M16]
    omega
  rw [e2, lsN, FP_eq]
  omega
theorem lsR_ok {t : List Int} (h : okL t) {r : Nat} (hr : r ≤ 2) : okL (lsR t r) := by
  match r, hr with
  | 0, _ => exact h
  | r + 1, hr =>
    refine ⟨?_, lsR_len h _⟩
    have hb := lsN_bounds h
    have hq : lsN (lsR t r) / 115792089237316195423570985008687907853269984665640564039457584007913129639936 ≤ 16777474 := by
      match r, hr with
      | 0, _ => exact hb.1
      | 1, _ => exact Nat.le_trans hb.2.1 (by decide)
    intro x hx
    have hx : x ∈ nB 65536 16 (lsN (lsR t r)) ++ [((lsN (lsR t r) / 115792089237316195423570985008687907853269984665640564039457584007913129639936 : Nat) : Int)] := hx
    rcases List.mem_append.1 hx with hx | hx
    · have := nB_ok (b := 65536) (by decide) _ _ x hx
      omega
    · rw [List.mem_singleton.1 hx]
      omega
theorem lsI_zero (l : List Int) (c : Nat) : lsI l c 0 = l := by
  unfold lsI
  rw [List.drop_zero]
  rfl
theorem lsC_zero (l : List Int) (c : Nat) : lsC l c 0 = c := by
  unfold lsC
  rw [Nat.pow_zero, Nat.div_one, List.take_zero]
  rfl
theorem lsC_lt {l : List Int} (h : okL l) {c : Nat} (hc : c < 70368744177664) {i : Nat} (hi : i ≤ 16) : lsC l c i < 80000000000000 := by
  have h0 : 0 < 65536 ^ i := Nat.pow_pos (by decide)
  have h1 := vB_small (K := 1099511627776) (l := l.take i) fun x hx => (h.1 x (List.mem_of_mem_take hx)).2
  rw [List.length_take, h.2, Nat.min_eq_left (by omega)] at h1
  unfold lsC
  rw [Nat.div_lt_iff_lt_mul h0]
  generalize 65536 ^ i = P at *
  have h2 : c * 1 ≤ c * P := Nat.mul_le_mul_left _ h0
  have h3 : c * P ≤ 70368744177664 * P := Nat.mul_le_mul_right _ (Nat.le_of_lt hc)
  omega
theorem ls_step {l : List Int} (h : okL l) (c : Nat) {i : Nat} (hi : i < 16) {x : Nat} (ex : l.getD i 0 = (x : Int)) :
    (lsI l c i).set i (((lsC l c i + x) % 65536 : Nat) : Int) = lsI l c (i + 1) ∧ (lsC l c i + x) / 65536 = lsC l c (i + 1) := by
  have e1 := vB_take1 (b := 65536) (l := l) i (by rw [h.2]; omega)
  rw [ex, Int.toNat_natCast] at e1
  have e2 : c + vB 65536 (l.take (i + 1)) = c + vB 65536 (l.take i) + 65536 ^ i * x := by omega
  unfold lsI lsC
  rw [e2, growD (by decide) (by rw [h.2]; omega), grow_div (by decide)]
  exact ⟨rfl, rfl⟩
theorem iand65 {a : Nat} (h : a < 9223372036854775808) : iand .i64 (a : Int) 65535 = ((a % 65536 : Nat) : Int) := by
  rw [show (65535 : Int) = ((65535 : Nat) : Int) from rfl, iandN .i64 h (by decide)]
  congr 1
  exact Nat.and_two_pow_sub_one_eq_mod a 16
theorem ishr16 (a : Nat) : ishr .i64 (a : Int) 16 = ((a / 65536 : Nat) : Int) := ishrN .i64 (a := a) (m := 16) (by decide)
theorem set_ok {l : List Int} (h : okL l) : okL (l.set 16 0) := by
  refine ⟨?_, by rw [List.length_set]; exact h.2⟩
  intro x hx
  rcases List.mem_or_eq_of_mem_set hx with hx | rfl
  · exact h.1 x hx
  · decide
theorem ls_round (t : List Int) (h : okL t) (r : Nat) : (lsI ((lsR t r).set 16 0) (38 * ((lsR t r).getD 16 0).toNat) 16).set 16 ((lsC ((lsR t r).set 16 0) (38 * ((lsR t r).getD 16 0).toNat) 16 : Nat) : Int) = lsR t (r + 1) := by
  have hl := lsR_len h r
  have e1 : ((lsR t r).set 16 0).take 16 = (lsR t r).take 16 := List.take_set_of_le (Nat.le_refl _)
  have e2 : ((lsR t r).set 16 0).drop 16 = [0] := by
    rw [List.drop_eq_getElem_cons (by rw [List.length_set, hl]; decide), List.getElem_set_self, List.drop_of_length_le (by rw [List.length_set, hl]; decide)]
  unfold lsI lsC
  rw [e1, e2, M16, Nat.add_comm (38 * _)]
  show _ = nB 65536 16 (lsN (lsR t r)) ++ [((lsN (lsR t r) / 115792089237316195423570985008687907853269984665640564039457584007913129639936 : Nat) : Int)]
  rw [List.set_append_right _ _ (by rw [nB_length]; exact Nat.le_refl _), nB_length, Nat.sub_self]
  rfl
theorem mdF_eq (i : Nat) (h : i < 16) : mdF i = ((FP / 65536 ^ i % 65536 : Nat) : Int) := by
  have : ∀ i : Fin 16, mdF i.1 = ((FP / 65536 ^ i.1 % 65536 : Nat) : Int) := by decide
  exact this ⟨i, h⟩
theorem bor_step {P A C a m : Nat} (hA : A < P) (hC : C < P) : bor (A + P * a) (C + P * m) = if a < m + bor A C then 1 else 0 := by
  rcases Nat.lt_trichotomy a m with h | h | h
  · have h1 : P * (a + 1) ≤ P * m := Nat.mul_le_mul_left _ h
    rw [Nat.mul_add, Nat.mul_one] at h1
    unfold bor
    rw [if_pos (by omega), if_pos (by omega)]
  · subst h
    unfold bor
    by_cases hc : A < C
    · rw [if_pos (by omega), if_pos hc, if_pos (by omega)]
    · rw [if_neg (by omega), if_neg hc, if_neg (by omega)]
  · have h1 : P * (m + 1) ≤ P * a := Nat.mul_le_mul_left _ h
    rw [Nat.mul_add, Nat.mul_one] at h1
    have hb : bor A C ≤ 1 := by unfold bor; split <;> omega
    rw [if_neg (by omega)]
    unfold bor
    rw [if_neg (by omega)]
theorem lsD_step {l : List Int} (h : isF l) {i : Nat} (hi : i < 16) {a m : Nat} (ea : l.getD i 0 = (a : Int)) (ha : a < 65536) (em : m = FP / 65536 ^ i % 65536) :
    (lsD l i).set i (((a + 65536 - m - lsB l i) % 65536 : Nat) : Int) = lsD l (i + 1) ∧ lsB l (i + 1) = if a < m + lsB l i then 1 else 0 := by
  have e1 := vB_take1 (b := 65536) (l := l) i (by rw [h.2]; omega)
  rw [ea, Int.toNat_natCast] at e1
  have e2 : FP % 65536 ^ (i + 1) = FP % 65536 ^ i + 65536 ^ i * m := by rw [Nat.mod_pow_succ, em]
  have hm : m < 65536 := by rw [em]; exact Nat.mod_lt _ (by decide)
  have h0 : 0 < 65536 ^ i := Nat.pow_pos (by decide)
  have hA := vB_lt (b := 65536) (l := l.take i) fun x hx => h.1 x (List.mem_of_mem_take hx)
  rw [List.length_take, h.2, Nat.min_eq_left (by omega)] at hA
  have hC := Nat.mod_lt FP h0
  unfold lsD lsB
  rw [e1, e2, bor_step hA hC]
  refine ⟨?_, rfl⟩
  generalize vB 65536 (l.take i) = A at *
  generalize FP % 65536 ^ i = C at *
  have hS : (A + 65536 ^ i - C) / 65536 ^ i = 1 - bor A C := by
    unfold bor
    split
    · rw [Nat.div_eq_of_lt (by omega)]
    · rw [show A + 65536 ^ i - C = (A - C) + 65536 ^ i * 1 by omega, Nat.add_mul_div_left _ _ h0, Nat.div_eq_of_lt (by omega)]
  have hg := grow (b := 65536) (by decide) hi (A + 65536 ^ i - C) (a + 65535 - m)
  rw [hS] at hg
  have hb : bor A C ≤ 1 := by unfold bor; split <;> omega
  have e3 : (1 - bor A C + (a + 65535 - m)) % 65536 = (a + 65536 - m - bor A C) % 65536 := by congr 1; omega
  rw [e3] at hg
  rw [hg]
  congr 2
  have e4 : 65536 ^ i * (a + 65535 - m) + 65536 ^ i * m + 65536 ^ i = 65536 ^ i * a + 65536 ^ (i + 1) := by
    rw [Nat.pow_succ, ← Nat.mul_add, show a + 65535 - m + m = a + 65535 by omega]
    generalize 65536 ^ i = P
    rw [Nat.mul_add]
    omega
  omega
end Go.Proofs.Ytnadggcfdakpoaa
namespace Go.Proofs.Ytnadggcfdakpoaa
open Go Go.Vg
theorem i64w {x : Nat} (h : x < 9223372036854775807) : IntKind.i64.wrap ((x : Int) + 1) = ((x + 1 : Nat) : Int) := by rw [wi (by omega) (by omega)]; rfl
theorem wNi' {x : Nat} (h : x < 9223372036854775808) : IntKind.i64.wrap (x : Int) = (x : Int) := wi (by omega) (by omega)
theorem a17 {a b : List Int} (h : a = b) : some (Blk.fix (.arr .i64 17 a)) = some (Blk.fix (.arr .i64 17 b)) := by rw [h]
theorem a16 {a b : List Int} (h : a = b) : some (Blk.fix (fel a)) = some (Blk.fix (fel b)) := by rw [h]
theorem fn {v : Nat} (h : v < 115792089237316195423570985008687907853269984665640564039457584007913129639936) : vB 65536 (nB 65536 16 v) = v := by
  rw [vB_nB, M16, Nat.mod_eq_of_lt h]
theorem nF (v : Nat) : isF (nB 65536 16 v) := ⟨fun x hx => nB_ok (by decide) _ _ x hx, nB_length _ _ _⟩
theorem lsD_end {v : Nat} (h : v < 115792089237316195423570985008687907853269984665640564039457584007913129639936) : lsB (nB 65536 16 v) 16 = bor v FP ∧ (FP ≤ v → lsD (nB 65536 16 v) 16 = nB 65536 16 (v - FP)) := by
  have e1 : (nB 65536 16 v).take 16 = nB 65536 16 v := List.take_of_length_le (by rw [nB_length]; exact Nat.le_refl _)
  have e2 : FP % 115792089237316195423570985008687907853269984665640564039457584007913129639936 = FP := by decide
  unfold lsB lsD
  rw [e1, fn h, M16, e2]
  refine ⟨rfl, fun hle => ?_⟩
  rw [Nat.sub_self, ← nB_mod 65536 16 (v + _ - FP), M16, show (v + 115792089237316195423570985008687907853269984665640564039457584007913129639936 - FP) % 115792089237316195423570985008687907853269984665640564039457584007913129639936 = v - FP by have := FP_eq; omega]
  exact List.append_nil _
theorem beq_no {a b : Nat} (h : (((a : Nat) : Int) == ((b : Nat) : Int)) = false) : a ≠ b := by
  intro e; subst e; exact absurd h (by simp)
theorem beq_yes {a b : Nat} (h : (((a : Nat) : Int) == ((b : Nat) : Int)) = true) : a = b := by
  have := eq_of_beq h; omega
set_option maxRecDepth 100000 in
theorem m110 : Meets Try.prog 110 sp110 := by
  refine meets_of_owed (C := c74) ⟨tab_ok, fun f s h => by cases h⟩ (by kernel_rfl) (by kernel_rfl : Try.prog.funcs[110]? = some Try.f110) (by kernel_rfl) (by kernel_rfl) (by kernel_rfl) _ ?_
  rintro _ ⟨t, rfl, ht⟩
  refine ⟨fun _ => rfl, inv110 t, ?_⟩
  show owed c74 (inv110 t) Try.f110 [.arr .i64 17 t] (fe (vB 65536 t % FP))
  rw [vc110]
  simp (decide := true) only [eq_self, true_and, and_true, ne_eq, not_false_eq_true, Int.toNat_natCast]
  refine ⟨?_, ?_⟩
  · and_intros <;> first | exact True.intro | rfl
  intro r hr
  split
  · rename_i h
    have h := of_decide_eq_true h
    have hr : r < 3 := by omega
    have ho := lsR_ok ht (r := r) (by omega)
    obtain ⟨y, ey, hy⟩ := okL_get ho 16
    have hso := set_ok ho
    have hround := ls_round t ht r
    rw [ey, Int.toNat_natCast] at hround
    have ec : IntKind.i64.wrap ((y : Int) * 38) = ((38 * y : Nat) : Int) := by rw [wi (by omega) (by omega)]; omega
    rw [ey, ec, Int.toNat_natCast, i64w (by omega), Int.toNat_natCast]
    generalize (lsR t r).set 16 0 = l at hso hround ⊢
    have hcl : 38 * y < 70368744177664 := by omega
    generalize 38 * y = c at hround hcl ⊢
    refine ⟨?_, ?_⟩
    · rw [lsC_zero, lsI_zero]
      and_intros <;> first | exact True.intro | rfl | omega
    rintro ⟨i, cc, L⟩ hx
    replace hx : i ≤ 16 ∧ cc = lsC l c i ∧ L = lsI l c i := hx
    obtain ⟨hi, rfl, rfl⟩ := hx
    simp only []
    split
    · rename_i h
      have h := of_decide_eq_true h
      have hi : i < 16 := by omega
      obtain ⟨x, ex, hx⟩ := okL_get hso i
      have eg : (lsI l c i).getD i 0 = (x : Int) := by rw [← ex]; exact nBd_get _ _ _ _
      have hC := lsC_lt hso hcl (i := i) (by omega)
      obtain ⟨s1, s2⟩ := ls_step hso c hi ex
      rw [i64w (by omega), Int.toNat_natCast, eg, show ((lsC l c i : Nat) : Int) + (x : Int) = ((lsC l c i + x : Nat) : Int) from rfl, wNi' (by omega), iand65 (by omega), ishr16, Int.toNat_natCast, s1, s2]
      and_intros <;> first | exact True.intro | rfl | omega
    · rename_i h
      have h := of_decide_eq_false h
      have hi : i = 16 := by omega
      subst hi
      rw [hround]
      and_intros <;> first | exact True.intro | rfl | omega
  · rename_i h
    have h := of_decide_eq_false h
    have hr : r = 3 := by omega
    subst hr
    have hb := (lsN_bounds ht).2.2
    have hm : lsN (lsR t 2) % FP = vB 65536 t % FP := by rw [lsN_mod 2, vB_17 ht]
    have hT := lsR_take t 2
    generalize hV : lsN (lsR t 2) = V at hb hm hT
    have hT : (lsR t 3).take 16 = nB 65536 16 V := hT
    have hcp : ∀ L : List Int, List.take 16 L = nB 65536 16 V → List.take ((List.take 16 (List.drop 0 L)).length.min (16 - Int.toNat 0)) (List.take 16 (List.drop 0 L)) ++ List.drop (0 + (List.take 16 (List.drop 0 L)).length.min (16 - Int.toNat 0)) [0, 0, 0, 0, 0, 0, 0, 0, 0, 0, 0, 0, 0, 0, 0, 0] = nB 65536 16 V := by
      intro L h
      rw [List.drop_zero, h]
      have : (nB 65536 16 V).length.min (16 - Int.toNat 0) = 16 := by rw [nB_length]; rfl
      rw [this, List.take_of_length_le (by rw [nB_length]; exact Nat.le_refl _)]
      exact List.append_nil _
    rw [hcp _ hT, fn hb]
    refine ⟨⟨rfl, hb⟩, ?_⟩
    rintro v ⟨hv, hvm⟩
    have hve := lsD_end hv
    have hF := FP_eq
    refine ⟨⟨?_, ?_⟩, ?_⟩
    · and_intros <;> first | exact True.intro | rfl
    · unfold lsB lsD
      rw [List.take_zero, Nat.pow_zero, Nat.mod_one]
      and_intros <;> first | exact True.intro | rfl
    rintro ⟨i, bb, L⟩ hx
    replace hx : i ≤ 16 ∧ bb = lsB (nB 65536 16 v) i ∧ L = lsD (nB 65536 16 v) i := hx
    obtain ⟨hi, rfl, rfl⟩ := hx
    simp only []
    split
    · rename_i h
      have h := of_decide_eq_true h
      have hi : i < 16 := by omega
      refine ⟨?_, ?_⟩
      · split
        · rename_i h0
          rw [beq_yes (b := 0) h0]
          rfl
        · rename_i h0
          have h0 := beq_no (b := 0) h0
          split
          · rename_i h1
            rw [beq_yes (b := 15) h1]
            rfl
          · rename_i h1
            have h1 := beq_no (b := 15) h1
            unfold mdF
            rw [if_neg h0, if_neg h1]
      intro z hz
      obtain rfl : z = i := by omega
      obtain ⟨a, ea, ha⟩ := okd_g (nF v).1 (i := z) (by rw [nB_length]; exact hi)
      obtain ⟨s1, s2⟩ := lsD_step (nF v) hi ea ha rfl
      have hm : FP / 65536 ^ z % 65536 < 65536 := Nat.mod_lt _ (by decide)
      have hb1 : lsB (nB 65536 16 v) z ≤ 1 := by unfold lsB bor; split <;> omega
      have e1 := i64w (x := z) (by omega)
      have em := mdF_eq z hi
      generalize FP / 65536 ^ z % 65536 = m at *
      generalize lsB (nB 65536 16 v) z = b at *
      have e2 : IntKind.i64.wrap ((a : Int) - (m : Int)) = (a : Int) - (m : Int) := wi (by omega) (by omega)
      have e3 : IntKind.i64.wrap ((a : Int) - (m : Int) - (b : Int)) = (a : Int) - (m : Int) - (b : Int) := wi (by omega) (by omega)
      refine ⟨⟨by omega, by omega⟩, ?_⟩
      split
      · rename_i h2
        have h2 := of_decide_eq_true h2
        rw [ea, em, e2, e3] at h2
        rw [ea, em, e1, e2, e3, Int.toNat_natCast, s2, if_pos (by omega), wi (n := (a : Int) - (m : Int) - (b : Int) + 65536) (by omega) (by omega), show ((a : Int) - (m : Int) - (b : Int) + 65536) = (((a + 65536 - m - b) % 65536 : Nat) : Int) by omega, s1]
        and_intros <;> first | exact True.intro | rfl | omega
      · rename_i h2
        have h2 := of_decide_eq_false h2
        rw [ea, em, e2, e3] at h2
        rw [ea, em, e1, e2, e3, Int.toNat_natCast, s2, if_neg (by omega), show ((a : Int) - (m : Int) - (b : Int)) = (((a + 65536 - m - b) % 65536 : Nat) : Int) by omega, s1]
        and_intros <;> first | exact True.intro | rfl | omega
    · rename_i h
      have h := of_decide_eq_false h
      have hi : i = 16 := by omega
      subst hi
      rw [hve.1]
      by_cases hlt : v < FP
      · have e : bor v FP = 1 := by unfold bor; rw [if_pos hlt]
        rw [e]
        show fe v = fe (vB 65536 t % FP)
        rw [← hm, ← hvm, Nat.mod_eq_of_lt hlt]
      · have e : bor v FP = 0 := by unfold bor; rw [if_neg hlt]
        have e2 := hve.2 (by omega)
        have e3 : v - FP < 115792089237316195423570985008687907853269984665640564039457584007913129639936 := by omega
        rw [e, e2, fn e3]
        have e4 : (v - FP) % FP = V % FP := by rw [← hvm]; exact (Nat.mod_eq_sub_mod (by omega)).symm
        show some (Blk.fix (fe (v - FP))) = some (Blk.fix (fe (v - FP))) ∧ _
        refine ⟨rfl, ?_⟩
        and_intros <;> first | exact True.intro | exact e4 | omega
end Go.Proofs.Ytnadggcfdakpoaa
namespace Go.Proofs.Ytnadggcfdakpoaa
open Go Go.Vg
theorem vD_dgF : vB 65536 dgF = FP := by
  have e : dgF = dg FP := opq_eq _
  rw [e]
  exact vl_dg _
theorem okLn {n : Nat} (h : n < 65536 ^ 20) : okd (dg n) ∧ lenS (dg n) ∧ len1 (dg n) ∧ lenOk (dg n) :=
  ⟨dg_ok _, (len_ok (k := 20) h (by decide)).1, Nat.le_trans (dg_len 20 _ h) (by decide), (len_ok (k := 20) h (by decide)).2⟩
theorem dgF_ok : okd dgF ∧ lenS dgF ∧ len1 dgF ∧ lenOk dgF := by
  have e : dgF = dg FP := opq_eq _
  rw [e]
  exact okLn (by decide)
theorem vD_one (x : Int) : vB 65536 [x] = x.toNat := by
  show x.toNat + 65536 * 0 = _
  omega
theorem one_ok {x : Int} (h : 0 ≤ x ∧ x < 65536) : okd [x] ∧ lenS [x] := by
  refine ⟨?_, by unfold lenS; rw [List.length_singleton]; decide⟩
  intro y hy
  obtain rfl := List.mem_singleton.1 hy
  exact h
set_option maxRecDepth 100000 in
theorem m112 : Meets Try.prog 112 sp112 := by
  refine meets_of_owed (C := c112) ⟨tab_ok, lkS_ok ⟨m66, m120, trivial⟩⟩ (by kernel_rfl) (by kernel_rfl : Try.prog.funcs[112]? = some Try.f112) (by kernel_rfl) (by kernel_rfl) (by kernel_rfl) _ ?_
  intro ds hds
  obtain rfl : ds = [] := List.eq_nil_of_length_eq_zero hds
  refine ⟨(by intro h; cases h), fun _ => none, ?_⟩
  show owed c112 (fun _ => none) Try.f112 [] (dgs dgF)
  rw [vc112]
  have eP : dgP 255 = dg (2 ^ 255) := opq_eq _
  have eF : dgF = dg FP := opq_eq _
  have k1 := okLn (n := 2 ^ 255) (by decide)
  have k2 := one_ok (x := 19) (by decide)
  have v1 : vB 65536 (dg (2 ^ 255)) = 2 ^ 255 := vl_dg _
  have e2 : dg (2 ^ 255 - Int.toNat 19) = dgF := by rw [eF]; rfl
  rw [eP, vD_one, v1, e2]
  have k3 : vB 65536 [19] ≤ vB 65536 (dg (2 ^ 255)) := by rw [v1, vD_one]; decide
  and_intros <;> first | exact True.intro | exact ⟨255, rfl, by decide, by decide⟩ | exact ⟨_, _, rfl, ⟨k1.1, k1.2.1⟩, k2, k3⟩ | rfl | decide
set_option maxRecDepth 100000 in
theorem m101 : Meets Try.prog 101 sp101 := by
  refine meets_of_owed (C := c74) ⟨tab_ok, fun f s h => by cases h⟩ (by kernel_rfl) (by kernel_rfl : Try.prog.funcs[101]? = some Try.f101) (by kernel_rfl) (by kernel_rfl) (by kernel_rfl) _ ?_
  intro ds hds
  obtain rfl : ds = [] := List.eq_nil_of_length_eq_zero hds
  refine ⟨fun _ => rfl, fun _ => none, ?_⟩
  show owed c74 (fun _ => none) Try.f101 [] (fel dFe)
  rw [vc101]
  simp (decide := true) only [eq_self, true_and, and_true, ne_eq, not_false_eq_true]
  and_intros <;> first | trivial | decide | rfl
set_option maxRecDepth 100000 in
theorem m100 : Meets Try.prog 100 sp100 := by
  refine meets_of_owed (C := c74) ⟨tab_ok, fun f s h => by cases h⟩ (by kernel_rfl) (by kernel_rfl : Try.prog.funcs[100]? = some Try.f100) (by kernel_rfl) (by kernel_rfl) (by kernel_rfl) _ ?_
  rintro _ ⟨n, rfl, hn⟩
  refine ⟨fun _ => rfl, fun _ => none, ?_⟩
  show owed c74 (fun _ => none) Try.f100 [i64n n] (fel [(n : Int), 0, 0, 0, 0, 0, 0, 0, 0, 0, 0, 0, 0, 0, 0, 0])
  rw [vc100]
  simp (decide := true) only [eq_self, true_and, and_true, ne_eq, not_false_eq_true]
set_option maxRecDepth 100000 in
theorem m111 : Meets Try.prog 111 sp111 := by
  refine meets_of_owed (C := c111) ⟨tab_ok, lkS_ok ⟨m74, trivial⟩⟩ (by kernel_rfl) (by kernel_rfl : Try.prog.funcs[111]? = some Try.f111) (by kernel_rfl) (by kernel_rfl) (by kernel_rfl) _ ?_
  rintro _ ⟨l, rfl, hl, hll⟩
  refine ⟨fun _ => rfl, inv111 l, ?_⟩
  show owed c111 (inv111 l) Try.f111 [dgs l] (fe (vB 65536 l))
  rw [vc111]
  simp (decide := true) only [eq_self, true_and, and_true, ne_eq, not_false_eq_true, Int.toNat_natCast]
  refine ⟨?_, ?_⟩
  · and_intros <;> first | exact True.intro | rfl
  intro x hx
  split
  · rename_i h
    have h := of_decide_eq_true h
    have hx : x < 16 := by omega
    have e : (nB 65536 x (vB 65536 l) ++ List.replicate (16 - x) 0).set x (dig l (x : Int)) = nB 65536 (x + 1) (vB 65536 l) ++ List.replicate (16 - (x + 1)) 0 := by
      rw [dig_nat hl, nB_push, List.set_append_right _ _ (by rw [nB_length]; exact Nat.le_refl _), nB_length, Nat.sub_self, show 16 - x = (16 - (x + 1)) + 1 by omega, List.replicate_succ, List.set_cons_zero, List.append_assoc]
      rfl
    rw [i64w (by omega), Int.toNat_natCast, e]
    and_intros <;> first | exact True.intro | exact ⟨_, _, rfl, hll⟩ | rfl | omega
  · rename_i h
    have h := of_decide_eq_false h
    have hx : x = 16 := by omega
    subst hx
    exact congrArg _ (List.append_nil _)
set_option maxRecDepth 100000 in
theorem m46 : Meets Try.prog 46 sp46 := by
  refine meets_of_owed (C := c46) ⟨tab_ok, lkS_ok ⟨m72, m112, m84, m111, trivial⟩⟩ (by kernel_rfl) (by kernel_rfl : Try.prog.funcs[46]? = some Try.f46) (by kernel_rfl) (by kernel_rfl) (by kernel_rfl) _ ?_
  rintro _ ⟨l, rfl, hl⟩
  refine ⟨fun _ => rfl, fun _ => none, ?_⟩
  show owed c46 (fun _ => none) Try.f46 [num4 l] (fe (wv l % FP))
  rw [vc46]
  have hv := wv_lt' hl
  have hF := FP_eq
  have k1 := okLn (n := vB 18446744073709551616 l) (Nat.lt_trans hv (by decide))
  have k2 := dgF_ok
  have k3 := okLn (n := vB 18446744073709551616 l % FP) (Nat.lt_trans (mlt _) (by rw [hF]; decide))
  have v1 : vB 65536 (dg (vB 18446744073709551616 l)) = vB 18446744073709551616 l := vl_dg _
  have v2 : vB 65536 (dg (vB 18446744073709551616 l % FP)) = vB 18446744073709551616 l % FP := vl_dg _
  rw [v1, vD_dgF, v2]
  simp (decide := true) only [eq_self, true_and, and_true, ne_eq, not_false_eq_true]
  have k4 : ¬ vB 65536 dgF = 0 := by rw [vD_dgF, hF]; decide
  exact ⟨⟨_, rfl, hl.1, hl.2⟩, ⟨_, _, rfl, ⟨k1.1, k1.2.2.1⟩, ⟨k2.1, k2.2.2.1⟩, k4⟩, ⟨_, rfl, k3.1, k3.2.2.2⟩⟩
set_option maxRecDepth 100000 in
theorem m47 : Meets Try.prog 47 sp47 := by
  refine meets_of_owed (C := c47) ⟨tab_ok, lkS_ok ⟨m67, trivial⟩⟩ (by kernel_rfl) (by kernel_rfl : Try.prog.funcs[47]? = some Try.f47) (by kernel_rfl) (by kernel_rfl) (by kernel_rfl) _ ?_
  rintro _ ⟨l, rfl, hl⟩
  refine ⟨fun _ => rfl, fun _ => none, ?_⟩
  show owed c47 (fun _ => none) Try.f47 [fel l] (n4 (vB 65536 l))
  rw [vc47]
  have e : List.take (((16 : Nat) : Int).toNat - 0) (List.drop 0 l) = l := List.take_of_length_le (Nat.le_of_eq hl.2)
  have hll : lenOk l := by unfold lenOk; rw [hl.2]; decide
  rw [e]
  and_intros <;> first | exact True.intro | exact ⟨_, rfl, hl.1, hll⟩ | rfl | decide | omega
theorem rmap_succ (f : Nat → Int) (n : Nat) : vB 65536 ((List.range (n + 1)).map f) = vB 65536 ((List.range n).map f) + 65536 ^ n * (f n).toNat := by
  rw [List.range_succ, List.map_append, vB_append, List.length_map, List.length_range]
  show _ + 65536 ^ n * ((f n).toNat + 65536 * 0) = _
  rw [Nat.mul_zero, Nat.add_zero]
theorem rmap_set (f : Nat → Int) {n N : Nat} (h : n < N) : (((List.range n).map f) ++ List.replicate (N - n) 0).set n (f n) = ((List.range (n + 1)).map f) ++ List.replicate (N - (n + 1)) 0 := by
  rw [List.range_succ, List.map_append, List.set_append_right _ _ (by rw [List.length_map, List.length_range]; exact Nat.le_refl _), List.length_map, List.length_range, Nat.sub_self, show N - n = (N - (n + 1)) + 1 by omega, List.replicate_succ, List.set_cons_zero, List.append_assoc]
  rfl
theorem rmap_okL {f : Nat → Int} (h : ∀ i, i < 16 → 0 ≤ f i ∧ f i < 1099511627776) : okL (((List.range 16).map f) ++ [0]) := by
  refine ⟨?_, by rw [List.length_append, List.length_map, List.length_range]; rfl⟩
  intro x hx
  rcases List.mem_append.1 hx with hx | hx
  · obtain ⟨i, hi, rfl⟩ := List.mem_map.1 hx
    exact h i (List.mem_range.1 hi)
  · rw [List.mem_singleton.1 hx]; decide
theorem vB_snoc0 {l : List Int} : vB 65536 (l ++ [0]) = vB 65536 l := by
  rw [vB_append]
  show _ + 65536 ^ l.length * 0 = _
  rw [Nat.mul_zero, Nat.add_zero]
theorem isF_get {l : List Int} (h : isF l) {i : Nat} (hi : i < 16) : ∃ x : Nat, l.getD i 0 = (x : Int) ∧ x < 65536 := okd_g h.1 (by rw [h.2]; exact hi)
theorem isF_lt {l : List Int} (h : isF l) : vB 65536 l < 115792089237316195423570985008687907853269984665640564039457584007913129639936 := by
  have := vB_lt (b := 65536) h.1
  rwa [h.2, M16] at this
theorem isF_take {l : List Int} (h : isF l) : l.take 16 = l := List.take_of_length_le (Nat.le_of_eq h.2)
theorem plF_val {l m : List Int} (hl : isF l) (hm : isF m) : ∀ n, n ≤ 16 → vB 65536 (plF l m n) = vB 65536 (l.take n) + vB 65536 (m.take n)
  | 0, _ => rfl
  | n + 1, hn => by
    obtain ⟨x, ex, _⟩ := isF_get hl (i := n) (by omega)
    obtain ⟨y, ey, _⟩ := isF_get hm (i := n) (by omega)
    have e1 := vB_take1 (b := 65536) (l := l) n (by rw [hl.2]; omega)
    have e2 := vB_take1 (b := 65536) (l := m) n (by rw [hm.2]; omega)
    rw [ex, Int.toNat_natCast] at e1
    rw [ey, Int.toNat_natCast] at e2
    unfold plF
    rw [rmap_succ, e1, e2, ex, ey]
    have ih := plF_val hl hm n (by omega)
    unfold plF at ih
    rw [ih, show ((x : Int) + (y : Int)).toNat = x + y by omega, Nat.mul_add]
    omega
set_option maxRecDepth 100000 in
theorem m53 : Meets Try.prog 53 sp53 := by
  refine meets_of_owed (C := c53) ⟨tab_ok, lkS_ok ⟨m110, trivial⟩⟩ (by kernel_rfl) (by kernel_rfl : Try.prog.funcs[53]? = some Try.f53) (by kernel_rfl) (by kernel_rfl) (by kernel_rfl) _ ?_
  rintro _ ⟨l, m, rfl, hl, hm⟩
  refine ⟨fun _ => rfl, inv53 l m, ?_⟩
  show owed c53 (inv53 l m) Try.f53 [fel l, fel m] (fe ((vB 65536 l + vB 65536 m) % FP))
  rw [vc53]
  simp (decide := true) only [eq_self, true_and, and_true, ne_eq, not_false_eq_true, Int.toNat_natCast]
  refine ⟨?_, ?_⟩
  · and_intros <;> first | exact True.intro | rfl
  intro x hx
  split
  · rename_i h
    have h := of_decide_eq_true h
    have hx : x < 16 := by omega
    obtain ⟨a, ea, ha⟩ := isF_get hl hx
    obtain ⟨b, eb, hb⟩ := isF_get hm hx
    have hs : (plF l m x ++ List.replicate (17 - x) 0).set x (l.getD x 0 + m.getD x 0) = plF l m (x + 1) ++ List.replicate (17 - (x + 1)) 0 := rmap_set (fun j => l.getD j 0 + m.getD j 0) (by omega)
    have hw : IntKind.i64.wrap (l.getD x 0 + m.getD x 0) = l.getD x 0 + m.getD x 0 := by rw [ea, eb]; exact wi (by omega) (by omega)
    rw [i64w (by omega), Int.toNat_natCast, hw, hs]
    and_intros <;> first | exact True.intro | rfl | omega
  · rename_i h
    have h := of_decide_eq_false h
    have hx : x = 16 := by omega
    subst hx
    have hv := plF_val hl hm 16 (by decide)
    rw [isF_take hl, isF_take hm] at hv
    have e1 : plF l m 16 ++ List.replicate (17 - 16) 0 = plF l m 16 ++ [0] := rfl
    have ok : okL (plF l m 16 ++ [0]) := rmap_okL fun i hi => by
      obtain ⟨a, ea, ha⟩ := isF_get hl hi
      obtain ⟨b, eb, hb⟩ := isF_get hm hi
      rw [ea, eb]; omega
    rw [e1, vB_snoc0, hv]
    exact ⟨⟨_, rfl, ok⟩, rfl⟩
theorem miF_val : vB 65536 ((List.range 16).map miF) = 4 * FP := by decide
theorem miF_ok (i : Nat) : 131068 ≤ miF i ∧ miF i ≤ 262140 := by
  unfold miF
  split
  · decide
  · split <;> decide
theorem lsF_val {l m : List Int} (hl : isF l) (hm : isF m) : ∀ n, n ≤ 16 → vB 65536 (lsF l m n) + vB 65536 (m.take n) = vB 65536 (l.take n) + vB 65536 ((List.range n).map miF)
  | 0, _ => rfl
  | n + 1, hn => by
    obtain ⟨x, ex, _⟩ := isF_get hl (i := n) (by omega)
    obtain ⟨y, ey, hy⟩ := isF_get hm (i := n) (by omega)
    have e1 := vB_take1 (b := 65536) (l := l) n (by rw [hl.2]; omega)
    have e2 := vB_take1 (b := 65536) (l := m) n (by rw [hm.2]; omega)
    rw [ex, Int.toNat_natCast] at e1
    rw [ey, Int.toNat_natCast] at e2
    have hmi := miF_ok n
    obtain ⟨z, ez⟩ : ∃ z : Nat, miF n = (z : Int) := ⟨(miF n).toNat, by omega⟩
    rw [rmap_succ]
    unfold lsF
    rw [rmap_succ, e1, e2, ex, ey, ez]
    have ih := lsF_val hl hm n (by omega)
    unfold lsF at ih
    rw [ez] at hmi
    have e3 : 65536 ^ n * ((x : Int) + (z : Int) - (y : Int)).toNat + 65536 ^ n * y = 65536 ^ n * x + 65536 ^ n * z := by
      rw [← Nat.mul_add, ← Nat.mul_add, show ((x : Int) + (z : Int) - (y : Int)).toNat + y = x + z by omega]
    rw [Int.toNat_natCast]
    omega
set_option maxRecDepth 100000 in
theorem m45 : Meets Try.prog 45 sp45 := by
  refine meets_of_owed (C := c53) ⟨tab_ok, lkS_ok ⟨m110, trivial⟩⟩ (by kernel_rfl) (by kernel_rfl : Try.prog.funcs[45]? = some Try.f45) (by kernel_rfl) (by kernel_rfl) (by kernel_rfl) _ ?_
  rintro _ ⟨l, m, rfl, hl, hm⟩
  refine ⟨fun _ => rfl, inv45 l m, ?_⟩
  show owed c53 (inv45 l m) Try.f45 [fel l, fel m] (fe (fsb (vB 65536 l) (vB 65536 m)))
  rw [vc45]
  simp (decide := true) only [eq_self, true_and, and_true, ne_eq, not_false_eq_true, Int.toNat_natCast]
  refine ⟨?_, ?_⟩
  · and_intros <;> first | exact True.intro | rfl
  intro x hx
  split
  · rename_i h
    have h := of_decide_eq_true h
    have hx : x < 16 := by omega
    refine ⟨?_, ?_⟩
    · split
      · rename_i h0
        rw [beq_yes (b := 0) h0]
        rfl
      · rename_i h0
        have h0 := beq_no (b := 0) h0
        split
        · rename_i h1
          rw [beq_yes (b := 15) h1]
          rfl
        · rename_i h1
          have h1 := beq_no (b := 15) h1
          unfold miF
          rw [if_neg h0, if_neg h1]
    intro z hz
    obtain rfl : z = x := by omega
    obtain ⟨a, ea, ha⟩ := isF_get hl hx
    obtain ⟨b, eb, hb⟩ := isF_get hm hx
    have hmi := miF_ok z
    have hs : (lsF l m z ++ List.replicate (17 - z) 0).set z (l.getD z 0 + miF z - m.getD z 0) = lsF l m (z + 1) ++ List.replicate (17 - (z + 1)) 0 := rmap_set (fun j => l.getD j 0 + miF j - m.getD j 0) (by omega)
    have hw : IntKind.i64.wrap (IntKind.i64.wrap (l.getD z 0 + miF z) - m.getD z 0) = l.getD z 0 + miF z - m.getD z 0 := by rw [ea, eb, wi (n := (a : Int) + miF z) (by omega) (by omega)]; exact wi (by omega) (by omega)
    rw [i64w (by omega), Int.toNat_natCast, hw, hs]
    and_intros <;> first | exact True.intro | rfl | omega
  · rename_i h
    have h := of_decide_eq_false h
    have hx : x = 16 := by omega
    subst hx
    have hv := lsF_val hl hm 16 (by decide)
    rw [isF_take hl, isF_take hm, miF_val] at hv
    have e1 : lsF l m 16 ++ List.replicate (17 - 16) 0 = lsF l m 16 ++ [0] := rfl
    have ok : okL (lsF l m 16 ++ [0]) := rmap_okL fun i hi => by
      obtain ⟨a, ea, ha⟩ := isF_get hl hi
      obtain ⟨b, eb, hb⟩ := isF_get hm hi
      have hmi := miF_ok i
      rw [ea, eb]; omega
    rw [e1, vB_snoc0]
    have hm2 := isF_lt hm
    have e2 : vB 65536 (lsF l m 16) % FP = fsb (vB 65536 l) (vB 65536 m) := by
      unfold fsb
      rw [FP_eq] at hv ⊢
      omega
    rw [e2]
    exact ⟨⟨_, rfl, ok⟩, rfl⟩
end Go.Proofs.Ytnadggcfdakpoaa
namespace Go.Proofs.Ytnadggcfdakpoaa
open Go Go.Vg
theorem byJ_step {l m out : List Int} (hl : isF l) (hm : isF m) {i k : Nat} (hi : i < 16) (hk : k < 16) (h : ByJ l m i k out) {x y o : Nat} (ex : l.getD i 0 = (x : Int)) (ey : m.getD k 0 = (y : Int)) (eo : out.getD (i + k) 0 = (o : Int)) :
    ByJ l m i (k + 1) (out.set (i + k) ((o + x * y : Nat) : Int)) := by
  obtain ⟨x', ex', hx⟩ := isF_get hl hi
  obtain ⟨y', ey', hy⟩ := isF_get hm hk
  obtain rfl : x' = x := by rw [ex] at ex'; omega
  obtain rfl : y' = y := by rw [ey] at ey'; omega
  have hxy : x' * y' ≤ 4294836225 := Nat.mul_le_mul (show x' ≤ 65535 by omega) (show y' ≤ 65535 by omega)
  refine ⟨by rw [List.length_set]; exact h.len, ?_, ?_⟩
  · intro j
    rw [getD_set, h.len]
    have h1 := h.ok j
    by_cases hj : i + k = j
    · subst hj
      rw [eo, if_neg (Nat.lt_irrefl _)] at h1
      rw [if_pos ⟨rfl, by omega⟩, if_pos (by omega)]
      omega
    · rw [if_neg (fun h => hj h.1)]
      by_cases h2 : j < i + k
      · rw [if_pos h2] at h1; rw [if_pos (by omega)]; exact h1
      · rw [if_neg h2] at h1; rw [if_neg (by omega)]; exact h1
  · have e1 := vB_set (b := 65536) out (i + k) ((o + x' * y' : Nat) : Int) (by rw [h.len]; omega)
    have e2 := vB_take1 (b := 65536) (l := m) k (by rw [hm.2]; omega)
    have e3 := h.val
    rw [eo, Int.toNat_natCast, Int.toNat_natCast, Nat.mul_add] at e1
    rw [ey, Int.toNat_natCast] at e2
    rw [ex, Int.toNat_natCast] at e3 ⊢
    rw [e2, Nat.mul_add, Nat.mul_add]
    have e4 : 65536 ^ i * (x' * (65536 ^ k * y')) = 65536 ^ (i + k) * (x' * y') := by
      rw [Nat.pow_add, Nat.mul_left_comm x', Nat.mul_assoc]
    omega
theorem byI_zero (l m : List Int) : ByI l m 0 (List.replicate 32 0) := by
  refine ⟨rfl, ?_, ?_⟩
  · intro j
    have : (List.replicate 32 (0 : Int)).getD j 0 = 0 := by
      rw [List.getD_eq_getElem?_getD, List.getElem?_replicate]
      split <;> rfl
    rw [this]; omega
  · rw [List.take_zero]
    show vB 65536 (List.replicate 32 0) = 0 * _
    rw [Nat.zero_mul]
    rfl
theorem byJ_zero {l m out : List Int} {i : Nat} (h : ByI l m i out) : ByJ l m i 0 out := by
  refine ⟨h.len, ?_, ?_⟩
  · intro j
    have := h.ok j
    split <;> omega
  · rw [h.val, List.take_zero]
    show _ = _ + 65536 ^ i * ((l.getD i 0).toNat * 0)
    rw [Nat.mul_zero, Nat.mul_zero, Nat.add_zero]
theorem byI_next {l m out : List Int} (hl : isF l) (hm : isF m) {i : Nat} (hi : i < 16) (h : ByJ l m i 16 out) : ByI l m (i + 1) out := by
  refine ⟨h.len, ?_, ?_⟩
  · intro j
    have := h.ok j
    split at this <;> omega
  · have e1 := vB_take1 (b := 65536) (l := l) i (by rw [hl.2]; omega)
    rw [h.val, isF_take hm, e1, Nat.add_mul, Nat.mul_assoc]
theorem byS_succ {p : List Int} (h : p.length = 32) {i : Nat} (hi : i < 16) : byS p (i + 1) = byS p i + 65536 ^ i * ((p.getD i 0).toNat + 38 * (p.getD (i + 16) 0).toNat) := by
  have e1 := vB_take1 (b := 65536) (l := p) i (by omega)
  have e2 := vB_take1 (b := 65536) (l := p.drop 16) i (by rw [List.length_drop]; omega)
  have e3 : (p.drop 16).getD i 0 = p.getD (i + 16) 0 := by
    rw [List.getD_eq_getElem?_getD, List.getElem?_drop, Nat.add_comm 16 i, ← List.getD_eq_getElem?_getD]
  unfold byS
  rw [e1, e2, e3, Nat.mul_add, Nat.mul_add, Nat.mul_left_comm 38]
  omega
theorem byS_bound {l m p : List Int} (h : ByI l m 16 p) {i : Nat} (hi : i ≤ 16) : 65535 * byS p i ≤ 2679977846 * 1000 * (65536 ^ i - 1) := by
  have hb : ∀ x ∈ p, x < ((68717379601 : Nat) : Int) := by
    intro x hx
    obtain ⟨j, hj, rfl⟩ := List.getElem_of_mem hx
    have := h.ok j
    rw [List.getD_eq_getElem?_getD, List.getElem?_eq_getElem hj] at this
    have h2 : p[j] ≤ ((16 : Nat) : Int) * 4294836225 := this.2
    omega
  have h1 := vB_bound (K := 68717379601) (l := p.take i) fun x hx => hb x (List.mem_of_mem_take hx)
  have h2 := vB_bound (K := 68717379601) (l := (p.drop 16).take i) fun x hx => hb x (List.mem_of_mem_drop (List.mem_of_mem_take hx))
  rw [List.length_take, h.len, Nat.min_eq_left (by omega)] at h1
  rw [List.length_take, List.length_drop, h.len, Nat.min_eq_left (by omega)] at h2
  unfold byS
  generalize 65536 ^ i - 1 = P at *
  omega
theorem byS_lt {l m p : List Int} (h : ByI l m 16 p) {i : Nat} (hi : i ≤ 16) : byS p i / 65536 ^ i < 100000000 := by
  have h0 : 0 < 65536 ^ i := Nat.pow_pos (by decide)
  have h1 := byS_bound h hi
  rw [Nat.div_lt_iff_lt_mul h0]
  generalize 65536 ^ i = P at *
  omega
theorem byS_val {l m p : List Int} (h : ByI l m 16 p) (hl : isF l) : byS p 16 % FP = vB 65536 l * vB 65536 m % FP := by
  have e := h.val
  rw [isF_take hl] at e
  rw [← e]
  have e1 : p = p.take 16 ++ (p.drop 16).take 16 := by
    conv => lhs; rw [← List.take_append_drop 16 p]
    congr 1
    exact (List.take_of_length_le (by rw [List.length_drop, h.len]; decide)).symm
  have e2 : vB 65536 p = vB 65536 (p.take 16) + 115792089237316195423570985008687907853269984665640564039457584007913129639936 * vB 65536 ((p.drop 16).take 16) := by
    conv => lhs; rw [e1]
    rw [vB_append, List.length_take, h.len, show min 16 32 = 16 from rfl, M16]
  unfold byS
  rw [e2, FP_eq]
  omega
theorem by_get {l m p : List Int} (h : ByI l m 16 p) (j : Nat) : ∃ x : Nat, p.getD j 0 = (x : Int) ∧ x ≤ 68717379600 := by
  have := h.ok j
  have h2 : p.getD j 0 ≤ ((16 : Nat) : Int) * 4294836225 := this.2
  exact ⟨(p.getD j 0).toNat, by omega, by omega⟩
theorem byEnd {S : Nat} (h : 65535 * S ≤ 2679977846 * 1000 * (115792089237316195423570985008687907853269984665640564039457584007913129639936 - 1)) : okL (nB 65536 16 S ++ [((S / 115792089237316195423570985008687907853269984665640564039457584007913129639936 : Nat) : Int)]) ∧ vB 65536 (nB 65536 16 S ++ [((S / 115792089237316195423570985008687907853269984665640564039457584007913129639936 : Nat) : Int)]) = S := by
  refine ⟨⟨?_, by rw [List.length_append, nB_length]; rfl⟩, ?_⟩
  · intro x hx
    rcases List.mem_append.1 hx with hx | hx
    · have := nB_ok (b := 65536) (by decide) _ _ x hx
      omega
    · rw [List.mem_singleton.1 hx]
      omega
  · rw [vB_append, vB_nB, nB_length, M16]
    show _ + _ * ((((S / 115792089237316195423570985008687907853269984665640564039457584007913129639936 : Nat) : Int)).toNat + 65536 * 0) = S
    rw [Int.toNat_natCast]
    omega
set_option maxRecDepth 100000 in
theorem m54 : Meets Try.prog 54 sp54 := by
  refine meets_of_owed (C := c53) ⟨tab_ok, lkS_ok ⟨m110, trivial⟩⟩ (by kernel_rfl) (by kernel_rfl : Try.prog.funcs[54]? = some Try.f54) (by kernel_rfl) (by kernel_rfl) (by kernel_rfl) _ ?_
  rintro _ ⟨l, m, rfl, hl, hm⟩
  refine ⟨fun _ => rfl, inv54 l m, ?_⟩
  show owed c53 (inv54 l m) Try.f54 [fel l, fel m] (fe (vB 65536 l * vB 65536 m % FP))
  rw [vc54]
  simp (decide := true) only [eq_self, true_and, and_true, ne_eq, not_false_eq_true, Int.toNat_natCast]
  refine ⟨?_, ?_⟩
  · have := byI_zero l m
    and_intros <;> first | exact True.intro | rfl | exact this
  rintro ⟨i, out⟩ hx
  replace hx : i ≤ 16 ∧ ByI l m i out := hx
  obtain ⟨hi, hB⟩ := hx
  simp only []
  split
  · rename_i h
    have h := of_decide_eq_true h
    have hi : i < 16 := by omega
    refine ⟨?_, ?_⟩
    · have := byJ_zero hB
      and_intros <;> first | exact True.intro | rfl | exact this
    rintro ⟨k, o⟩ hx
    replace hx : k ≤ 16 ∧ ByJ l m i k o := hx
    obtain ⟨hk, hJ⟩ := hx
    simp only []
    split
    · rename_i h
      have h := of_decide_eq_true h
      have hk : k < 16 := by omega
      obtain ⟨x, ex, hx⟩ := isF_get hl hi
      obtain ⟨y, ey, hy⟩ := isF_get hm hk
      have ho := hJ.ok (i + k)
      rw [if_neg (Nat.lt_irrefl _)] at ho
      obtain ⟨z, ez, hz⟩ : ∃ z : Nat, o.getD (i + k) 0 = (z : Int) ∧ z ≤ 68717379600 := ⟨(o.getD (i + k) 0).toNat, by omega, by omega⟩
      have hxy : x * y ≤ 4294836225 := Nat.mul_le_mul (show x ≤ 65535 by omega) (show y ≤ 65535 by omega)
      have hst := byJ_step hl hm hi hk hJ ex ey ez
      have e1 : IntKind.i64.wrap ((i : Int) + (k : Int)) = ((i + k : Nat) : Int) := by rw [wi (by omega) (by omega)]; rfl
      have e2 : IntKind.i64.wrap ((x : Int) * (y : Int)) = ((x * y : Nat) : Int) := by rw [← Int.natCast_mul]; exact wNi' (by omega)
      have e3 : IntKind.i64.wrap ((z : Int) + ((x * y : Nat) : Int)) = ((z + x * y : Nat) : Int) := by rw [← Int.natCast_add]; exact wNi' (by omega)
      rw [e1, i64w (by omega), Int.toNat_natCast, Int.toNat_natCast, ex, ey, ez, e2, e3]
      and_intros <;> first | exact True.intro | rfl | omega | exact hst
    · rename_i h
      have h := of_decide_eq_false h
      have hk : k = 16 := by omega
      subst hk
      have hn := byI_next hl hm hi hJ
      rw [i64w (by omega), Int.toNat_natCast]
      and_intros <;> first | exact True.intro | rfl | omega | exact hn
  · rename_i h
    have h := of_decide_eq_false h
    have hi : i = 16 := by omega
    subst hi
    refine ⟨?_, ?_⟩
    · have : byS out 0 / 1 = 0 := by unfold byS; rw [List.take_zero, List.take_zero]; rfl
      and_intros <;> first | exact True.intro | rfl | exact this.symm
    rintro ⟨i, c, t⟩ hx
    replace hx : i ≤ 16 ∧ c = byS out i / 65536 ^ i ∧ t = nB 65536 i (byS out i) ++ List.replicate (17 - i) 0 := hx
    obtain ⟨hi, rfl, rfl⟩ := hx
    simp only []
    have hc := byS_lt hB hi
    split
    · rename_i h
      have h := of_decide_eq_true h
      have hi : i < 16 := by omega
      obtain ⟨x, ex, hx⟩ := by_get hB i
      obtain ⟨y, ey, hy⟩ := by_get hB (i + 16)
      have hs := byS_succ hB.len hi
      rw [ex, ey, Int.toNat_natCast, Int.toNat_natCast] at hs
      have hg := grow (b := 65536) (by decide) (show i < 17 by omega) (byS out i) (x + 38 * y)
      have hd := grow_div (b := 65536) (by decide) i (byS out i) (x + 38 * y)
      rw [← hs] at hg hd
      have e1 : IntKind.i64.wrap ((i : Int) + 16) = ((i + 16 : Nat) : Int) := by rw [wi (by omega) (by omega)]; rfl
      have e2 : IntKind.i64.wrap (38 * (y : Int)) = ((38 * y : Nat) : Int) := by rw [wi (by omega) (by omega)]; omega
      have e3 : IntKind.i64.wrap ((x : Int) + ((38 * y : Nat) : Int)) = ((x + 38 * y : Nat) : Int) := by rw [← Int.natCast_add]; exact wNi' (by omega)
      have e4 : IntKind.i64.wrap (((byS out i / 65536 ^ i : Nat) : Int) + ((x + 38 * y : Nat) : Int)) = ((byS out i / 65536 ^ i + (x + 38 * y) : Nat) : Int) := by rw [← Int.natCast_add]; exact wNi' (by omega)
      rw [e1, i64w (by omega), Int.toNat_natCast, Int.toNat_natCast, ex, ey, e2, e3, e4, iand65 (by omega), ishr16, Int.toNat_natCast, hg, hd]
      and_intros <;> first | exact True.intro | rfl | omega
    · rename_i h
      have h := of_decide_eq_false h
      have hi : i = 16 := by omega
      subst hi
      have hb := byS_bound hB (i := 16) (by decide)
      have hv := byS_val hB hl
      rw [M16] at hb ⊢
      have hE := byEnd hb
      have e : (nB 65536 16 (byS out 16) ++ List.replicate (17 - 16) 0).set 16 ((byS out 16 / 115792089237316195423570985008687907853269984665640564039457584007913129639936 : Nat) : Int) = nB 65536 16 (byS out 16) ++ [((byS out 16 / 115792089237316195423570985008687907853269984665640564039457584007913129639936 : Nat) : Int)] := by
        rw [List.set_append_right _ _ (by rw [nB_length]; exact Nat.le_refl _), nB_length]
        rfl
      rw [e, hE.2, hv]
      exact ⟨⟨_, rfl, hE.1⟩, rfl⟩
theorem twF_ok {l : List Int} (h : isF l) (i : Nat) : isF (twF l i) := by
  unfold twF
  split
  · exact h
  · exact nF _
theorem fpw_nlt' (a n : Nat) : fpw a n < 115792089237316195423570985008687907853269984665640564039457584007913129639936 := fpw_nlt a n
theorem twF_mul {l : List Int} (i v : Nat) : v * vB 65536 (twF l i) % FP = v * vB 65536 l ^ (2 ^ i) % FP := by
  unfold twF
  split
  · rename_i h
    subst h
    rw [Nat.pow_zero, Nat.pow_one]
  · rw [fn (fpw_nlt _ _), fpw_eq, Nat.mul_mod_mod]
theorem twF_sq {l : List Int} (i : Nat) : nB 65536 16 (vB 65536 (twF l i) * vB 65536 (twF l i) % FP) = twF l (i + 1) := by
  rw [twF_mul, Nat.mul_comm, twF_mul, ← Nat.pow_add, show 2 ^ i + 2 ^ i = 2 ^ (i + 1) by rw [Nat.pow_succ]; omega]
  unfold twF
  rw [if_neg (by omega), fpw_eq]
set_option maxRecDepth 100000 in
theorem m119 : Meets Try.prog 119 sp119 := by
  refine meets_of_owed (C := c119) ⟨tab_ok, lkS_ok ⟨m100, m123, m54, trivial⟩⟩ (by kernel_rfl) (by kernel_rfl : Try.prog.funcs[119]? = some Try.f119) (by kernel_rfl) (by kernel_rfl) (by kernel_rfl) _ ?_
  rintro _ ⟨l, m, rfl, hl, hm, hml, hlt⟩
  refine ⟨fun _ => rfl, inv119 l m, ?_⟩
  show owed c119 (inv119 l m) Try.f119 [fel l, dgs m] (fe (fpw (vB 65536 l) (vB 65536 m)))
  rw [vc119]
  generalize vB 65536 m = N at hlt ⊢
  simp (decide := true) only [eq_self, true_and, and_true, ne_eq, not_false_eq_true, Int.toNat_natCast, nB_length]
  refine ⟨⟨1, rfl, by decide⟩, ⟨_, _, rfl, hm, hml, by decide, by decide⟩, ?_, ?_⟩
  · rw [Nat.mod_one, fpw_zero]
    and_intros <;> first | exact True.intro | rfl
  intro x hx
  split
  · rename_i h
    have h := of_decide_eq_true h
    have hx : x < 256 := by omega
    have hb := nB_get 2 256 N x hx
    have e1 : N % 2 ^ (x + 1) = N % 2 ^ x + 2 ^ x * (N / 2 ^ x % 2) := by rw [Nat.mod_pow_succ]
    have hbit : N / 2 ^ x % 2 = 0 ∨ N / 2 ^ x % 2 = 1 := by omega
    rw [hb, i64w (by omega), Int.toNat_natCast, twF_sq, twF_mul, fn (fpw_nlt _ _), e1]
    have hmul : fpw (vB 65536 l) (N % 2 ^ x) * vB 65536 l ^ 2 ^ x % FP = fpw (vB 65536 l) (N % 2 ^ x + 2 ^ x) := by
      rw [fpw_eq, fpw_eq, Nat.pow_add, Nat.mod_mul_mod]
    have ok := twF_ok hl x
    rcases hbit with hbit | hbit
    · rw [hbit, Nat.mul_zero, Nat.add_zero]
      show (_ ∧ _)
      and_intros <;> first | exact True.intro | rfl | omega | exact ⟨_, _, rfl, ok, ok⟩
    · rw [hbit, Nat.mul_one, hmul]
      show (_ ∧ _)
      and_intros <;> first | exact True.intro | rfl | omega | exact ⟨_, _, rfl, ok, ok⟩ | exact ⟨_, _, rfl, nF _, ok⟩
  · rename_i h
    have h := of_decide_eq_false h
    have hx : x = 256 := by omega
    subst hx
    rw [Nat.mod_eq_of_lt hlt]
set_option maxRecDepth 100000 in
theorem m55 : Meets Try.prog 55 sp55 := by
  refine meets_of_owed (C := c55) ⟨tab_ok, lkS_ok ⟨m112, m120, m119, trivial⟩⟩ (by kernel_rfl) (by kernel_rfl : Try.prog.funcs[55]? = some Try.f55) (by kernel_rfl) (by kernel_rfl) (by kernel_rfl) _ ?_
  rintro _ ⟨l, rfl, hl⟩
  refine ⟨fun _ => rfl, fun _ => none, ?_⟩
  show owed c55 (fun _ => none) Try.f55 [fel l] (fe (fpw (vB 65536 l) (FP - 2)))
  rw [vc55]
  have k1 := dgF_ok
  have k2 := one_ok (x := 2) (by decide)
  have hF := FP_eq
  have k3 := okLn (n := FP - Int.toNat 2) (by rw [hF]; decide)
  have k5 : vB 65536 (dg (FP - Int.toNat 2)) = FP - 2 := vl_dg _
  have k4 : vB 65536 [2] ≤ vB 65536 dgF := by rw [vD_dgF, vD_one, hF]; decide
  rw [vD_one, vD_dgF, k5]
  simp (decide := true) only [eq_self, true_and, and_true, ne_eq, not_false_eq_true]
  refine ⟨⟨_, _, rfl, ⟨k1.1, k1.2.1⟩, k2, k4⟩, ⟨_, _, rfl, hl, k3.1, k3.2.2.2, ?_⟩⟩
  rw [k5, hF]
  decide
end Go.Proofs.Ytnadggcfdakpoaa
namespace Go.Proofs.Ytnadggcfdakpoaa
open Go Go.Vg
abbrev ptD (l m : List Int) : D := .st [num4 l, num4 m]
def wF (d : D) (i : Nat) : Nat := wv (arrOf (fldOf d i))
def fF (d : D) (i : Nat) : Nat := vB 65536 (arrOf (fldOf d i))
def dN : Nat := 37095705934669439343138083508754565189542113879843219016388785533085940283555
def onB (x y : Nat) : Bool := decide (x < FP) && decide (y < FP) && decide (fsb (y * y % FP) (x * x % FP) = (1 + dN * (x * x % FP * (y * y % FP) % FP) % FP) % FP)
def oneF : List Int := [1, 0, 0, 0, 0, 0, 0, 0, 0, 0, 0, 0, 0, 0, 0, 0]
noncomputable def aff (x z : Nat) : Nat := x * fpw z (FP - 2) % FP
def ngO (x y : Nat) : Int := if onB x y then 0 else 1
noncomputable def sp40 : Go.Vg.Spec := ⟨fun ds => ∃ l m, ds = [ptD l m] ∧ isN l ∧ isN m, fun ds => .val (.bool (onB (wF (ds.headD default) 0) (wF (ds.headD default) 1))), true, [67]⟩
noncomputable def sp37 : Go.Vg.Spec := ⟨fun ds => ∃ l m, ds = [ptD l m] ∧ isN l ∧ isN m, fun ds => .val (.bool (onB (wF (ds.headD default) 0) (wF (ds.headD default) 1))), true, [67]⟩
def c40 : Ctx := ⟨tab, lkS [(106, sp106), (107, sp107), (105, sp105), (108, sp108), (109, sp109)], [], []⟩
def c37 : Ctx := ⟨tab, lkS [(46, sp46), (47, sp47), (54, sp54), (53, sp53), (100, sp100), (101, sp101)], [], []⟩
--KEEP List.replicate Nat.gcd Go.Vg.eqB Go.Vg.vB Go.Vg.nB Go.Vg.okd Go.Vg.okw Go.Vg.dg Go.Vg.dig Go.Vg.trimL okb lenOk lenS len1 sbd sbb dif bor cmpN shf i64ok subL sbD adl adc mulL mulH stL stH smN smC addL addK isN bl2 bitN pkL pkI isBits FP fsb fpw dNum isF okL dgF dFe dgP onB dN oneF aff ngO
set_option maxRecDepth 100000 in
theorem vc40  (l m : List Int) (F : D)  :
    (owed c40 (fun _ => none) Try.f40 [ptD l m] F) = (
 (True ∧ false = false) ∧
 True ∧
 (Sk.st [Sk.arr (4 : Nat), Sk.arr (4 : Nat)] = Sk.st [Sk.arr (4 : Nat), Sk.arr (4 : Nat)] ∧ (0 : Nat) < (2 : Nat)) ∧
 ((4 : Nat) ≠ (0 : Nat) ∧ (4 : Nat) = (4 : Nat) ∧ true = true) ∧
 (Sk.st [Sk.arr (4 : Nat), Sk.arr (4 : Nat)] = Sk.st [Sk.arr (4 : Nat), Sk.arr (4 : Nat)] ∧ (0 : Nat) < (2 : Nat)) ∧
 ((4 : Nat) ≠ (0 : Nat) ∧ (4 : Nat) = (4 : Nat) ∧ true = true) ∧
 (∃ (l_1 : List Int), [D.arr IntKind.u64 (4 : Nat) l] = [D.arr IntKind.u64 (4 : Nat) l_1] ∧ isN l_1) ∧
 (IntKind.u64 = IntKind.u64 ∧ IntKind.u64 = IntKind.u64 ∧ (4 : Nat) = (4 : Nat) ∧ (4 : Nat) = (4 : Nat) ∧ (1 : Nat) = (1 : Nat)) ∧
 True ∧
 match !eqB l (nB (18446744073709551616 : Nat) (4 : Nat) (vB (18446744073709551616 : Nat) l % FP)) with
 | true => True ∧ True ∧ (false = false ∧ True) ∧ D.val (Value.bool false) = F
 | false =>
  (Sk.st [Sk.arr (4 : Nat), Sk.arr (4 : Nat)] = Sk.st [Sk.arr (4 : Nat), Sk.arr (4 : Nat)] ∧ (1 : Nat) < (2 : Nat)) ∧
  ((4 : Nat) ≠ (0 : Nat) ∧ (4 : Nat) = (4 : Nat) ∧ true = true) ∧
  (Sk.st [Sk.arr (4 : Nat), Sk.arr (4 : Nat)] = Sk.st [Sk.arr (4 : Nat), Sk.arr (4 : Nat)] ∧ (1 : Nat) < (2 : Nat)) ∧
  ((4 : Nat) ≠ (0 : Nat) ∧ (4 : Nat) = (4 : Nat) ∧ true = true) ∧
  (∃ (l : List Int), [D.arr IntKind.u64 (4 : Nat) m] = [D.arr IntKind.u64 (4 : Nat) l] ∧ isN l) ∧
  (IntKind.u64 = IntKind.u64 ∧ IntKind.u64 = IntKind.u64 ∧ (4 : Nat) = (4 : Nat) ∧ (4 : Nat) = (4 : Nat) ∧ (1 : Nat) = (1 : Nat)) ∧
  True ∧
  match !eqB m (nB (18446744073709551616 : Nat) (4 : Nat) (vB (18446744073709551616 : Nat) m % FP)) with
  | true => True ∧ (false = false ∧ True) ∧ D.val (Value.bool false) = F
  | false =>
   (Sk.st [Sk.arr (4 : Nat), Sk.arr (4 : Nat)] = Sk.st [Sk.arr (4 : Nat), Sk.arr (4 : Nat)] ∧ (0 : Nat) < (2 : Nat)) ∧
   ((4 : Nat) ≠ (0 : Nat) ∧ (4 : Nat) = (4 : Nat) ∧ true = true) ∧
   (Sk.st [Sk.arr (4 : Nat), Sk.arr (4 : Nat)] = Sk.st [Sk.arr (4 : Nat), Sk.arr (4 : Nat)] ∧ (0 : Nat) < (2 : Nat)) ∧
   ((4 : Nat) ≠ (0 : Nat) ∧ (4 : Nat) = (4 : Nat) ∧ true = true) ∧
   (∃ (l_1 : List Int), ∃ (m : List Int), [D.arr IntKind.u64 (4 : Nat) l, D.arr IntKind.u64 (4 : Nat) l] = [D.arr IntKind.u64 (4 : Nat) l_1, D.arr IntKind.u64 (4 : Nat) m] ∧ isN l_1 ∧ isN m) ∧
   (Sk.st [Sk.arr (4 : Nat), Sk.arr (4 : Nat)] = Sk.st [Sk.arr (4 : Nat), Sk.arr (4 : Nat)] ∧ (1 : Nat) < (2 : Nat)) ∧
   ((4 : Nat) ≠ (0 : Nat) ∧ (4 : Nat) = (4 : Nat) ∧ true = true) ∧
   (Sk.st [Sk.arr (4 : Nat), Sk.arr (4 : Nat)] = Sk.st [Sk.arr (4 : Nat), Sk.arr (4 : Nat)] ∧ (1 : Nat) < (2 : Nat)) ∧
   ((4 : Nat) ≠ (0 : Nat) ∧ (4 : Nat) = (4 : Nat) ∧ true = true) ∧
   (∃ (l : List Int), ∃ (m_1 : List Int), [D.arr IntKind.u64 (4 : Nat) m, D.arr IntKind.u64 (4 : Nat) m] = [D.arr IntKind.u64 (4 : Nat) l, D.arr IntKind.u64 (4 : Nat) m_1] ∧ isN l ∧ isN m_1) ∧
   (True ∧ (4 : Nat) ≠ (0 : Nat)) ∧
   (True ∧ (4 : Nat) ≠ (0 : Nat)) ∧
   (Sk.arr (4 : Nat) = Sk.arr (4 : Nat) ∧ (4 : Nat) ≠ (0 : Nat) ∧ (4 : Nat) = (4 : Nat) ∧ false = false) ∧
   (Sk.arr (4 : Nat) = Sk.arr (4 : Nat) ∧ (4 : Nat) ≠ (0 : Nat) ∧ (4 : Nat) = (4 : Nat) ∧ false = false) ∧
   ((4 : Nat) ≠ (0 : Nat) ∧ (4 : Nat) = (4 : Nat) ∧ true = true) ∧
   ((4 : Nat) ≠ (0 : Nat) ∧ (4 : Nat) = (4 : Nat) ∧ true = true) ∧
   (∃ (l_1 : List Int),
   ∃ (m_1 : List Int),
   [D.arr IntKind.u64 (4 : Nat) (nB (18446744073709551616 : Nat) (4 : Nat) (vB (18446744073709551616 : Nat) m * vB (18446744073709551616 : Nat) m % FP)), D.arr IntKind.u64 (4 : Nat) (nB (18446744073709551616 : Nat) (4 : Nat) (vB (18446744073709551616 : Nat) l * vB (18446744073709551616 : Nat) l % FP))] =
   [D.arr IntKind.u64 (4 : Nat) l_1, D.arr IntKind.u64 (4 : Nat) m_1] ∧
   isN l_1 ∧ isN m_1) ∧
   ((1 : Nat) = (1 : Nat) ∧ false = false ∧ ((0 : Nat) < (4 : Nat) ∧ ([] : List Nat) = [] ∧ true = true) ∧ True) ∧
   (0 : Nat) = (0 : Nat) ∧
   ((4 : Nat) ≠ (0 : Nat) ∧ (4 : Nat) = (4 : Nat) ∧ true = true) ∧
   ((4 : Nat) ≠ (0 : Nat) ∧ (4 : Nat) = (4 : Nat) ∧ true = true) ∧
   (∃ (l_1 : List Int),
   ∃ (m_1 : List Int),
   [D.arr IntKind.u64 (4 : Nat) (nB (18446744073709551616 : Nat) (4 : Nat) (vB (18446744073709551616 : Nat) l * vB (18446744073709551616 : Nat) l % FP)), D.arr IntKind.u64 (4 : Nat) (nB (18446744073709551616 : Nat) (4 : Nat) (vB (18446744073709551616 : Nat) m * vB (18446744073709551616 : Nat) m % FP))] =
   [D.arr IntKind.u64 (4 : Nat) l_1, D.arr IntKind.u64 (4 : Nat) m_1] ∧
   isN l_1 ∧ isN m_1) ∧
   (∃ (l_1 : List Int),
   ∃ (m_1 : List Int),
   [D.arr IntKind.u64 (4 : Nat) dNum,
   D.arr IntKind.u64 (4 : Nat)
   (nB (18446744073709551616 : Nat) (4 : Nat)
   (vB (18446744073709551616 : Nat) (nB (18446744073709551616 : Nat) (4 : Nat) (vB (18446744073709551616 : Nat) l * vB (18446744073709551616 : Nat) l % FP)) *
   vB (18446744073709551616 : Nat) (nB (18446744073709551616 : Nat) (4 : Nat) (vB (18446744073709551616 : Nat) m * vB (18446744073709551616 : Nat) m % FP)) %
   FP))] =
   [D.arr IntKind.u64 (4 : Nat) l_1, D.arr IntKind.u64 (4 : Nat) m_1] ∧
   isN l_1 ∧ isN m_1) ∧
   (∃ (l_1 : List Int),
   ∃ (m_1 : List Int),
   [D.arr IntKind.u64 (4 : Nat) [(1 : Int), (0 : Int), (0 : Int), (0 : Int)],
   D.arr IntKind.u64 (4 : Nat)
   (nB (18446744073709551616 : Nat) (4 : Nat)
   (vB (18446744073709551616 : Nat) dNum *
   vB (18446744073709551616 : Nat)
   (nB (18446744073709551616 : Nat) (4 : Nat)
   (vB (18446744073709551616 : Nat) (nB (18446744073709551616 : Nat) (4 : Nat) (vB (18446744073709551616 : Nat) l * vB (18446744073709551616 : Nat) l % FP)) *
   vB (18446744073709551616 : Nat) (nB (18446744073709551616 : Nat) (4 : Nat) (vB (18446744073709551616 : Nat) m * vB (18446744073709551616 : Nat) m % FP)) %
   FP)) %
   FP))] =
   [D.arr IntKind.u64 (4 : Nat) l_1, D.arr IntKind.u64 (4 : Nat) m_1] ∧
   isN l_1 ∧ isN m_1) ∧
   (IntKind.u64 = IntKind.u64 ∧ IntKind.u64 = IntKind.u64 ∧ (4 : Nat) = (4 : Nat) ∧ (4 : Nat) = (4 : Nat) ∧ (1 : Nat) = (1 : Nat)) ∧
   True ∧
   (false = false ∧ True) ∧
   D.val
   (Value.bool
   (eqB
   (nB (18446744073709551616 : Nat) (4 : Nat)
   (fsb (vB (18446744073709551616 : Nat) (nB (18446744073709551616 : Nat) (4 : Nat) (vB (18446744073709551616 : Nat) m * vB (18446744073709551616 : Nat) m % FP)))
   (vB (18446744073709551616 : Nat) (nB (18446744073709551616 : Nat) (4 : Nat) (vB (18446744073709551616 : Nat) l * vB (18446744073709551616 : Nat) l % FP)))))
   (nB (18446744073709551616 : Nat) (4 : Nat)
   ((vB (18446744073709551616 : Nat) [(1 : Int), (0 : Int), (0 : Int), (0 : Int)] +
   vB (18446744073709551616 : Nat)
   (nB (18446744073709551616 : Nat) (4 : Nat)
   (vB (18446744073709551616 : Nat) dNum *
   vB (18446744073709551616 : Nat)
   (nB (18446744073709551616 : Nat) (4 : Nat)
   (vB (18446744073709551616 : Nat) (nB (18446744073709551616 : Nat) (4 : Nat) (vB (18446744073709551616 : Nat) l * vB (18446744073709551616 : Nat) l % FP)) *
   vB (18446744073709551616 : Nat) (nB (18446744073709551616 : Nat) (4 : Nat) (vB (18446744073709551616 : Nat) m * vB (18446744073709551616 : Nat) m % FP)) %
   FP)) %
   FP))) %
   FP)))) =
   F) := by kernel_rfl
set_option maxRecDepth 100000 in
theorem vc37  (l m : List Int) (F : D)  :
    (owed c37 (fun _ => none) Try.f37 [ptD l m] F) = (
 (True ∧ false = false) ∧
 True ∧
 (Sk.st [Sk.arr (4 : Nat), Sk.arr (4 : Nat)] = Sk.st [Sk.arr (4 : Nat), Sk.arr (4 : Nat)] ∧ (0 : Nat) < (2 : Nat)) ∧
 ((4 : Nat) ≠ (0 : Nat) ∧ (4 : Nat) = (4 : Nat) ∧ true = true) ∧
 (∃ (l_1 : List Int), [D.arr IntKind.u64 (4 : Nat) l] = [D.arr IntKind.u64 (4 : Nat) l_1] ∧ isN l_1) ∧
 (Sk.st [Sk.arr (4 : Nat), Sk.arr (4 : Nat)] = Sk.st [Sk.arr (4 : Nat), Sk.arr (4 : Nat)] ∧ (1 : Nat) < (2 : Nat)) ∧
 ((4 : Nat) ≠ (0 : Nat) ∧ (4 : Nat) = (4 : Nat) ∧ true = true) ∧
 (∃ (l : List Int), [D.arr IntKind.u64 (4 : Nat) m] = [D.arr IntKind.u64 (4 : Nat) l] ∧ isN l) ∧
 (True ∧ (16 : Nat) ≠ (0 : Nat)) ∧
 (True ∧ (16 : Nat) ≠ (0 : Nat)) ∧
 (Sk.arr (16 : Nat) = Sk.arr (16 : Nat) ∧ (16 : Nat) ≠ (0 : Nat) ∧ (16 : Nat) = (16 : Nat) ∧ false = false) ∧
 (Sk.arr (16 : Nat) = Sk.arr (16 : Nat) ∧ (16 : Nat) ≠ (0 : Nat) ∧ (16 : Nat) = (16 : Nat) ∧ false = false) ∧
 ((16 : Nat) ≠ (0 : Nat) ∧ (16 : Nat) = (16 : Nat) ∧ true = true) ∧
 (∃ (l_1 : List Int), [D.arr IntKind.i64 (16 : Nat) (nB (65536 : Nat) (16 : Nat) (vB (18446744073709551616 : Nat) l % FP))] = [D.arr IntKind.i64 (16 : Nat) l_1] ∧ isF l_1) ∧
 (Sk.st [Sk.arr (4 : Nat), Sk.arr (4 : Nat)] = Sk.st [Sk.arr (4 : Nat), Sk.arr (4 : Nat)] ∧ (0 : Nat) < (2 : Nat)) ∧
 ((4 : Nat) ≠ (0 : Nat) ∧ (4 : Nat) = (4 : Nat) ∧ true = true) ∧
 (IntKind.u64 = IntKind.u64 ∧ IntKind.u64 = IntKind.u64 ∧ (4 : Nat) = (4 : Nat) ∧ (4 : Nat) = (4 : Nat) ∧ (1 : Nat) = (1 : Nat)) ∧
 True ∧
 match !eqB (nB (18446744073709551616 : Nat) (4 : Nat) (vB (65536 : Nat) (nB (65536 : Nat) (16 : Nat) (vB (18446744073709551616 : Nat) l % FP)))) l with
 | true => True ∧ True ∧ (false = false ∧ True) ∧ D.val (Value.bool false) = F
 | false =>
  ((16 : Nat) ≠ (0 : Nat) ∧ (16 : Nat) = (16 : Nat) ∧ true = true) ∧
  (∃ (l : List Int), [D.arr IntKind.i64 (16 : Nat) (nB (65536 : Nat) (16 : Nat) (vB (18446744073709551616 : Nat) m % FP))] = [D.arr IntKind.i64 (16 : Nat) l] ∧ isF l) ∧
  (Sk.st [Sk.arr (4 : Nat), Sk.arr (4 : Nat)] = Sk.st [Sk.arr (4 : Nat), Sk.arr (4 : Nat)] ∧ (1 : Nat) < (2 : Nat)) ∧
  ((4 : Nat) ≠ (0 : Nat) ∧ (4 : Nat) = (4 : Nat) ∧ true = true) ∧
  (IntKind.u64 = IntKind.u64 ∧ IntKind.u64 = IntKind.u64 ∧ (4 : Nat) = (4 : Nat) ∧ (4 : Nat) = (4 : Nat) ∧ (1 : Nat) = (1 : Nat)) ∧
  True ∧
  match !eqB (nB (18446744073709551616 : Nat) (4 : Nat) (vB (65536 : Nat) (nB (65536 : Nat) (16 : Nat) (vB (18446744073709551616 : Nat) m % FP)))) m with
  | true => True ∧ (false = false ∧ True) ∧ D.val (Value.bool false) = F
  | false =>
   ((16 : Nat) ≠ (0 : Nat) ∧ (16 : Nat) = (16 : Nat) ∧ true = true) ∧
   ((16 : Nat) ≠ (0 : Nat) ∧ (16 : Nat) = (16 : Nat) ∧ true = true) ∧
   (∃ (l_1 : List Int), ∃ (m : List Int), [D.arr IntKind.i64 (16 : Nat) (nB (65536 : Nat) (16 : Nat) (vB (18446744073709551616 : Nat) l % FP)), D.arr IntKind.i64 (16 : Nat) (nB (65536 : Nat) (16 : Nat) (vB (18446744073709551616 : Nat) l % FP))] = [D.arr IntKind.i64 (16 : Nat) l_1, D.arr IntKind.i64 (16 : Nat) m] ∧ isF l_1 ∧ isF m) ∧
   ((16 : Nat) ≠ (0 : Nat) ∧ (16 : Nat) = (16 : Nat) ∧ true = true) ∧
   ((16 : Nat) ≠ (0 : Nat) ∧ (16 : Nat) = (16 : Nat) ∧ true = true) ∧
   (∃ (l : List Int), ∃ (m_1 : List Int), [D.arr IntKind.i64 (16 : Nat) (nB (65536 : Nat) (16 : Nat) (vB (18446744073709551616 : Nat) m % FP)), D.arr IntKind.i64 (16 : Nat) (nB (65536 : Nat) (16 : Nat) (vB (18446744073709551616 : Nat) m % FP))] = [D.arr IntKind.i64 (16 : Nat) l, D.arr IntKind.i64 (16 : Nat) m_1] ∧ isF l ∧ isF m_1) ∧
   (True ∧ (16 : Nat) ≠ (0 : Nat)) ∧
   (True ∧ (16 : Nat) ≠ (0 : Nat)) ∧
   (Sk.arr (16 : Nat) = Sk.arr (16 : Nat) ∧ (16 : Nat) ≠ (0 : Nat) ∧ (16 : Nat) = (16 : Nat) ∧ false = false) ∧
   (Sk.arr (16 : Nat) = Sk.arr (16 : Nat) ∧ (16 : Nat) ≠ (0 : Nat) ∧ (16 : Nat) = (16 : Nat) ∧ false = false) ∧
   ((16 : Nat) ≠ (0 : Nat) ∧ (16 : Nat) = (16 : Nat) ∧ true = true) ∧
   (∃ (n : Nat), [D.val (Value.int IntKind.i64 (1 : Int))] = [D.val (Value.int IntKind.i64 (↑n : Int))] ∧ n < (65536 : Nat)) ∧
   ((16 : Nat) ≠ (0 : Nat) ∧ (16 : Nat) = (16 : Nat) ∧ true = true) ∧
   (∃ (l_1 : List Int),
   ∃ (m : List Int),
   [D.arr IntKind.i64 (16 : Nat) [(1 : Int), (0 : Int), (0 : Int), (0 : Int), (0 : Int), (0 : Int), (0 : Int), (0 : Int), (0 : Int), (0 : Int), (0 : Int), (0 : Int), (0 : Int), (0 : Int), (0 : Int), (0 : Int)],
   D.arr IntKind.i64 (16 : Nat) (nB (65536 : Nat) (16 : Nat) (vB (65536 : Nat) (nB (65536 : Nat) (16 : Nat) (vB (18446744073709551616 : Nat) l % FP)) * vB (65536 : Nat) (nB (65536 : Nat) (16 : Nat) (vB (18446744073709551616 : Nat) l % FP)) % FP))] =
   [D.arr IntKind.i64 (16 : Nat) l_1, D.arr IntKind.i64 (16 : Nat) m] ∧
   isF l_1 ∧ isF m) ∧
   (0 : Nat) = (0 : Nat) ∧
   ((16 : Nat) ≠ (0 : Nat) ∧ (16 : Nat) = (16 : Nat) ∧ true = true) ∧
   (∃ (l_1 : List Int),
   ∃ (m : List Int),
   [D.arr IntKind.i64 (16 : Nat) dFe, D.arr IntKind.i64 (16 : Nat) (nB (65536 : Nat) (16 : Nat) (vB (65536 : Nat) (nB (65536 : Nat) (16 : Nat) (vB (18446744073709551616 : Nat) l % FP)) * vB (65536 : Nat) (nB (65536 : Nat) (16 : Nat) (vB (18446744073709551616 : Nat) l % FP)) % FP))] =
   [D.arr IntKind.i64 (16 : Nat) l_1, D.arr IntKind.i64 (16 : Nat) m] ∧
   isF l_1 ∧ isF m) ∧
   ((16 : Nat) ≠ (0 : Nat) ∧ (16 : Nat) = (16 : Nat) ∧ true = true) ∧
   (∃ (l_1 : List Int),
   ∃ (m_1 : List Int),
   [D.arr IntKind.i64 (16 : Nat)
   (nB (65536 : Nat) (16 : Nat) (vB (65536 : Nat) dFe * vB (65536 : Nat) (nB (65536 : Nat) (16 : Nat) (vB (65536 : Nat) (nB (65536 : Nat) (16 : Nat) (vB (18446744073709551616 : Nat) l % FP)) * vB (65536 : Nat) (nB (65536 : Nat) (16 : Nat) (vB (18446744073709551616 : Nat) l % FP)) % FP)) % FP)),
   D.arr IntKind.i64 (16 : Nat) (nB (65536 : Nat) (16 : Nat) (vB (65536 : Nat) (nB (65536 : Nat) (16 : Nat) (vB (18446744073709551616 : Nat) m % FP)) * vB (65536 : Nat) (nB (65536 : Nat) (16 : Nat) (vB (18446744073709551616 : Nat) m % FP)) % FP))] =
   [D.arr IntKind.i64 (16 : Nat) l_1, D.arr IntKind.i64 (16 : Nat) m_1] ∧
   isF l_1 ∧ isF m_1) ∧
   (∃ (l_1 : List Int),
   ∃ (m_1 : List Int),
   [D.arr IntKind.i64 (16 : Nat)
   (nB (65536 : Nat) (16 : Nat)
   ((vB (65536 : Nat) [(1 : Int), (0 : Int), (0 : Int), (0 : Int), (0 : Int), (0 : Int), (0 : Int), (0 : Int), (0 : Int), (0 : Int), (0 : Int), (0 : Int), (0 : Int), (0 : Int), (0 : Int), (0 : Int)] +
   vB (65536 : Nat) (nB (65536 : Nat) (16 : Nat) (vB (65536 : Nat) (nB (65536 : Nat) (16 : Nat) (vB (18446744073709551616 : Nat) l % FP)) * vB (65536 : Nat) (nB (65536 : Nat) (16 : Nat) (vB (18446744073709551616 : Nat) l % FP)) % FP))) %
   FP)),
   D.arr IntKind.i64 (16 : Nat)
   (nB (65536 : Nat) (16 : Nat)
   (vB (65536 : Nat)
   (nB (65536 : Nat) (16 : Nat)
   (vB (65536 : Nat) dFe * vB (65536 : Nat) (nB (65536 : Nat) (16 : Nat) (vB (65536 : Nat) (nB (65536 : Nat) (16 : Nat) (vB (18446744073709551616 : Nat) l % FP)) * vB (65536 : Nat) (nB (65536 : Nat) (16 : Nat) (vB (18446744073709551616 : Nat) l % FP)) % FP)) % FP)) *
   vB (65536 : Nat) (nB (65536 : Nat) (16 : Nat) (vB (65536 : Nat) (nB (65536 : Nat) (16 : Nat) (vB (18446744073709551616 : Nat) m % FP)) * vB (65536 : Nat) (nB (65536 : Nat) (16 : Nat) (vB (18446744073709551616 : Nat) m % FP)) % FP)) %
   FP))] =
   [D.arr IntKind.i64 (16 : Nat) l_1, D.arr IntKind.i64 (16 : Nat) m_1] ∧
   isF l_1 ∧ isF m_1) ∧
   (IntKind.i64 = IntKind.i64 ∧ IntKind.i64 = IntKind.i64 ∧ (16 : Nat) = (16 : Nat) ∧ (16 : Nat) = (16 : Nat) ∧ (1 : Nat) = (1 : Nat)) ∧
   True ∧
   (false = false ∧ True) ∧
   D.val
   (Value.bool
   (eqB (nB (65536 : Nat) (16 : Nat) (vB (65536 : Nat) (nB (65536 : Nat) (16 : Nat) (vB (18446744073709551616 : Nat) m % FP)) * vB (65536 : Nat) (nB (65536 : Nat) (16 : Nat) (vB (18446744073709551616 : Nat) m % FP)) % FP))
   (nB (65536 : Nat) (16 : Nat)
   ((vB (65536 : Nat)
   (nB (65536 : Nat) (16 : Nat)
   ((vB (65536 : Nat) [(1 : Int), (0 : Int), (0 : Int), (0 : Int), (0 : Int), (0 : Int), (0 : Int), (0 : Int), (0 : Int), (0 : Int), (0 : Int), (0 : Int), (0 : Int), (0 : Int), (0 : Int), (0 : Int)] +
   vB (65536 : Nat) (nB (65536 : Nat) (16 : Nat) (vB (65536 : Nat) (nB (65536 : Nat) (16 : Nat) (vB (18446744073709551616 : Nat) l % FP)) * vB (65536 : Nat) (nB (65536 : Nat) (16 : Nat) (vB (18446744073709551616 : Nat) l % FP)) % FP))) %
   FP)) +
   vB (65536 : Nat)
   (nB (65536 : Nat) (16 : Nat)
   (vB (65536 : Nat)
   (nB (65536 : Nat) (16 : Nat)
   (vB (65536 : Nat) dFe * vB (65536 : Nat) (nB (65536 : Nat) (16 : Nat) (vB (65536 : Nat) (nB (65536 : Nat) (16 : Nat) (vB (18446744073709551616 : Nat) l % FP)) * vB (65536 : Nat) (nB (65536 : Nat) (16 : Nat) (vB (18446744073709551616 : Nat) l % FP)) % FP)) % FP)) *
   vB (65536 : Nat) (nB (65536 : Nat) (16 : Nat) (vB (65536 : Nat) (nB (65536 : Nat) (16 : Nat) (vB (18446744073709551616 : Nat) m % FP)) * vB (65536 : Nat) (nB (65536 : Nat) (16 : Nat) (vB (18446744073709551616 : Nat) m % FP)) % FP)) %
   FP))) %
   FP)))) =
   F) := by kernel_rfl
end Go.Proofs.Ytnadggcfdakpoaa
namespace Go.Proofs.Ytnadggcfdakpoaa
open Go Go.Vg
theorem flt (v : Nat) : v % FP < 115792089237316195423570985008687907853269984665640564039457584007913129639936 := by have := mlt v; rw [FP_eq] at this ⊢; omega
theorem fsb_lt (a b : Nat) : fsb a b < FP := mlt _
theorem fslt (a b : Nat) : fsb a b < 115792089237316195423570985008687907853269984665640564039457584007913129639936 := flt _
theorem wnm (v : Nat) : vB 18446744073709551616 (nB 18446744073709551616 4 (v % FP)) = v % FP := wn (flt v)
theorem wns (a b : Nat) : vB 18446744073709551616 (nB 18446744073709551616 4 (fsb a b)) = fsb a b := wn (flt _)
theorem wnp (a b : Nat) : vB 18446744073709551616 (nB 18446744073709551616 4 (fpw a b)) = fpw a b := wn (fpw_nlt a b)
theorem fnm (v : Nat) : vB 65536 (nB 65536 16 (v % FP)) = v % FP := fn (flt v)
theorem fns (a b : Nat) : vB 65536 (nB 65536 16 (fsb a b)) = fsb a b := fn (flt _)
theorem fnp (a b : Nat) : vB 65536 (nB 65536 16 (fpw a b)) = fpw a b := fn (fpw_nlt a b)
theorem wdN : vB 18446744073709551616 dNum = dN := by decide
theorem fdN : vB 65536 dFe = dN := by decide
theorem w1 : vB 18446744073709551616 [1, 0, 0, 0] = 1 := rfl
theorem w0 : vB 18446744073709551616 [0, 0, 0, 0] = 0 := rfl
theorem f1 : vB 65536 oneF = 1 := rfl
theorem f1' : vB 65536 [1, 0, 0, 0, 0, 0, 0, 0, 0, 0, 0, 0, 0, 0, 0, 0] = 1 := rfl
theorem okw_dec {l : List Int} (h : l.all (fun x => decide (0 ≤ x) && decide (x < 18446744073709551616)) = true) : okw l := by
  intro x hx
  have := List.all_eq_true.1 h x hx
  rw [Bool.and_eq_true] at this
  exact ⟨of_decide_eq_true this.1, of_decide_eq_true this.2⟩
theorem okd_dec {l : List Int} (h : l.all (fun x => decide (0 ≤ x) && decide (x < 65536)) = true) : okd l := by
  intro x hx
  have := List.all_eq_true.1 h x hx
  rw [Bool.and_eq_true] at this
  exact ⟨of_decide_eq_true this.1, of_decide_eq_true this.2⟩
theorem N_d : isN dNum := ⟨okw_dec (by decide), rfl⟩
theorem N_1 : isN [1, 0, 0, 0] := ⟨okw_dec (by decide), rfl⟩
theorem N_0 : isN [0, 0, 0, 0] := ⟨okw_dec (by decide), rfl⟩
theorem F_d : isF dFe := ⟨okd_dec (by decide), rfl⟩
theorem F_1 : isF oneF := ⟨okd_dec (by decide), rfl⟩
theorem F_1' : isF [1, 0, 0, 0, 0, 0, 0, 0, 0, 0, 0, 0, 0, 0, 0, 0] := ⟨okd_dec (by decide), rfl⟩
theorem eqB_low {l : List Int} (h : isN l) : eqB l (nB 18446744073709551616 4 (vB 18446744073709551616 l % FP)) = decide (vB 18446744073709551616 l < FP) := by
  rw [eqB_eq, decide_eq_decide]
  constructor
  · intro e
    have := congrArg (vB 18446744073709551616) e
    rw [wnm] at this
    rw [this]; exact mlt _
  · intro e
    rw [Nat.mod_eq_of_lt e]
    exact (num_nB h).symm
theorem eqB_low' {l : List Int} (h : isN l) : eqB (nB 18446744073709551616 4 (vB 18446744073709551616 l % FP)) l = decide (vB 18446744073709551616 l < FP) := by
  rw [← eqB_low h, eqB_eq, eqB_eq, decide_eq_decide]
  exact ⟨fun h => h.symm, fun h => h.symm⟩
theorem eqB_num {a b : Nat} (ha : a < 115792089237316195423570985008687907853269984665640564039457584007913129639936) (hb : b < 115792089237316195423570985008687907853269984665640564039457584007913129639936) : eqB (nB 18446744073709551616 4 a) (nB 18446744073709551616 4 b) = decide (a = b) := by
  rw [eqB_eq, decide_eq_decide]
  constructor
  · intro e
    have := congrArg (vB 18446744073709551616) e
    rwa [wn ha, wn hb] at this
  · intro e; rw [e]
theorem eqB_fe {a b : Nat} (ha : a < 115792089237316195423570985008687907853269984665640564039457584007913129639936) (hb : b < 115792089237316195423570985008687907853269984665640564039457584007913129639936) : eqB (nB 65536 16 a) (nB 65536 16 b) = decide (a = b) := by
  rw [eqB_eq, decide_eq_decide]
  constructor
  · intro e
    have := congrArg (vB 65536) e
    rwa [fn ha, fn hb] at this
  · intro e; rw [e]
theorem onB_of {x y : Nat} (hx : x < FP) (hy : y < FP) : onB x y = decide (fsb (y * y % FP) (x * x % FP) = (1 + dN * (x * x % FP * (y * y % FP) % FP) % FP) % FP) := by
  unfold onB
  rw [decide_eq_true hx, decide_eq_true hy, Bool.true_and, Bool.true_and]
theorem onB_x {x y : Nat} (hx : ¬ x < FP) : onB x y = false := by
  unfold onB
  rw [decide_eq_false hx, Bool.false_and, Bool.false_and]
theorem onB_y {x y : Nat} (hy : ¬ y < FP) : onB x y = false := by
  unfold onB
  rw [decide_eq_false hy, Bool.and_false, Bool.false_and]
theorem onB_ref (a b : Nat) : (fsb (b % FP) (a % FP) = (1 + dN * (a % FP * (b % FP) % FP) % FP) % FP) ↔ b % FP = ((1 + a % FP) % FP + dN * (a % FP) % FP * (b % FP) % FP) % FP := by
  have h1 := mlt a
  have h2 := mlt b
  have e1 : dN * (a % FP * (b % FP) % FP) % FP = dN * (a % FP) % FP * (b % FP) % FP := by
    rw [Nat.mul_mod_mod, Nat.mod_mul_mod, Nat.mul_assoc]
  rw [e1]
  unfold fsb
  have h3 := mlt (dN * (a % FP) % FP * (b % FP))
  generalize dN * (a % FP) % FP * (b % FP) % FP = e at *
  generalize a % FP = a at *
  generalize b % FP = b at *
  rw [FP_eq] at *
  omega
set_option maxRecDepth 100000 in
theorem m40 : Meets Try.prog 40 sp40 := by
  refine meets_of_owed (C := c40) ⟨tab_ok, lkS_ok ⟨m106, m107, m105, m108, m109, trivial⟩⟩ (by kernel_rfl) (by kernel_rfl : Try.prog.funcs[40]? = some Try.f40) (by kernel_rfl) (by kernel_rfl) (by kernel_rfl) _ ?_
  rintro _ ⟨l, m, rfl, hl, hm⟩
  refine ⟨fun _ => rfl, fun _ => none, ?_⟩
  show owed c40 (fun _ => none) Try.f40 [ptD l m] (.val (.bool (onB (wv l) (wv m))))
  rw [vc40]
  have hd := N_d
  have h1 := N_1
  rw [eqB_low hl, eqB_low hm]
  simp (decide := true) only [eq_self, true_and, and_true, ne_eq, not_false_eq_true, wnm, wns, wdN, w1]
  refine ⟨⟨_, rfl, hl⟩, ?_⟩
  by_cases hx : vB 18446744073709551616 l < FP
  · rw [decide_eq_true hx]
    refine ⟨⟨_, rfl, hm⟩, ?_⟩
    by_cases hy : vB 18446744073709551616 m < FP
    · rw [decide_eq_true hy, eqB_num (fslt _ _) (flt _)]
      have e := onB_of hx hy
      refine ⟨⟨_, _, rfl, hl, hl⟩, ⟨_, _, rfl, hm, hm⟩, ⟨_, _, rfl, nN _, nN _⟩, ⟨_, _, rfl, nN _, nN _⟩, ⟨_, _, rfl, hd, nN _⟩, ⟨_, _, rfl, h1, nN _⟩, ?_⟩
      rw [show onB (wv l) (wv m) = _ from e]
    · rw [decide_eq_false hy]
      have e : onB (wv l) (wv m) = false := onB_y hy
      rw [e]; rfl
  · rw [decide_eq_false hx]
    have e : onB (wv l) (wv m) = false := onB_x hx
    rw [e]; rfl
set_option maxRecDepth 100000 in
theorem m37 : Meets Try.prog 37 sp37 := by
  refine meets_of_owed (C := c37) ⟨tab_ok, lkS_ok ⟨m46, m47, m54, m53, m100, m101, trivial⟩⟩ (by kernel_rfl) (by kernel_rfl : Try.prog.funcs[37]? = some Try.f37) (by kernel_rfl) (by kernel_rfl) (by kernel_rfl) _ ?_
  rintro _ ⟨l, m, rfl, hl, hm⟩
  refine ⟨fun _ => rfl, fun _ => none, ?_⟩
  show owed c37 (fun _ => none) Try.f37 [ptD l m] (.val (.bool (onB (wv l) (wv m))))
  rw [vc37]
  have hd := F_d
  have h1 := F_1'
  simp (decide := true) only [eq_self, true_and, and_true, ne_eq, not_false_eq_true, fnm, fdN, f1']
  rw [eqB_low' hl, eqB_low' hm]
  refine ⟨⟨_, rfl, hl⟩, ⟨_, rfl, hm⟩, ⟨_, rfl, nF _⟩, ?_⟩
  by_cases hx : vB 18446744073709551616 l < FP
  · rw [decide_eq_true hx]
    refine ⟨⟨_, rfl, nF _⟩, ?_⟩
    by_cases hy : vB 18446744073709551616 m < FP
    · rw [decide_eq_true hy, eqB_fe (flt _) (flt _), Nat.mod_eq_of_lt hx, Nat.mod_eq_of_lt hy]
      have e := onB_of hx hy
      have e2 := onB_ref (vB 18446744073709551616 l * vB 18446744073709551616 l) (vB 18446744073709551616 m * vB 18446744073709551616 m)
      rw [show onB (wv l) (wv m) = _ from e, decide_eq_decide.2 e2]
      refine ⟨⟨_, _, rfl, nF _, nF _⟩, ⟨_, _, rfl, nF _, nF _⟩, ⟨1, rfl, by decide⟩, ⟨_, _, rfl, h1, nF _⟩, ⟨_, _, rfl, hd, nF _⟩, ⟨_, _, rfl, nF _, nF _⟩, ⟨_, _, rfl, nF _, nF _⟩, rfl⟩
    · rw [decide_eq_false hy]
      have e : onB (wv l) (wv m) = false := onB_y hy
      rw [e]; rfl
  · rw [decide_eq_false hx]
    have e : onB (wv l) (wv m) = false := onB_x hx
    rw [e]; rfl
end Go.Proofs.Ytnadggcfdakpoaa
namespace Go.Vg
def pm (m : Nat) : Nat → Nat → Nat → Nat
  | 0, _, _ => 1 % m
  | k + 1, b, e => if e % 2 = 1 then pm m k (b * b % m) (e / 2) * b % m else pm m k (b * b % m) (e / 2)
theorem pm_eq (m : Nat) : ∀ k b e, e < 2 ^ k → pm m k b e = b ^ e % m
  | 0, b, e, h => by
    have : e = 0 := by rw [Nat.pow_zero] at h; omega
    subst this
    rfl
  | k + 1, b, e, h => by
    have h2 : e / 2 < 2 ^ k := by rw [Nat.pow_succ] at h; omega
    have ih := pm_eq m k (b * b % m) (e / 2) h2
    have e1 : (b * b % m) ^ (e / 2) % m = b ^ (2 * (e / 2)) % m := by rw [← Nat.pow_mod, Nat.pow_mul, Nat.pow_two]
    unfold pm
    rw [ih, e1]
    split
    · rw [Nat.mod_mul_mod, ← Nat.pow_succ]
      congr 2
      omega
    · congr 2
      omega
end Go.Vg
namespace Go.Proofs.Ytnadggcfdakpoaa
open Go Go.Vg
def Rp (a : Nat) (x : Int) : Prop := (a : Int) % (FP : Int) = x % (FP : Int)
theorem Rp_to {a : Nat} {x y : Int} (h : Rp a x) (e : x = y) : Rp a y := e ▸ h
theorem Rp_var (a : Nat) : Rp a a := rfl
theorem Rp_mod {a : Nat} {x : Int} (h : Rp a x) : Rp (a % FP) x := by
  unfold Rp at *
  rw [← h, Int.natCast_emod, Int.emod_emod]
theorem Rp_add {a b : Nat} {x y : Int} (h : Rp a x) (h' : Rp b y) : Rp (a + b) (x + y) := by
  unfold Rp at *
  rw [Int.natCast_add, Int.add_emod, h, h', ← Int.add_emod]
theorem Rp_mul {a b : Nat} {x y : Int} (h : Rp a x) (h' : Rp b y) : Rp (a * b) (x * y) := by
  unfold Rp at *
  rw [Int.natCast_mul, Int.mul_emod, h, h', ← Int.mul_emod]
theorem Rp_fsb {a b : Nat} {x y : Int} (h : Rp a x) (h' : Rp b y) : Rp (fsb a b) (x - y) := by
  unfold Rp at *
  rw [Int.sub_emod, ← h, ← h']
  unfold fsb
  rw [FP_eq]
  omega
theorem Rp_pow {a : Nat} {x : Int} (h : Rp a x) : ∀ n, Rp (a ^ n) (x ^ n)
  | 0 => by rw [Nat.pow_zero, Int.pow_zero]; rfl
  | n + 1 => by
    rw [Nat.pow_succ, Int.pow_succ]
    exact Rp_mul (Rp_pow h n) h
theorem Rp_fpw {a : Nat} {x : Int} (h : Rp a x) (n : Nat) : Rp (fpw a n) (x ^ n) := by
  rw [fpw_eq]
  exact Rp_mod (Rp_pow h n)
theorem Rp_aff {a b : Nat} {x y : Int} (h : Rp a x) (h' : Rp b y) : Rp (aff a b) (x * y ^ (FP - 2)) := Rp_mod (Rp_mul h (Rp_fpw h' _))
theorem Rp_eq {a b : Nat} {x : Int} (h : Rp a x) (h' : Rp b x) (ha : a < FP) (hb : b < FP) : a = b := by
  unfold Rp at *
  rw [← h'] at h
  rw [FP_eq] at h ha hb
  omega
theorem Rp_id {a b : Nat} {x : Int} (h : Rp a x) (hb : (b : Int) % (FP : Int) = a % (FP : Int)) : Rp b x := by
  unfold Rp at *
  rw [hb, h]
theorem aff_lt (a b : Nat) : aff a b < FP := mlt _
theorem four_pow : 4 ^ (FP - 1) % FP = 1 := by
  rw [← pm_eq FP 256 4 (FP - 1) (by rw [FP_eq]; decide)]
  kernel_rfl
theorem aff_four {a b a' b' : Nat} {x z : Int} (h1 : Rp a (4 * x)) (h2 : Rp b (4 * z)) (h3 : Rp a' x) (h4 : Rp b' z) : aff a b = aff a' b' := by
  have k1 := Rp_aff h1 h2
  have k2 := Rp_aff h3 h4
  have e : (4 * x) * (4 * z) ^ (FP - 2) = (4 ^ (FP - 1)) * (x * z ^ (FP - 2)) := by
    have hn : FP - 1 = (FP - 2) + 1 := by rw [FP_eq]
    rw [hn]
    generalize FP - 2 = n
    rw [Int.mul_pow, Int.pow_succ]
    generalize (4 : Int) ^ n = p
    generalize z ^ n = q
    grind
  rw [e] at k1
  have e4 : ((4 : Int) ^ (FP - 1)) % (FP : Int) = 1 % (FP : Int) := by
    have h := four_pow
    have h2 : (((4 ^ (FP - 1) : Nat) : Int)) % (FP : Int) = ((1 : Nat) : Int) := by rw [← Int.natCast_emod, h]
    rw [Int.natCast_pow] at h2
    have h3 : ((4 : Nat) : Int) ^ (FP - 1) = (4 : Int) ^ (FP - 1) := rfl
    rw [h3] at h2
    rw [h2, FP_eq]
    rfl
  have k3 : Rp (aff a b) (x * z ^ (FP - 2)) := by
    unfold Rp at k1 ⊢
    rw [k1, Int.mul_emod, e4, ← Int.mul_emod, Int.one_mul]
  exact Rp_eq k3 k2 (aff_lt _ _) (aff_lt _ _)
end Go.Proofs.Ytnadggcfdakpoaa
