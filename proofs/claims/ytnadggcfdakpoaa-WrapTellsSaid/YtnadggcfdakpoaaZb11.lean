/- package aes and the reference's cipher: what Encrypt, Decrypt, Words and Equal owe. -/
import Derived.Test.YtnadggcfdakpoaaZb10
namespace Go.Proofs.Ytnadggcfdakpoaa
open Go Go.Vg
def enS (w b : List Int) (R : Nat) : Nat → List Int
 | 0 => adK w 0 b
 | k + 1 => adK w (k + 1) (if k + 1 < R then eaL [2, 3, 1, 1] (shL (enS w b R k)) else shL (enS w b R k))
def enL (w : List Int) (R : Nat) (b : List Int) : List Int := enS w b R R
def deS (w b : List Int) (R : Nat) : Nat → List Int
 | 0 => b
 | j + 1 => usL (if R - j < R then eaL [14, 11, 13, 9] (adK w (R - j) (deS w b R j)) else adK w (R - j) (deS w b R j))
def deL (w : List Int) (R : Nat) (b : List Int) : List Int := adK w 0 (deS w b R R)
def okX (bx ux : List Int) : Prop := isB 256 bx ∧ isB 256 ux ∧ ∀ a : Nat, a < 256 → bx.getD a 0 = ((gbx a : Nat) : Int) ∧ ux.getD a 0 = ((gux a : Nat) : Int)
def sp25 : Go.Vg.Spec := ⟨fun ds => ∃ w R b, ds = [keyD w ((R : Nat) : Int), b16 b] ∧ isB 240 w ∧ isB 16 b ∧ R ≤ 14, fun ds => b16 (enL (kwL (ds.headD default)) (krI (ds.headD default)).toNat (arrOf (ds.getD 1 default))), true, [42, 38]⟩
def sp27 : Go.Vg.Spec := ⟨fun ds => ∃ w R b, ds = [keyD w ((R : Nat) : Int), b16 b] ∧ isB 240 w ∧ isB 16 b ∧ R ≤ 14, fun ds => b16 (deL (kwL (ds.headD default)) (krI (ds.headD default)).toNat (arrOf (ds.getD 1 default))), true, [42, 38]⟩
def sp26 : Go.Vg.Spec := ⟨fun ds => ∃ W bx ux b, ds = [.ref (cipD W bx ux), b16 b] ∧ okW W ∧ 4 ≤ W.length ∧ W.length ≤ 60 ∧ okX bx ux ∧ isB 16 b, fun ds => b16 (enL (cwL (ds.headD default)) (cnN (ds.headD default) / 4 - 1) (arrOf (ds.getD 1 default))), true, [45, 38]⟩
def sp28 : Go.Vg.Spec := ⟨fun ds => ∃ W bx ux b, ds = [.ref (cipD W bx ux), b16 b] ∧ okW W ∧ 4 ≤ W.length ∧ W.length ≤ 60 ∧ okX bx ux ∧ isB 16 b, fun ds => b16 (deL (cwL (ds.headD default)) (cnN (ds.headD default) / 4 - 1) (arrOf (ds.getD 1 default))), true, [45, 38]⟩
noncomputable def sp23 : Go.Vg.Spec := ⟨fun ds => ∃ V W, ds = [.slc 4 V, .slc 4 W] ∧ okW V ∧ okW W ∧ V.length ≤ 60, fun ds => .val (.bool (Go.Vg.eqB (flW (xsOf (ds.headD default))) (flW (xsOf (ds.getD 1 default))))), true, [52, 52]⟩
def sp24 : Go.Vg.Spec := ⟨fun ds => ∃ w R, ds = [keyD w ((R : Nat) : Int)] ∧ isB 240 w ∧ R ≤ 14, fun ds => .slc 4 (chunks .u8 4 (4 * ((krI (ds.headD default)).toNat + 1)) (kwL (ds.headD default))), false, [42]⟩
def blkA (s : Go.Vg.St) (b : Nat) : List Int := match Go.Vg.look s.M b with
 | some (.fix d) => arrOf d
 | _ => []
def c24 : Ctx := ⟨tab, fun _ => none, [], [8]⟩
def c25 : Ctx := ⟨tab, lkS [(85, sp85), (86, sp86), (87, sp87)], [], []⟩
def c27 : Ctx := ⟨tab, lkS [(85, sp85), (95, sp95), (87, sp87)], [], []⟩
def c26 : Ctx := ⟨tab, lkS [(89, sp89), (90, sp90), (91, sp91), (92, sp92), (93, sp93)], [], []⟩
def inv25 (w b : List Int) (R : Nat) : Nat → Option Inv
 | 3 => some ⟨Nat, fun k => [(5, .d (i64n (k + 1)))], fun k => [(3, .fix (b16 (enS w b R k)))], fun s => (slotN s 5 - 1).toNat, fun _ k => k ≤ R, fun k => R - k⟩
 | 7 => some ⟨Nat × List Int, fun x => [(16, .d (i64n x.1))], fun x => [(6, .fix (b16 (selL 16 (fun j => decide (j < x.1)) (shL x.2) z16)))], fun s => ((slotN s 16).toNat, blkA s 3), fun s x => x.2 = blkA s 3 ∧ x.1 ≤ 16, fun x => 16 - x.1⟩
 | _ => none
def inv27 (w b : List Int) (R : Nat) : Nat → Option Inv
 | 2 => some ⟨Nat, fun k => [(5, .d (.val (.int .i64 ((R : Int) - (k : Int)))))], fun k => [(3, .fix (b16 (deS w b R k)))], fun s => ((R : Int) - slotN s 5).toNat, fun _ k => k ≤ R, fun k => R - k⟩
 | 9 => some ⟨Nat × List Int, fun x => [(23, .d (i64n x.1))], fun x => [(6, .fix (b16 (selL 16 (fun j => decide ((j + 16 - 4 * (j % 4)) % 16 < x.1)) (usL x.2) z16)))], fun s => ((slotN s 23).toNat, blkA s 3), fun s x => x.2 = blkA s 3 ∧ x.1 ≤ 16, fun x => 16 - x.1⟩
 | _ => none
def shR (b : List Int) : List Int := trL (shL (trL b))
def usR (b : List Int) : List Int := trL (usL (trL b))
def inv26 (w b : List Int) (R : Nat) : Nat → Option Inv
 | 3 => some ⟨Nat, fun k => [(6, .d (i64n (k + 1)))], fun k => [(5, .fix (b16 (trL (enS w b R k))))], fun s => (slotN s 6 - 1).toNat, fun _ k => k ≤ R, fun k => R - k⟩
 | 7 => some ⟨Nat × List Int, fun x => [(20, .d (i64n x.1))], fun x => [(7, .fix (b16 (selL 16 (fun j => decide (j < 4 * x.1)) (shR x.2) z16)))], fun s => ((slotN s 20).toNat, blkA s 5), fun s x => x.2 = blkA s 5 ∧ x.1 ≤ 4, fun x => 4 - x.1⟩
 | 10 => some ⟨Nat × Nat × List Int, fun x => [(23, .d (i64n x.2.1))], fun x => [(7, .fix (b16 (selL 16 (fun j => decide (j < 4 * x.1 + x.2.1)) (shR x.2.2) z16)))], fun s => ((slotN s 8).toNat, (slotN s 23).toNat, blkA s 5), fun s x => (x.1 : Int) = slotN s 8 ∧ x.2.2 = blkA s 5 ∧ x.2.1 ≤ 4, fun x => 4 - x.2.1⟩
 | _ => none
def inv28 (w b : List Int) (R : Nat) : Nat → Option Inv
 | 3 => some ⟨Nat, fun k => [(6, .d (.val (.int .i64 ((R : Int) - (k : Int)))))], fun k => [(5, .fix (b16 (trL (deS w b R k))))], fun s => ((R : Int) - slotN s 6).toNat, fun _ k => k ≤ R, fun k => R - k⟩
 | 10 => some ⟨Nat × List Int, fun x => [(29, .d (i64n x.1))], fun x => [(7, .fix (b16 (selL 16 (fun j => decide (j < 4 * x.1)) (usR x.2) z16)))], fun s => ((slotN s 29).toNat, blkA s 5), fun s x => x.2 = blkA s 5 ∧ x.1 ≤ 4, fun x => 4 - x.1⟩
 | 13 => some ⟨Nat × Nat × List Int, fun x => [(32, .d (i64n x.2.1))], fun x => [(7, .fix (b16 (selL 16 (fun j => decide (j / 4 < x.1) || (decide (j / 4 = x.1) && decide ((j % 4 + 4 - x.1) % 4 < x.2.1))) (usR x.2.2) z16)))], fun s => ((slotN s 8).toNat, (slotN s 32).toNat, blkA s 5), fun s x => (x.1 : Int) = slotN s 8 ∧ x.2.2 = blkA s 5 ∧ x.2.1 ≤ 4, fun x => 4 - x.2.1⟩
 | _ => none
def inv23 (V W : List D) : Nat → Option Inv
 | 4 => some ⟨Nat, fun k => [(13, .d (i64n k))], fun _ => [], fun s => (slotN s 13).toNat, fun _ k => k ≤ V.length ∧ flW (V.take k) = flW (W.take k), fun k => V.length - k⟩
 | _ => none
--KEEP List.replicate HXor.hXor Go.Vg.eqB Go.Vg.opq boxP Go.Vg.gm Go.Vg.gpw Go.Vg.giv Go.Vg.rl8 Go.Vg.gbx Go.Vg.gux Go.Vg.gcl Go.Vg.gce Go.Vg.gub Go.Vg.gia Go.Vg.boxL Go.Vg.gax Go.Vg.gan Go.Vg.gsb Go.Vg.clm Go.Vg.red pwL okb sbI suI selL s4L adK colL eaL shL usL trL rowL adR mxR flW okW isB z16 enS enL deS deL okX shR usR Go.Vg.chunks
set_option maxRecDepth 100000 in
theorem vc25  (w b : List Int) (R : Nat) (F : D)  :
    (owed c25 (inv25 w b R) Try.f25 [keyD w ((R : Nat) : Int), b16 b] F) = (
 (True ∧ false = false) ∧
 (True ∧ false = false) ∧
 (True ∧ (16 : Nat) ≠ (0 : Nat)) ∧
 ((16 : Nat) ≠ (0 : Nat) ∧ (16 : Nat) = (16 : Nat) ∧ true = true) ∧
 (∃ (w_1 : List Int),
 ∃ (r : Int),
 ∃ (b_1 : List Int),
 ∃ (n : Nat),
 [(D.st [D.arr IntKind.u8 (240 : Nat) w, D.val (Value.int IntKind.i64 (↑R : Int))]).ref, D.arr IntKind.u8 (16 : Nat) b, D.val (Value.int IntKind.i64 (0 : Int))] = [(D.st [D.arr IntKind.u8 (240 : Nat) w_1, D.val (Value.int IntKind.i64 r)]).ref, D.arr IntKind.u8 (16 : Nat) b_1, D.val (Value.int IntKind.i64 (↑n : Int))] ∧ isB (240 : Nat) w_1 ∧ isB (16 : Nat) b_1 ∧ n < (15 : Nat)) ∧
 (Sk.arr (16 : Nat) = Sk.arr (16 : Nat) ∧ (16 : Nat) ≠ (0 : Nat) ∧ (16 : Nat) = (16 : Nat) ∧ false = false) ∧
 True ∧
 (((AV.d (D.val (Value.int IntKind.i64 (1 : Int))) = AV.d (D.val (Value.int IntKind.i64 (↑(((1 : Int) - (1 : Int)).toNat + (1 : Nat)) : Int))) ∧ True) ∧
 (sm (some (Blk.fix (D.st [D.arr IntKind.u8 (240 : Nat) w, D.val (Value.int IntKind.i64 (↑R : Int))]))) ∧
 some (Blk.fix (D.arr IntKind.u8 (16 : Nat) (adK w (0 : Nat) b))) = some (Blk.fix (D.arr IntKind.u8 (16 : Nat) (enS w b R ((1 : Int) - (1 : Int)).toNat))) ∧
 sm (some (Blk.fix (D.arr IntKind.u8 (16 : Nat) [(0 : Int), (0 : Int), (0 : Int), (0 : Int), (0 : Int), (0 : Int), (0 : Int), (0 : Int), (0 : Int), (0 : Int), (0 : Int), (0 : Int), (0 : Int), (0 : Int), (0 : Int), (0 : Int)]))) ∧ True) ∧
 true = true) ∧
 ((1 : Int) - (1 : Int)).toNat ≤ R) ∧
 ∀ (x : Nat),
 x ≤ R →
 true = true ∧
 True ∧
 (Sk.st [Sk.arr (240 : Nat), Sk.one] = Sk.st [Sk.arr (240 : Nat), Sk.one] ∧ (1 : Nat) < (2 : Nat)) ∧
 ((1 : Nat) ≠ (0 : Nat) ∧ (1 : Nat) = (1 : Nat) ∧ false = false) ∧
 True ∧
 match decide ((↑(x + (1 : Nat)) : Int) ≤ (↑R : Int)) with
 | true =>
  (True ∧ (16 : Nat) ≠ (0 : Nat)) ∧
  True ∧
  (((AV.d (D.val (Value.int IntKind.i64 (0 : Int))) = AV.d (D.val (Value.int IntKind.i64 (↑(0 : Nat) : Int))) ∧ True) ∧
  (sm (some (Blk.fix (D.st [D.arr IntKind.u8 (240 : Nat) w, D.val (Value.int IntKind.i64 (↑R : Int))]))) ∧
  sm (some (Blk.fix (D.arr IntKind.u8 (16 : Nat) (enS w b R x)))) ∧
  sm (some (Blk.fix (D.arr IntKind.u8 (16 : Nat) [(0 : Int), (0 : Int), (0 : Int), (0 : Int), (0 : Int), (0 : Int), (0 : Int), (0 : Int), (0 : Int), (0 : Int), (0 : Int), (0 : Int), (0 : Int), (0 : Int), (0 : Int), (0 : Int)]))) ∧
  some (Blk.fix (D.arr IntKind.u8 (16 : Nat) [(0 : Int), (0 : Int), (0 : Int), (0 : Int), (0 : Int), (0 : Int), (0 : Int), (0 : Int), (0 : Int), (0 : Int), (0 : Int), (0 : Int), (0 : Int), (0 : Int), (0 : Int), (0 : Int)])) =
  some (Blk.fix (D.arr IntKind.u8 (16 : Nat) (selL (16 : Nat) (fun (j : Nat) => decide (j < (0 : Nat))) (shL (enS w b R x)) z16))) ∧
  True) ∧
  true = true) ∧
  enS w b R x = enS w b R x ∧ (0 : Nat) ≤ (16 : Nat)) ∧
  ∀ (x_1 : Nat × List Int),
  x_1.snd = enS w b R x ∧ x_1.fst ≤ (16 : Nat) →
  true = true ∧
  True ∧
  match decide ((↑x_1.fst : Int) < (16 : Int)) with
  | true =>
   True ∧
   True ∧
   True ∧
   True ∧
   True ∧
   (4 : Int) ≠ (0 : Int) ∧
   True ∧
   True ∧
   (16 : Int) ≠ (0 : Int) ∧
   ((0 : Int) ≤ (IntKind.i64.wrap ((↑x_1.fst : Int) + IntKind.i64.wrap ((↑x_1.fst : Int).tmod (4 : Int) * (4 : Int)))).tmod (16 : Int) ∧ (IntKind.i64.wrap ((↑x_1.fst : Int) + IntKind.i64.wrap ((↑x_1.fst : Int).tmod (4 : Int) * (4 : Int)))).tmod (16 : Int) < (↑(16 : Nat) : Int) ∧ (16 : Nat) = (16 : Nat) ∧ (1 : Nat) = (1 : Nat)) ∧
   ((1 : Nat) ≠ (0 : Nat) ∧ (1 : Nat) = (1 : Nat) ∧ false = false) ∧
   (∃ (a : Nat), [D.val (Value.int IntKind.u8 ((enS w b R x).getD ((IntKind.i64.wrap ((↑x_1.fst : Int) + IntKind.i64.wrap ((↑x_1.fst : Int).tmod (4 : Int) * (4 : Int)))).tmod (16 : Int)).toNat (0 : Int)))] = [D.val (Value.int IntKind.u8 (↑a : Int))] ∧ a < (256 : Nat)) ∧
   ((0 : Int) ≤ (↑x_1.fst : Int) ∧ (↑x_1.fst : Int) < (↑(16 : Nat) : Int) ∧ (16 : Nat) = (16 : Nat) ∧ (1 : Nat) = (1 : Nat)) ∧
   (((↑x_1.fst : Int).toNat < (16 : Nat) ∧ ([] : List Nat) = [] ∧ true = true) ∧ (1 : Nat) ≠ (0 : Nat) ∧ (1 : Nat) = (1 : Nat) ∧ false = false) ∧
   True ∧
   True ∧
   ((AV.d (D.val (Value.int IntKind.i64 (IntKind.i64.wrap ((↑x_1.fst : Int) + (1 : Int))))) = AV.d (D.val (Value.int IntKind.i64 (↑(IntKind.i64.wrap ((↑x_1.fst : Int) + (1 : Int))).toNat : Int))) ∧ True) ∧
   (sm (some (Blk.fix (D.st [D.arr IntKind.u8 (240 : Nat) w, D.val (Value.int IntKind.i64 (↑R : Int))]))) ∧
   sm (some (Blk.fix (D.arr IntKind.u8 (16 : Nat) (enS w b R x)))) ∧
   sm (some (Blk.fix (D.arr IntKind.u8 (16 : Nat) [(0 : Int), (0 : Int), (0 : Int), (0 : Int), (0 : Int), (0 : Int), (0 : Int), (0 : Int), (0 : Int), (0 : Int), (0 : Int), (0 : Int), (0 : Int), (0 : Int), (0 : Int), (0 : Int)]))) ∧
   some
   (Blk.fix
   (D.arr IntKind.u8 (16 : Nat)
   ((selL (16 : Nat) (fun (j : Nat) => decide (j < x_1.fst)) (shL x_1.snd) z16).set (↑x_1.fst : Int).toNat (↑(gbx ((enS w b R x).getD ((IntKind.i64.wrap ((↑x_1.fst : Int) + IntKind.i64.wrap ((↑x_1.fst : Int).tmod (4 : Int) * (4 : Int)))).tmod (16 : Int)).toNat (0 : Int)).toNat) : Int)))) =
   some (Blk.fix (D.arr IntKind.u8 (16 : Nat) (selL (16 : Nat) (fun (j : Nat) => decide (j < (IntKind.i64.wrap ((↑x_1.fst : Int) + (1 : Int))).toNat)) (shL (enS w b R x)) z16))) ∧
   True) ∧
   true = true) ∧
   (enS w b R x = enS w b R x ∧ (IntKind.i64.wrap ((↑x_1.fst : Int) + (1 : Int))).toNat ≤ (16 : Nat)) ∧ (16 : Nat) - (IntKind.i64.wrap ((↑x_1.fst : Int) + (1 : Int))).toNat < (16 : Nat) - x_1.fst
  | false =>
   True ∧
   (Sk.st [Sk.arr (240 : Nat), Sk.one] = Sk.st [Sk.arr (240 : Nat), Sk.one] ∧ (1 : Nat) < (2 : Nat)) ∧
   ((1 : Nat) ≠ (0 : Nat) ∧ (1 : Nat) = (1 : Nat) ∧ false = false) ∧
   True ∧
   match decide ((↑(x + (1 : Nat)) : Int) < (↑R : Int)) with
   | true =>
    ((16 : Nat) ≠ (0 : Nat) ∧ (16 : Nat) = (16 : Nat) ∧ true = true) ∧
    (∃ (b : List Int),
    ∃ (f : FuncId),
    [D.arr IntKind.u8 (16 : Nat) (selL (16 : Nat) (fun (j : Nat) => decide (j < x_1.fst)) (shL x_1.snd) z16), D.val (Value.func (Fn.func (88 : Nat)) { toList := [] } { toList := [] })] = [D.arr IntKind.u8 (16 : Nat) b, D.val (Value.func (Fn.func f) { toList := [] } { toList := [] })] ∧
    isB (16 : Nat) b ∧ (f = (88 : FuncId) ∨ f = (94 : FuncId))) ∧
    (Sk.arr (16 : Nat) = Sk.arr (16 : Nat) ∧ (16 : Nat) ≠ (0 : Nat) ∧ (16 : Nat) = (16 : Nat) ∧ false = false) ∧
    ((16 : Nat) ≠ (0 : Nat) ∧ (16 : Nat) = (16 : Nat) ∧ true = true) ∧
    True ∧
    (∃ (w_1 : List Int),
    ∃ (r : Int),
    ∃ (b : List Int),
    ∃ (n : Nat),
    [(D.st [D.arr IntKind.u8 (240 : Nat) w, D.val (Value.int IntKind.i64 (↑R : Int))]).ref, D.arr IntKind.u8 (16 : Nat) (eaL [(2 : Int), (3 : Int), (1 : Int), (1 : Int)] (selL (16 : Nat) (fun (j : Nat) => decide (j < x_1.fst)) (shL x_1.snd) z16)), D.val (Value.int IntKind.i64 (↑(x + (1 : Nat)) : Int))] =
    [(D.st [D.arr IntKind.u8 (240 : Nat) w_1, D.val (Value.int IntKind.i64 r)]).ref, D.arr IntKind.u8 (16 : Nat) b, D.val (Value.int IntKind.i64 (↑n : Int))] ∧
    isB (240 : Nat) w_1 ∧ isB (16 : Nat) b ∧ n < (15 : Nat)) ∧
    (Sk.arr (16 : Nat) = Sk.arr (16 : Nat) ∧ (16 : Nat) ≠ (0 : Nat) ∧ (16 : Nat) = (16 : Nat) ∧ false = false) ∧
    True ∧
    True ∧
    True ∧
    ((AV.d (D.val (Value.int IntKind.i64 (IntKind.i64.wrap ((↑(x + (1 : Nat)) : Int) + (1 : Int))))) = AV.d (D.val (Value.int IntKind.i64 (↑((IntKind.i64.wrap ((↑(x + (1 : Nat)) : Int) + (1 : Int)) - (1 : Int)).toNat + (1 : Nat)) : Int))) ∧ True) ∧
    (sm (some (Blk.fix (D.st [D.arr IntKind.u8 (240 : Nat) w, D.val (Value.int IntKind.i64 (↑R : Int))]))) ∧
    some (Blk.fix (D.arr IntKind.u8 (16 : Nat) (adK w (↑(x + (1 : Nat)) : Int).toNat (eaL [(2 : Int), (3 : Int), (1 : Int), (1 : Int)] (selL (16 : Nat) (fun (j : Nat) => decide (j < x_1.fst)) (shL x_1.snd) z16))))) =
    some (Blk.fix (D.arr IntKind.u8 (16 : Nat) (enS w b R (IntKind.i64.wrap ((↑(x + (1 : Nat)) : Int) + (1 : Int)) - (1 : Int)).toNat))) ∧
    sm (some (Blk.fix (D.arr IntKind.u8 (16 : Nat) [(0 : Int), (0 : Int), (0 : Int), (0 : Int), (0 : Int), (0 : Int), (0 : Int), (0 : Int), (0 : Int), (0 : Int), (0 : Int), (0 : Int), (0 : Int), (0 : Int), (0 : Int), (0 : Int)]))) ∧ True) ∧
    true = true) ∧
    (IntKind.i64.wrap ((↑(x + (1 : Nat)) : Int) + (1 : Int)) - (1 : Int)).toNat ≤ R ∧ R - (IntKind.i64.wrap ((↑(x + (1 : Nat)) : Int) + (1 : Int)) - (1 : Int)).toNat < R - x
   | false =>
    ((16 : Nat) ≠ (0 : Nat) ∧ (16 : Nat) = (16 : Nat) ∧ true = true) ∧
    True ∧
    (∃ (w_1 : List Int),
    ∃ (r : Int),
    ∃ (b : List Int),
    ∃ (n : Nat),
    [(D.st [D.arr IntKind.u8 (240 : Nat) w, D.val (Value.int IntKind.i64 (↑R : Int))]).ref, D.arr IntKind.u8 (16 : Nat) (selL (16 : Nat) (fun (j : Nat) => decide (j < x_1.fst)) (shL x_1.snd) z16), D.val (Value.int IntKind.i64 (↑(x + (1 : Nat)) : Int))] =
    [(D.st [D.arr IntKind.u8 (240 : Nat) w_1, D.val (Value.int IntKind.i64 r)]).ref, D.arr IntKind.u8 (16 : Nat) b, D.val (Value.int IntKind.i64 (↑n : Int))] ∧
    isB (240 : Nat) w_1 ∧ isB (16 : Nat) b ∧ n < (15 : Nat)) ∧
    (Sk.arr (16 : Nat) = Sk.arr (16 : Nat) ∧ (16 : Nat) ≠ (0 : Nat) ∧ (16 : Nat) = (16 : Nat) ∧ false = false) ∧
    True ∧
    True ∧
    True ∧
    ((AV.d (D.val (Value.int IntKind.i64 (IntKind.i64.wrap ((↑(x + (1 : Nat)) : Int) + (1 : Int))))) = AV.d (D.val (Value.int IntKind.i64 (↑((IntKind.i64.wrap ((↑(x + (1 : Nat)) : Int) + (1 : Int)) - (1 : Int)).toNat + (1 : Nat)) : Int))) ∧ True) ∧
    (sm (some (Blk.fix (D.st [D.arr IntKind.u8 (240 : Nat) w, D.val (Value.int IntKind.i64 (↑R : Int))]))) ∧
    some (Blk.fix (D.arr IntKind.u8 (16 : Nat) (adK w (↑(x + (1 : Nat)) : Int).toNat (selL (16 : Nat) (fun (j : Nat) => decide (j < x_1.fst)) (shL x_1.snd) z16)))) = some (Blk.fix (D.arr IntKind.u8 (16 : Nat) (enS w b R (IntKind.i64.wrap ((↑(x + (1 : Nat)) : Int) + (1 : Int)) - (1 : Int)).toNat))) ∧
    sm (some (Blk.fix (D.arr IntKind.u8 (16 : Nat) [(0 : Int), (0 : Int), (0 : Int), (0 : Int), (0 : Int), (0 : Int), (0 : Int), (0 : Int), (0 : Int), (0 : Int), (0 : Int), (0 : Int), (0 : Int), (0 : Int), (0 : Int), (0 : Int)]))) ∧ True) ∧
    true = true) ∧
    (IntKind.i64.wrap ((↑(x + (1 : Nat)) : Int) + (1 : Int)) - (1 : Int)).toNat ≤ R ∧ R - (IntKind.i64.wrap ((↑(x + (1 : Nat)) : Int) + (1 : Int)) - (1 : Int)).toNat < R - x
 | false => ((16 : Nat) ≠ (0 : Nat) ∧ (16 : Nat) = (16 : Nat) ∧ true = true) ∧ (Sk.arr (16 : Nat) = Sk.arr (16 : Nat) ∧ (16 : Nat) ≠ (0 : Nat) ∧ (16 : Nat) = (16 : Nat) ∧ false = false) ∧ (((16 : Nat) ≠ (0 : Nat) ∧ (16 : Nat) = (16 : Nat) ∧ true = true) ∧ True) ∧ D.arr IntKind.u8 (16 : Nat) (enS w b R x) = F) := by kernel_rfl
set_option maxRecDepth 100000 in
theorem vc27  (w b : List Int) (R : Nat) (F : D)  :
    (owed c27 (inv27 w b R) Try.f27 [keyD w ((R : Nat) : Int), b16 b] F) = (
 (True ∧ false = false) ∧
 (True ∧ false = false) ∧
 (True ∧ (16 : Nat) ≠ (0 : Nat)) ∧
 (Sk.st [Sk.arr (240 : Nat), Sk.one] = Sk.st [Sk.arr (240 : Nat), Sk.one] ∧ (1 : Nat) < (2 : Nat)) ∧
 ((1 : Nat) ≠ (0 : Nat) ∧ (1 : Nat) = (1 : Nat) ∧ false = false) ∧
 True ∧
 (((AV.d (D.val (Value.int IntKind.i64 (↑R : Int))) = AV.d (D.val (Value.int IntKind.i64 ((↑R : Int) - (↑((↑R : Int) - (↑R : Int)).toNat : Int)))) ∧ True) ∧
 (sm (some (Blk.fix (D.st [D.arr IntKind.u8 (240 : Nat) w, D.val (Value.int IntKind.i64 (↑R : Int))]))) ∧
 some (Blk.fix (D.arr IntKind.u8 (16 : Nat) b)) = some (Blk.fix (D.arr IntKind.u8 (16 : Nat) (deS w b R ((↑R : Int) - (↑R : Int)).toNat))) ∧ sm (some (Blk.fix (D.arr IntKind.u8 (16 : Nat) [(0 : Int), (0 : Int), (0 : Int), (0 : Int), (0 : Int), (0 : Int), (0 : Int), (0 : Int), (0 : Int), (0 : Int), (0 : Int), (0 : Int), (0 : Int), (0 : Int), (0 : Int), (0 : Int)]))) ∧ True) ∧
 true = true) ∧
 ((↑R : Int) - (↑R : Int)).toNat ≤ R) ∧
 ∀ (x : Nat),
 x ≤ R →
 true = true ∧
 True ∧
 True ∧
 match decide ((↑R : Int) - (↑x : Int) ≥ (1 : Int)) with
 | true =>
  ((16 : Nat) ≠ (0 : Nat) ∧ (16 : Nat) = (16 : Nat) ∧ true = true) ∧
  True ∧
  (∃ (w_1 : List Int),
  ∃ (r : Int),
  ∃ (b_1 : List Int),
  ∃ (n : Nat),
  [(D.st [D.arr IntKind.u8 (240 : Nat) w, D.val (Value.int IntKind.i64 (↑R : Int))]).ref, D.arr IntKind.u8 (16 : Nat) (deS w b R x), D.val (Value.int IntKind.i64 ((↑R : Int) - (↑x : Int)))] = [(D.st [D.arr IntKind.u8 (240 : Nat) w_1, D.val (Value.int IntKind.i64 r)]).ref, D.arr IntKind.u8 (16 : Nat) b_1, D.val (Value.int IntKind.i64 (↑n : Int))] ∧
  isB (240 : Nat) w_1 ∧ isB (16 : Nat) b_1 ∧ n < (15 : Nat)) ∧
  (Sk.arr (16 : Nat) = Sk.arr (16 : Nat) ∧ (16 : Nat) ≠ (0 : Nat) ∧ (16 : Nat) = (16 : Nat) ∧ false = false) ∧
  True ∧
  (Sk.st [Sk.arr (240 : Nat), Sk.one] = Sk.st [Sk.arr (240 : Nat), Sk.one] ∧ (1 : Nat) < (2 : Nat)) ∧
  ((1 : Nat) ≠ (0 : Nat) ∧ (1 : Nat) = (1 : Nat) ∧ false = false) ∧
  True ∧
  match decide ((↑R : Int) - (↑x : Int) < (↑R : Int)) with
  | true =>
   ((16 : Nat) ≠ (0 : Nat) ∧ (16 : Nat) = (16 : Nat) ∧ true = true) ∧
   (∃ (b_1 : List Int),
   ∃ (f : FuncId), [D.arr IntKind.u8 (16 : Nat) (adK w ((↑R : Int) - (↑x : Int)).toNat (deS w b R x)), D.val (Value.func (Fn.func (94 : Nat)) { toList := [] } { toList := [] })] = [D.arr IntKind.u8 (16 : Nat) b_1, D.val (Value.func (Fn.func f) { toList := [] } { toList := [] })] ∧ isB (16 : Nat) b_1 ∧ (f = (88 : FuncId) ∨ f = (94 : FuncId))) ∧
   (Sk.arr (16 : Nat) = Sk.arr (16 : Nat) ∧ (16 : Nat) ≠ (0 : Nat) ∧ (16 : Nat) = (16 : Nat) ∧ false = false) ∧
   (True ∧ (16 : Nat) ≠ (0 : Nat)) ∧
   True ∧
   (((AV.d (D.val (Value.int IntKind.i64 (0 : Int))) = AV.d (D.val (Value.int IntKind.i64 (↑(0 : Nat) : Int))) ∧ True) ∧
   (sm (some (Blk.fix (D.st [D.arr IntKind.u8 (240 : Nat) w, D.val (Value.int IntKind.i64 (↑R : Int))]))) ∧
   sm (some (Blk.fix (D.arr IntKind.u8 (16 : Nat) (eaL [(14 : Int), (11 : Int), (13 : Int), (9 : Int)] (adK w ((↑R : Int) - (↑x : Int)).toNat (deS w b R x)))))) ∧
   sm (some (Blk.fix (D.arr IntKind.u8 (16 : Nat) [(0 : Int), (0 : Int), (0 : Int), (0 : Int), (0 : Int), (0 : Int), (0 : Int), (0 : Int), (0 : Int), (0 : Int), (0 : Int), (0 : Int), (0 : Int), (0 : Int), (0 : Int), (0 : Int)]))) ∧
   some (Blk.fix (D.arr IntKind.u8 (16 : Nat) [(0 : Int), (0 : Int), (0 : Int), (0 : Int), (0 : Int), (0 : Int), (0 : Int), (0 : Int), (0 : Int), (0 : Int), (0 : Int), (0 : Int), (0 : Int), (0 : Int), (0 : Int), (0 : Int)])) =
   some (Blk.fix (D.arr IntKind.u8 (16 : Nat) (selL (16 : Nat) (fun (j : Nat) => decide ((j + (16 : Nat) - (4 : Nat) * (j % (4 : Nat))) % (16 : Nat) < (0 : Nat))) (usL (eaL [(14 : Int), (11 : Int), (13 : Int), (9 : Int)] (adK w ((↑R : Int) - (↑x : Int)).toNat (deS w b R x)))) z16))) ∧
   True) ∧
   true = true) ∧
   eaL [(14 : Int), (11 : Int), (13 : Int), (9 : Int)] (adK w ((↑R : Int) - (↑x : Int)).toNat (deS w b R x)) = eaL [(14 : Int), (11 : Int), (13 : Int), (9 : Int)] (adK w ((↑R : Int) - (↑x : Int)).toNat (deS w b R x)) ∧ (0 : Nat) ≤ (16 : Nat)) ∧
   ∀ (x_1 : Nat × List Int),
   x_1.snd = eaL [(14 : Int), (11 : Int), (13 : Int), (9 : Int)] (adK w ((↑R : Int) - (↑x : Int)).toNat (deS w b R x)) ∧ x_1.fst ≤ (16 : Nat) →
   true = true ∧
   True ∧
   match decide ((↑x_1.fst : Int) < (16 : Int)) with
   | true =>
    True ∧
    True ∧
    True ∧
    True ∧
    (4 : Int) ≠ (0 : Int) ∧
    True ∧
    True ∧
    (16 : Int) ≠ (0 : Int) ∧
    True ∧
    ((0 : Int) ≤ (↑x_1.fst : Int) ∧ (↑x_1.fst : Int) < (↑(16 : Nat) : Int) ∧ (16 : Nat) = (16 : Nat) ∧ (1 : Nat) = (1 : Nat)) ∧
    ((1 : Nat) ≠ (0 : Nat) ∧ (1 : Nat) = (1 : Nat) ∧ false = false) ∧
    (∃ (a : Nat), [D.val (Value.int IntKind.u8 ((eaL [(14 : Int), (11 : Int), (13 : Int), (9 : Int)] (adK w ((↑R : Int) - (↑x : Int)).toNat (deS w b R x))).getD (↑x_1.fst : Int).toNat (0 : Int)))] = [D.val (Value.int IntKind.u8 (↑a : Int))] ∧ a < (256 : Nat)) ∧
    ((0 : Int) ≤ (IntKind.i64.wrap ((↑x_1.fst : Int) + IntKind.i64.wrap ((↑x_1.fst : Int).tmod (4 : Int) * (4 : Int)))).tmod (16 : Int) ∧
    (IntKind.i64.wrap ((↑x_1.fst : Int) + IntKind.i64.wrap ((↑x_1.fst : Int).tmod (4 : Int) * (4 : Int)))).tmod (16 : Int) < (↑(16 : Nat) : Int) ∧ (16 : Nat) = (16 : Nat) ∧ (1 : Nat) = (1 : Nat)) ∧
    ((((IntKind.i64.wrap ((↑x_1.fst : Int) + IntKind.i64.wrap ((↑x_1.fst : Int).tmod (4 : Int) * (4 : Int)))).tmod (16 : Int)).toNat < (16 : Nat) ∧ ([] : List Nat) = [] ∧ true = true) ∧ (1 : Nat) ≠ (0 : Nat) ∧ (1 : Nat) = (1 : Nat) ∧ false = false) ∧
    True ∧
    True ∧
    ((AV.d (D.val (Value.int IntKind.i64 (IntKind.i64.wrap ((↑x_1.fst : Int) + (1 : Int))))) = AV.d (D.val (Value.int IntKind.i64 (↑(IntKind.i64.wrap ((↑x_1.fst : Int) + (1 : Int))).toNat : Int))) ∧ True) ∧
    (sm (some (Blk.fix (D.st [D.arr IntKind.u8 (240 : Nat) w, D.val (Value.int IntKind.i64 (↑R : Int))]))) ∧
    sm (some (Blk.fix (D.arr IntKind.u8 (16 : Nat) (eaL [(14 : Int), (11 : Int), (13 : Int), (9 : Int)] (adK w ((↑R : Int) - (↑x : Int)).toNat (deS w b R x)))))) ∧
    sm (some (Blk.fix (D.arr IntKind.u8 (16 : Nat) [(0 : Int), (0 : Int), (0 : Int), (0 : Int), (0 : Int), (0 : Int), (0 : Int), (0 : Int), (0 : Int), (0 : Int), (0 : Int), (0 : Int), (0 : Int), (0 : Int), (0 : Int), (0 : Int)]))) ∧
    some
    (Blk.fix
    (D.arr IntKind.u8 (16 : Nat)
    ((selL (16 : Nat) (fun (j : Nat) => decide ((j + (16 : Nat) - (4 : Nat) * (j % (4 : Nat))) % (16 : Nat) < x_1.fst)) (usL x_1.snd) z16).set ((IntKind.i64.wrap ((↑x_1.fst : Int) + IntKind.i64.wrap ((↑x_1.fst : Int).tmod (4 : Int) * (4 : Int)))).tmod (16 : Int)).toNat
    (↑(gux ((eaL [(14 : Int), (11 : Int), (13 : Int), (9 : Int)] (adK w ((↑R : Int) - (↑x : Int)).toNat (deS w b R x))).getD (↑x_1.fst : Int).toNat (0 : Int)).toNat) : Int)))) =
    some
    (Blk.fix
    (D.arr IntKind.u8 (16 : Nat)
    (selL (16 : Nat) (fun (j : Nat) => decide ((j + (16 : Nat) - (4 : Nat) * (j % (4 : Nat))) % (16 : Nat) < (IntKind.i64.wrap ((↑x_1.fst : Int) + (1 : Int))).toNat)) (usL (eaL [(14 : Int), (11 : Int), (13 : Int), (9 : Int)] (adK w ((↑R : Int) - (↑x : Int)).toNat (deS w b R x))))
    z16))) ∧
    True) ∧
    true = true) ∧
    (eaL [(14 : Int), (11 : Int), (13 : Int), (9 : Int)] (adK w ((↑R : Int) - (↑x : Int)).toNat (deS w b R x)) = eaL [(14 : Int), (11 : Int), (13 : Int), (9 : Int)] (adK w ((↑R : Int) - (↑x : Int)).toNat (deS w b R x)) ∧ (IntKind.i64.wrap ((↑x_1.fst : Int) + (1 : Int))).toNat ≤ (16 : Nat)) ∧
    (16 : Nat) - (IntKind.i64.wrap ((↑x_1.fst : Int) + (1 : Int))).toNat < (16 : Nat) - x_1.fst
   | false =>
    ((16 : Nat) ≠ (0 : Nat) ∧ (16 : Nat) = (16 : Nat) ∧ true = true) ∧
    (Sk.arr (16 : Nat) = Sk.arr (16 : Nat) ∧ (16 : Nat) ≠ (0 : Nat) ∧ (16 : Nat) = (16 : Nat) ∧ false = false) ∧
    True ∧
    True ∧
    True ∧
    ((AV.d (D.val (Value.int IntKind.i64 (IntKind.i64.wrap ((↑R : Int) - (↑x : Int) - (1 : Int))))) = AV.d (D.val (Value.int IntKind.i64 ((↑R : Int) - (↑((↑R : Int) - IntKind.i64.wrap ((↑R : Int) - (↑x : Int) - (1 : Int))).toNat : Int)))) ∧ True) ∧
    (sm (some (Blk.fix (D.st [D.arr IntKind.u8 (240 : Nat) w, D.val (Value.int IntKind.i64 (↑R : Int))]))) ∧
    some (Blk.fix (D.arr IntKind.u8 (16 : Nat) (selL (16 : Nat) (fun (j : Nat) => decide ((j + (16 : Nat) - (4 : Nat) * (j % (4 : Nat))) % (16 : Nat) < x_1.fst)) (usL x_1.snd) z16))) =
    some (Blk.fix (D.arr IntKind.u8 (16 : Nat) (deS w b R ((↑R : Int) - IntKind.i64.wrap ((↑R : Int) - (↑x : Int) - (1 : Int))).toNat))) ∧
    sm (some (Blk.fix (D.arr IntKind.u8 (16 : Nat) [(0 : Int), (0 : Int), (0 : Int), (0 : Int), (0 : Int), (0 : Int), (0 : Int), (0 : Int), (0 : Int), (0 : Int), (0 : Int), (0 : Int), (0 : Int), (0 : Int), (0 : Int), (0 : Int)]))) ∧ True) ∧
    true = true) ∧
    ((↑R : Int) - IntKind.i64.wrap ((↑R : Int) - (↑x : Int) - (1 : Int))).toNat ≤ R ∧ R - ((↑R : Int) - IntKind.i64.wrap ((↑R : Int) - (↑x : Int) - (1 : Int))).toNat < R - x
  | false =>
   (True ∧ (16 : Nat) ≠ (0 : Nat)) ∧
   True ∧
   (((AV.d (D.val (Value.int IntKind.i64 (0 : Int))) = AV.d (D.val (Value.int IntKind.i64 (↑(0 : Nat) : Int))) ∧ True) ∧
   (sm (some (Blk.fix (D.st [D.arr IntKind.u8 (240 : Nat) w, D.val (Value.int IntKind.i64 (↑R : Int))]))) ∧
   sm (some (Blk.fix (D.arr IntKind.u8 (16 : Nat) (adK w ((↑R : Int) - (↑x : Int)).toNat (deS w b R x))))) ∧
   sm (some (Blk.fix (D.arr IntKind.u8 (16 : Nat) [(0 : Int), (0 : Int), (0 : Int), (0 : Int), (0 : Int), (0 : Int), (0 : Int), (0 : Int), (0 : Int), (0 : Int), (0 : Int), (0 : Int), (0 : Int), (0 : Int), (0 : Int), (0 : Int)]))) ∧
   some (Blk.fix (D.arr IntKind.u8 (16 : Nat) [(0 : Int), (0 : Int), (0 : Int), (0 : Int), (0 : Int), (0 : Int), (0 : Int), (0 : Int), (0 : Int), (0 : Int), (0 : Int), (0 : Int), (0 : Int), (0 : Int), (0 : Int), (0 : Int)])) =
   some (Blk.fix (D.arr IntKind.u8 (16 : Nat) (selL (16 : Nat) (fun (j : Nat) => decide ((j + (16 : Nat) - (4 : Nat) * (j % (4 : Nat))) % (16 : Nat) < (0 : Nat))) (usL (adK w ((↑R : Int) - (↑x : Int)).toNat (deS w b R x))) z16))) ∧
   True) ∧
   true = true) ∧
   adK w ((↑R : Int) - (↑x : Int)).toNat (deS w b R x) = adK w ((↑R : Int) - (↑x : Int)).toNat (deS w b R x) ∧ (0 : Nat) ≤ (16 : Nat)) ∧
   ∀ (x_1 : Nat × List Int),
   x_1.snd = adK w ((↑R : Int) - (↑x : Int)).toNat (deS w b R x) ∧ x_1.fst ≤ (16 : Nat) →
   true = true ∧
   True ∧
   match decide ((↑x_1.fst : Int) < (16 : Int)) with
   | true =>
    True ∧
    True ∧
    True ∧
    True ∧
    (4 : Int) ≠ (0 : Int) ∧
    True ∧
    True ∧
    (16 : Int) ≠ (0 : Int) ∧
    True ∧
    ((0 : Int) ≤ (↑x_1.fst : Int) ∧ (↑x_1.fst : Int) < (↑(16 : Nat) : Int) ∧ (16 : Nat) = (16 : Nat) ∧ (1 : Nat) = (1 : Nat)) ∧
    ((1 : Nat) ≠ (0 : Nat) ∧ (1 : Nat) = (1 : Nat) ∧ false = false) ∧
    (∃ (a : Nat), [D.val (Value.int IntKind.u8 ((adK w ((↑R : Int) - (↑x : Int)).toNat (deS w b R x)).getD (↑x_1.fst : Int).toNat (0 : Int)))] = [D.val (Value.int IntKind.u8 (↑a : Int))] ∧ a < (256 : Nat)) ∧
    ((0 : Int) ≤ (IntKind.i64.wrap ((↑x_1.fst : Int) + IntKind.i64.wrap ((↑x_1.fst : Int).tmod (4 : Int) * (4 : Int)))).tmod (16 : Int) ∧
    (IntKind.i64.wrap ((↑x_1.fst : Int) + IntKind.i64.wrap ((↑x_1.fst : Int).tmod (4 : Int) * (4 : Int)))).tmod (16 : Int) < (↑(16 : Nat) : Int) ∧ (16 : Nat) = (16 : Nat) ∧ (1 : Nat) = (1 : Nat)) ∧
    ((((IntKind.i64.wrap ((↑x_1.fst : Int) + IntKind.i64.wrap ((↑x_1.fst : Int).tmod (4 : Int) * (4 : Int)))).tmod (16 : Int)).toNat < (16 : Nat) ∧ ([] : List Nat) = [] ∧ true = true) ∧ (1 : Nat) ≠ (0 : Nat) ∧ (1 : Nat) = (1 : Nat) ∧ false = false) ∧
    True ∧
    True ∧
    ((AV.d (D.val (Value.int IntKind.i64 (IntKind.i64.wrap ((↑x_1.fst : Int) + (1 : Int))))) = AV.d (D.val (Value.int IntKind.i64 (↑(IntKind.i64.wrap ((↑x_1.fst : Int) + (1 : Int))).toNat : Int))) ∧ True) ∧
    (sm (some (Blk.fix (D.st [D.arr IntKind.u8 (240 : Nat) w, D.val (Value.int IntKind.i64 (↑R : Int))]))) ∧
    sm (some (Blk.fix (D.arr IntKind.u8 (16 : Nat) (adK w ((↑R : Int) - (↑x : Int)).toNat (deS w b R x))))) ∧
    sm (some (Blk.fix (D.arr IntKind.u8 (16 : Nat) [(0 : Int), (0 : Int), (0 : Int), (0 : Int), (0 : Int), (0 : Int), (0 : Int), (0 : Int), (0 : Int), (0 : Int), (0 : Int), (0 : Int), (0 : Int), (0 : Int), (0 : Int), (0 : Int)]))) ∧
    some
    (Blk.fix
    (D.arr IntKind.u8 (16 : Nat)
    ((selL (16 : Nat) (fun (j : Nat) => decide ((j + (16 : Nat) - (4 : Nat) * (j % (4 : Nat))) % (16 : Nat) < x_1.fst)) (usL x_1.snd) z16).set ((IntKind.i64.wrap ((↑x_1.fst : Int) + IntKind.i64.wrap ((↑x_1.fst : Int).tmod (4 : Int) * (4 : Int)))).tmod (16 : Int)).toNat
    (↑(gux ((adK w ((↑R : Int) - (↑x : Int)).toNat (deS w b R x)).getD (↑x_1.fst : Int).toNat (0 : Int)).toNat) : Int)))) =
    some (Blk.fix (D.arr IntKind.u8 (16 : Nat) (selL (16 : Nat) (fun (j : Nat) => decide ((j + (16 : Nat) - (4 : Nat) * (j % (4 : Nat))) % (16 : Nat) < (IntKind.i64.wrap ((↑x_1.fst : Int) + (1 : Int))).toNat)) (usL (adK w ((↑R : Int) - (↑x : Int)).toNat (deS w b R x))) z16))) ∧
    True) ∧
    true = true) ∧
    (adK w ((↑R : Int) - (↑x : Int)).toNat (deS w b R x) = adK w ((↑R : Int) - (↑x : Int)).toNat (deS w b R x) ∧ (IntKind.i64.wrap ((↑x_1.fst : Int) + (1 : Int))).toNat ≤ (16 : Nat)) ∧ (16 : Nat) - (IntKind.i64.wrap ((↑x_1.fst : Int) + (1 : Int))).toNat < (16 : Nat) - x_1.fst
   | false =>
    ((16 : Nat) ≠ (0 : Nat) ∧ (16 : Nat) = (16 : Nat) ∧ true = true) ∧
    (Sk.arr (16 : Nat) = Sk.arr (16 : Nat) ∧ (16 : Nat) ≠ (0 : Nat) ∧ (16 : Nat) = (16 : Nat) ∧ false = false) ∧
    True ∧
    True ∧
    True ∧
    ((AV.d (D.val (Value.int IntKind.i64 (IntKind.i64.wrap ((↑R : Int) - (↑x : Int) - (1 : Int))))) = AV.d (D.val (Value.int IntKind.i64 ((↑R : Int) - (↑((↑R : Int) - IntKind.i64.wrap ((↑R : Int) - (↑x : Int) - (1 : Int))).toNat : Int)))) ∧ True) ∧
    (sm (some (Blk.fix (D.st [D.arr IntKind.u8 (240 : Nat) w, D.val (Value.int IntKind.i64 (↑R : Int))]))) ∧
    some (Blk.fix (D.arr IntKind.u8 (16 : Nat) (selL (16 : Nat) (fun (j : Nat) => decide ((j + (16 : Nat) - (4 : Nat) * (j % (4 : Nat))) % (16 : Nat) < x_1.fst)) (usL x_1.snd) z16))) = some (Blk.fix (D.arr IntKind.u8 (16 : Nat) (deS w b R ((↑R : Int) - IntKind.i64.wrap ((↑R : Int) - (↑x : Int) - (1 : Int))).toNat))) ∧
    sm (some (Blk.fix (D.arr IntKind.u8 (16 : Nat) [(0 : Int), (0 : Int), (0 : Int), (0 : Int), (0 : Int), (0 : Int), (0 : Int), (0 : Int), (0 : Int), (0 : Int), (0 : Int), (0 : Int), (0 : Int), (0 : Int), (0 : Int), (0 : Int)]))) ∧ True) ∧
    true = true) ∧
    ((↑R : Int) - IntKind.i64.wrap ((↑R : Int) - (↑x : Int) - (1 : Int))).toNat ≤ R ∧ R - ((↑R : Int) - IntKind.i64.wrap ((↑R : Int) - (↑x : Int) - (1 : Int))).toNat < R - x
 | false =>
  ((16 : Nat) ≠ (0 : Nat) ∧ (16 : Nat) = (16 : Nat) ∧ true = true) ∧
  (∃ (w_1 : List Int),
  ∃ (r : Int),
  ∃ (b_1 : List Int),
  ∃ (n : Nat),
  [(D.st [D.arr IntKind.u8 (240 : Nat) w, D.val (Value.int IntKind.i64 (↑R : Int))]).ref, D.arr IntKind.u8 (16 : Nat) (deS w b R x), D.val (Value.int IntKind.i64 (0 : Int))] = [(D.st [D.arr IntKind.u8 (240 : Nat) w_1, D.val (Value.int IntKind.i64 r)]).ref, D.arr IntKind.u8 (16 : Nat) b_1, D.val (Value.int IntKind.i64 (↑n : Int))] ∧
  isB (240 : Nat) w_1 ∧ isB (16 : Nat) b_1 ∧ n < (15 : Nat)) ∧
  (Sk.arr (16 : Nat) = Sk.arr (16 : Nat) ∧ (16 : Nat) ≠ (0 : Nat) ∧ (16 : Nat) = (16 : Nat) ∧ false = false) ∧ (((16 : Nat) ≠ (0 : Nat) ∧ (16 : Nat) = (16 : Nat) ∧ true = true) ∧ True) ∧ D.arr IntKind.u8 (16 : Nat) (adK w (0 : Nat) (deS w b R x)) = F) := by kernel_rfl
set_option maxRecDepth 100000 in
theorem vc26  (W : List D) (bx ux b w : List Int) (R : Nat) (F : D)  :
    (owed c26 (inv26 w b R) Try.f26 [.ref (cipD W bx ux), b16 b] F) = (
 (True ∧ false = false) ∧
 (True ∧ (16 : Nat) ≠ (0 : Nat)) ∧
 True ∧
 ((16 : Nat) ≠ (0 : Nat) ∧ (16 : Nat) = (16 : Nat) ∧ true = true) ∧
 (∃ (b_1 : List Int), [D.arr IntKind.u8 (16 : Nat) b] = [D.arr IntKind.u8 (16 : Nat) b_1] ∧ isB (16 : Nat) b_1) ∧
 (∃ (W_1 : List D),
 ∃ (bx_1 : List Int),
 ∃ (ux_1 : List Int),
 ∃ (g : List Int),
 ∃ (n : Nat),
 [(D.st [D.slc (4 : Nat) W, D.arr IntKind.u8 (256 : Nat) bx, D.arr IntKind.u8 (256 : Nat) ux]).ref, D.arr IntKind.u8 (16 : Nat) (trL b), D.val (Value.int IntKind.i64 (0 : Int))] = [(D.st [D.slc (4 : Nat) W_1, D.arr IntKind.u8 (256 : Nat) bx_1, D.arr IntKind.u8 (256 : Nat) ux_1]).ref, D.arr IntKind.u8 (16 : Nat) g, D.val (Value.int IntKind.i64 (↑n : Int))] ∧
 okW W_1 ∧ isB (16 : Nat) g ∧ (4 : Nat) * n + (4 : Nat) ≤ W_1.length ∧ n < (15 : Nat)) ∧
 (True ∧ (16 : Nat) ≠ (0 : Nat)) ∧
 (Sk.arr (16 : Nat) = Sk.arr (16 : Nat) ∧ (16 : Nat) ≠ (0 : Nat) ∧ (16 : Nat) = (16 : Nat) ∧ false = false) ∧
 True ∧
 (((AV.d (D.val (Value.int IntKind.i64 (1 : Int))) = AV.d (D.val (Value.int IntKind.i64 (↑(((1 : Int) - (1 : Int)).toNat + (1 : Nat)) : Int))) ∧ True) ∧
 (sm (some (Blk.fix (D.arr IntKind.u8 (16 : Nat) b))) ∧
 sm (some (Blk.fix (D.arr IntKind.u8 (16 : Nat) [(0 : Int), (0 : Int), (0 : Int), (0 : Int), (0 : Int), (0 : Int), (0 : Int), (0 : Int), (0 : Int), (0 : Int), (0 : Int), (0 : Int), (0 : Int), (0 : Int), (0 : Int), (0 : Int)]))) ∧
 some (Blk.fix (D.arr IntKind.u8 (16 : Nat) (adR (flW W) (0 : Nat) (trL b)))) = some (Blk.fix (D.arr IntKind.u8 (16 : Nat) (trL (enS w b R ((1 : Int) - (1 : Int)).toNat)))) ∧ True) ∧
 true = true) ∧
 ((1 : Int) - (1 : Int)).toNat ≤ R) ∧
 ∀ (x : Nat),
 x ≤ R →
 true = true ∧
 True ∧
 True ∧
 (∃ (W_1 : List D), ∃ (bx_1 : List Int), ∃ (ux_1 : List Int), [(D.st [D.slc (4 : Nat) W, D.arr IntKind.u8 (256 : Nat) bx, D.arr IntKind.u8 (256 : Nat) ux]).ref] = [(D.st [D.slc (4 : Nat) W_1, D.arr IntKind.u8 (256 : Nat) bx_1, D.arr IntKind.u8 (256 : Nat) ux_1]).ref] ∧ (4 : Nat) ≤ W_1.length ∧ W_1.length ≤ (60 : Nat)) ∧
 True ∧
 match decide ((↑(x + (1 : Nat)) : Int) ≤ (↑(W.length / (4 : Nat) - (1 : Nat)) : Int)) with
 | true =>
  (True ∧ (16 : Nat) ≠ (0 : Nat)) ∧
  True ∧
  (((AV.d (D.val (Value.int IntKind.i64 (0 : Int))) = AV.d (D.val (Value.int IntKind.i64 (↑(0 : Nat) : Int))) ∧ True) ∧
  (sm (some (Blk.fix (D.arr IntKind.u8 (16 : Nat) b))) ∧
  sm (some (Blk.fix (D.arr IntKind.u8 (16 : Nat) [(0 : Int), (0 : Int), (0 : Int), (0 : Int), (0 : Int), (0 : Int), (0 : Int), (0 : Int), (0 : Int), (0 : Int), (0 : Int), (0 : Int), (0 : Int), (0 : Int), (0 : Int), (0 : Int)]))) ∧
  sm (some (Blk.fix (D.arr IntKind.u8 (16 : Nat) (trL (enS w b R x))))) ∧
  some (Blk.fix (D.arr IntKind.u8 (16 : Nat) [(0 : Int), (0 : Int), (0 : Int), (0 : Int), (0 : Int), (0 : Int), (0 : Int), (0 : Int), (0 : Int), (0 : Int), (0 : Int), (0 : Int), (0 : Int), (0 : Int), (0 : Int), (0 : Int)])) =
  some (Blk.fix (D.arr IntKind.u8 (16 : Nat) (selL (16 : Nat) (fun (j : Nat) => decide (j < (0 : Nat))) (shR (trL (enS w b R x))) z16))) ∧
  True) ∧
  true = true) ∧
  trL (enS w b R x) = trL (enS w b R x) ∧ (0 : Nat) ≤ (4 : Nat)) ∧
  ∀ (x_1 : Nat × List Int),
  x_1.snd = trL (enS w b R x) ∧ x_1.fst ≤ (4 : Nat) →
  true = true ∧
  True ∧
  match decide ((↑x_1.fst : Int) < (4 : Int)) with
  | true =>
   True ∧
   True ∧
   True ∧
   (((AV.d (D.val (Value.int IntKind.i64 (0 : Int))) = AV.d (D.val (Value.int IntKind.i64 (↑(0 : Nat) : Int))) ∧ True) ∧
   (sm (some (Blk.fix (D.arr IntKind.u8 (16 : Nat) b))) ∧
   sm (some (Blk.fix (D.arr IntKind.u8 (16 : Nat) [(0 : Int), (0 : Int), (0 : Int), (0 : Int), (0 : Int), (0 : Int), (0 : Int), (0 : Int), (0 : Int), (0 : Int), (0 : Int), (0 : Int), (0 : Int), (0 : Int), (0 : Int), (0 : Int)]))) ∧
   sm (some (Blk.fix (D.arr IntKind.u8 (16 : Nat) (trL (enS w b R x))))) ∧
   some (Blk.fix (D.arr IntKind.u8 (16 : Nat) (selL (16 : Nat) (fun (j : Nat) => decide (j < (4 : Nat) * x_1.fst)) (shR x_1.snd) z16))) = some (Blk.fix (D.arr IntKind.u8 (16 : Nat) (selL (16 : Nat) (fun (j : Nat) => decide (j < (4 : Nat) * (↑x_1.fst : Int).toNat + (0 : Nat))) (shR (trL (enS w b R x))) z16))) ∧ True) ∧
   true = true) ∧
   (↑(↑x_1.fst : Int).toNat : Int) = (↑x_1.fst : Int) ∧ trL (enS w b R x) = trL (enS w b R x) ∧ (0 : Nat) ≤ (4 : Nat)) ∧
   ∀ (x_2 : Nat × Nat × List Int),
   (↑x_2.fst : Int) = (↑x_1.fst : Int) ∧ x_2.snd.snd = trL (enS w b R x) ∧ x_2.snd.fst ≤ (4 : Nat) →
   true = true ∧
   True ∧
   match decide ((↑x_2.snd.fst : Int) < (4 : Int)) with
   | true =>
    True ∧
    True ∧
    True ∧
    True ∧
    True ∧
    True ∧
    True ∧
    True ∧
    True ∧
    (4 : Int) ≠ (0 : Int) ∧
    ((0 : Int) ≤ (↑x_1.fst : Int) ∧ (↑x_1.fst : Int) < (↑(4 : Nat) : Int) ∧ (16 : Nat) = (16 : Nat) ∧ (4 : Nat) = (4 : Nat) ∧ (4 : Nat) ≠ (0 : Nat)) ∧
    ((0 : Int) ≤ (IntKind.i64.wrap ((↑x_2.snd.fst : Int) + (↑x_1.fst : Int))).tmod (4 : Int) ∧ (IntKind.i64.wrap ((↑x_2.snd.fst : Int) + (↑x_1.fst : Int))).tmod (4 : Int) < (↑(4 : Nat) : Int) ∧ (4 : Nat) = (4 : Nat) ∧ (1 : Nat) = (1 : Nat)) ∧
    ((1 : Nat) ≠ (0 : Nat) ∧ (1 : Nat) = (1 : Nat) ∧ false = false) ∧
    True ∧
    (Sk.st [Sk.one, Sk.arr (256 : Nat), Sk.arr (256 : Nat)] = Sk.st [Sk.one, Sk.arr (256 : Nat), Sk.arr (256 : Nat)] ∧ (1 : Nat) < (3 : Nat)) ∧
    ((0 : Int) ≤ (trL (enS w b R x)).getD ((↑x_1.fst : Int).toNat * (4 : Nat) + ((IntKind.i64.wrap ((↑x_2.snd.fst : Int) + (↑x_1.fst : Int))).tmod (4 : Int)).toNat) (0 : Int) ∧
    (trL (enS w b R x)).getD ((↑x_1.fst : Int).toNat * (4 : Nat) + ((IntKind.i64.wrap ((↑x_2.snd.fst : Int) + (↑x_1.fst : Int))).tmod (4 : Int)).toNat) (0 : Int) < (↑(256 : Nat) : Int) ∧ (256 : Nat) = (256 : Nat) ∧ (1 : Nat) = (1 : Nat)) ∧
    ((1 : Nat) ≠ (0 : Nat) ∧ (1 : Nat) = (1 : Nat) ∧ false = false) ∧
    ((0 : Int) ≤ (↑x_1.fst : Int) ∧ (↑x_1.fst : Int) < (↑(4 : Nat) : Int) ∧ (16 : Nat) = (16 : Nat) ∧ (4 : Nat) = (4 : Nat) ∧ (4 : Nat) ≠ (0 : Nat)) ∧
    ((0 : Int) ≤ (↑x_2.snd.fst : Int) ∧ (↑x_2.snd.fst : Int) < (↑(4 : Nat) : Int) ∧ (4 : Nat) = (4 : Nat) ∧ (1 : Nat) = (1 : Nat)) ∧
    (((↑x_1.fst : Int).toNat * (4 : Nat) + (↑x_2.snd.fst : Int).toNat < (16 : Nat) ∧ ([] : List Nat) = [] ∧ true = true) ∧ (1 : Nat) ≠ (0 : Nat) ∧ (1 : Nat) = (1 : Nat) ∧ false = false) ∧
    True ∧
    True ∧
    ((AV.d (D.val (Value.int IntKind.i64 (IntKind.i64.wrap ((↑x_2.snd.fst : Int) + (1 : Int))))) = AV.d (D.val (Value.int IntKind.i64 (↑(IntKind.i64.wrap ((↑x_2.snd.fst : Int) + (1 : Int))).toNat : Int))) ∧ True) ∧
    (sm (some (Blk.fix (D.arr IntKind.u8 (16 : Nat) b))) ∧
    sm (some (Blk.fix (D.arr IntKind.u8 (16 : Nat) [(0 : Int), (0 : Int), (0 : Int), (0 : Int), (0 : Int), (0 : Int), (0 : Int), (0 : Int), (0 : Int), (0 : Int), (0 : Int), (0 : Int), (0 : Int), (0 : Int), (0 : Int), (0 : Int)]))) ∧
    sm (some (Blk.fix (D.arr IntKind.u8 (16 : Nat) (trL (enS w b R x))))) ∧
    some
    (Blk.fix
    (D.arr IntKind.u8 (16 : Nat)
    ((selL (16 : Nat) (fun (j : Nat) => decide (j < (4 : Nat) * x_2.fst + x_2.snd.fst)) (shR x_2.snd.snd) z16).set ((↑x_1.fst : Int).toNat * (4 : Nat) + (↑x_2.snd.fst : Int).toNat)
    (bx.getD ((trL (enS w b R x)).getD ((↑x_1.fst : Int).toNat * (4 : Nat) + ((IntKind.i64.wrap ((↑x_2.snd.fst : Int) + (↑x_1.fst : Int))).tmod (4 : Int)).toNat) (0 : Int)).toNat (0 : Int))))) =
    some (Blk.fix (D.arr IntKind.u8 (16 : Nat) (selL (16 : Nat) (fun (j : Nat) => decide (j < (4 : Nat) * (↑x_1.fst : Int).toNat + (IntKind.i64.wrap ((↑x_2.snd.fst : Int) + (1 : Int))).toNat)) (shR (trL (enS w b R x))) z16))) ∧
    True) ∧
    true = true) ∧
    ((↑(↑x_1.fst : Int).toNat : Int) = (↑x_1.fst : Int) ∧ trL (enS w b R x) = trL (enS w b R x) ∧ (IntKind.i64.wrap ((↑x_2.snd.fst : Int) + (1 : Int))).toNat ≤ (4 : Nat)) ∧ (4 : Nat) - (IntKind.i64.wrap ((↑x_2.snd.fst : Int) + (1 : Int))).toNat < (4 : Nat) - x_2.snd.fst
   | false =>
    True ∧
    True ∧
    ((AV.d (D.val (Value.int IntKind.i64 (IntKind.i64.wrap ((↑x_1.fst : Int) + (1 : Int))))) = AV.d (D.val (Value.int IntKind.i64 (↑(IntKind.i64.wrap ((↑x_1.fst : Int) + (1 : Int))).toNat : Int))) ∧ True) ∧
    (sm (some (Blk.fix (D.arr IntKind.u8 (16 : Nat) b))) ∧
    sm (some (Blk.fix (D.arr IntKind.u8 (16 : Nat) [(0 : Int), (0 : Int), (0 : Int), (0 : Int), (0 : Int), (0 : Int), (0 : Int), (0 : Int), (0 : Int), (0 : Int), (0 : Int), (0 : Int), (0 : Int), (0 : Int), (0 : Int), (0 : Int)]))) ∧
    sm (some (Blk.fix (D.arr IntKind.u8 (16 : Nat) (trL (enS w b R x))))) ∧
    some (Blk.fix (D.arr IntKind.u8 (16 : Nat) (selL (16 : Nat) (fun (j : Nat) => decide (j < (4 : Nat) * x_2.fst + x_2.snd.fst)) (shR x_2.snd.snd) z16))) =
    some (Blk.fix (D.arr IntKind.u8 (16 : Nat) (selL (16 : Nat) (fun (j : Nat) => decide (j < (4 : Nat) * (IntKind.i64.wrap ((↑x_1.fst : Int) + (1 : Int))).toNat)) (shR (trL (enS w b R x))) z16))) ∧
    True) ∧
    true = true) ∧
    (trL (enS w b R x) = trL (enS w b R x) ∧ (IntKind.i64.wrap ((↑x_1.fst : Int) + (1 : Int))).toNat ≤ (4 : Nat)) ∧ (4 : Nat) - (IntKind.i64.wrap ((↑x_1.fst : Int) + (1 : Int))).toNat < (4 : Nat) - x_1.fst
  | false =>
   True ∧
   True ∧
   (∃ (W_1 : List D), ∃ (bx_1 : List Int), ∃ (ux_1 : List Int), [(D.st [D.slc (4 : Nat) W, D.arr IntKind.u8 (256 : Nat) bx, D.arr IntKind.u8 (256 : Nat) ux]).ref] = [(D.st [D.slc (4 : Nat) W_1, D.arr IntKind.u8 (256 : Nat) bx_1, D.arr IntKind.u8 (256 : Nat) ux_1]).ref] ∧ (4 : Nat) ≤ W_1.length ∧ W_1.length ≤ (60 : Nat)) ∧
   True ∧
   match decide ((↑(x + (1 : Nat)) : Int) < (↑(W.length / (4 : Nat) - (1 : Nat)) : Int)) with
   | true =>
    ((16 : Nat) ≠ (0 : Nat) ∧ (16 : Nat) = (16 : Nat) ∧ true = true) ∧
    ((1 : Nat) = (1 : Nat) ∧ false = false ∧ ((0 : Nat) < (4 : Nat) ∧ ([] : List Nat) = [] ∧ true = true) ∧ false = false ∧ ((1 : Nat) < (4 : Nat) ∧ ([] : List Nat) = [] ∧ true = true) ∧ false = false ∧ ((2 : Nat) < (4 : Nat) ∧ ([] : List Nat) = [] ∧ true = true) ∧ false = false ∧ ((3 : Nat) < (4 : Nat) ∧ ([] : List Nat) = [] ∧ true = true) ∧ True) ∧
    (∃ (g : List Int), ∃ (y : List Int), [D.arr IntKind.u8 (16 : Nat) (selL (16 : Nat) (fun (j : Nat) => decide (j < (4 : Nat) * x_1.fst)) (shR x_1.snd) z16), D.arr IntKind.u8 (4 : Nat) [(2 : Int), (3 : Int), (1 : Int), (1 : Int)]] = [D.arr IntKind.u8 (16 : Nat) g, D.arr IntKind.u8 (4 : Nat) y] ∧ isB (16 : Nat) g ∧ isB (4 : Nat) y) ∧
    (Sk.arr (16 : Nat) = Sk.arr (16 : Nat) ∧ (16 : Nat) ≠ (0 : Nat) ∧ (16 : Nat) = (16 : Nat) ∧ false = false) ∧
    True ∧
    ((16 : Nat) ≠ (0 : Nat) ∧ (16 : Nat) = (16 : Nat) ∧ true = true) ∧
    True ∧
    (∃ (W_1 : List D),
    ∃ (bx_1 : List Int),
    ∃ (ux_1 : List Int),
    ∃ (g : List Int),
    ∃ (n : Nat),
    [(D.st [D.slc (4 : Nat) W, D.arr IntKind.u8 (256 : Nat) bx, D.arr IntKind.u8 (256 : Nat) ux]).ref, D.arr IntKind.u8 (16 : Nat) (mxR [(2 : Int), (3 : Int), (1 : Int), (1 : Int)] (selL (16 : Nat) (fun (j : Nat) => decide (j < (4 : Nat) * x_1.fst)) (shR x_1.snd) z16)),
    D.val (Value.int IntKind.i64 (↑(x + (1 : Nat)) : Int))] =
    [(D.st [D.slc (4 : Nat) W_1, D.arr IntKind.u8 (256 : Nat) bx_1, D.arr IntKind.u8 (256 : Nat) ux_1]).ref, D.arr IntKind.u8 (16 : Nat) g, D.val (Value.int IntKind.i64 (↑n : Int))] ∧
    okW W_1 ∧ isB (16 : Nat) g ∧ (4 : Nat) * n + (4 : Nat) ≤ W_1.length ∧ n < (15 : Nat)) ∧
    (Sk.arr (16 : Nat) = Sk.arr (16 : Nat) ∧ (16 : Nat) ≠ (0 : Nat) ∧ (16 : Nat) = (16 : Nat) ∧ false = false) ∧
    True ∧
    True ∧
    True ∧
    ((AV.d (D.val (Value.int IntKind.i64 (IntKind.i64.wrap ((↑(x + (1 : Nat)) : Int) + (1 : Int))))) = AV.d (D.val (Value.int IntKind.i64 (↑((IntKind.i64.wrap ((↑(x + (1 : Nat)) : Int) + (1 : Int)) - (1 : Int)).toNat + (1 : Nat)) : Int))) ∧ True) ∧
    (sm (some (Blk.fix (D.arr IntKind.u8 (16 : Nat) b))) ∧
    sm (some (Blk.fix (D.arr IntKind.u8 (16 : Nat) [(0 : Int), (0 : Int), (0 : Int), (0 : Int), (0 : Int), (0 : Int), (0 : Int), (0 : Int), (0 : Int), (0 : Int), (0 : Int), (0 : Int), (0 : Int), (0 : Int), (0 : Int), (0 : Int)]))) ∧
    some (Blk.fix (D.arr IntKind.u8 (16 : Nat) (adR (flW W) (↑(x + (1 : Nat)) : Int).toNat (mxR [(2 : Int), (3 : Int), (1 : Int), (1 : Int)] (selL (16 : Nat) (fun (j : Nat) => decide (j < (4 : Nat) * x_1.fst)) (shR x_1.snd) z16))))) =
    some (Blk.fix (D.arr IntKind.u8 (16 : Nat) (trL (enS w b R (IntKind.i64.wrap ((↑(x + (1 : Nat)) : Int) + (1 : Int)) - (1 : Int)).toNat)))) ∧
    True) ∧
    true = true) ∧
    (IntKind.i64.wrap ((↑(x + (1 : Nat)) : Int) + (1 : Int)) - (1 : Int)).toNat ≤ R ∧ R - (IntKind.i64.wrap ((↑(x + (1 : Nat)) : Int) + (1 : Int)) - (1 : Int)).toNat < R - x
   | false =>
    True ∧
    ((16 : Nat) ≠ (0 : Nat) ∧ (16 : Nat) = (16 : Nat) ∧ true = true) ∧
    True ∧
    (∃ (W_1 : List D),
    ∃ (bx_1 : List Int),
    ∃ (ux_1 : List Int),
    ∃ (g : List Int),
    ∃ (n : Nat),
    [(D.st [D.slc (4 : Nat) W, D.arr IntKind.u8 (256 : Nat) bx, D.arr IntKind.u8 (256 : Nat) ux]).ref, D.arr IntKind.u8 (16 : Nat) (selL (16 : Nat) (fun (j : Nat) => decide (j < (4 : Nat) * x_1.fst)) (shR x_1.snd) z16), D.val (Value.int IntKind.i64 (↑(x + (1 : Nat)) : Int))] =
    [(D.st [D.slc (4 : Nat) W_1, D.arr IntKind.u8 (256 : Nat) bx_1, D.arr IntKind.u8 (256 : Nat) ux_1]).ref, D.arr IntKind.u8 (16 : Nat) g, D.val (Value.int IntKind.i64 (↑n : Int))] ∧
    okW W_1 ∧ isB (16 : Nat) g ∧ (4 : Nat) * n + (4 : Nat) ≤ W_1.length ∧ n < (15 : Nat)) ∧
    (Sk.arr (16 : Nat) = Sk.arr (16 : Nat) ∧ (16 : Nat) ≠ (0 : Nat) ∧ (16 : Nat) = (16 : Nat) ∧ false = false) ∧
    True ∧
    True ∧
    True ∧
    ((AV.d (D.val (Value.int IntKind.i64 (IntKind.i64.wrap ((↑(x + (1 : Nat)) : Int) + (1 : Int))))) = AV.d (D.val (Value.int IntKind.i64 (↑((IntKind.i64.wrap ((↑(x + (1 : Nat)) : Int) + (1 : Int)) - (1 : Int)).toNat + (1 : Nat)) : Int))) ∧ True) ∧
    (sm (some (Blk.fix (D.arr IntKind.u8 (16 : Nat) b))) ∧
    sm (some (Blk.fix (D.arr IntKind.u8 (16 : Nat) [(0 : Int), (0 : Int), (0 : Int), (0 : Int), (0 : Int), (0 : Int), (0 : Int), (0 : Int), (0 : Int), (0 : Int), (0 : Int), (0 : Int), (0 : Int), (0 : Int), (0 : Int), (0 : Int)]))) ∧
    some (Blk.fix (D.arr IntKind.u8 (16 : Nat) (adR (flW W) (↑(x + (1 : Nat)) : Int).toNat (selL (16 : Nat) (fun (j : Nat) => decide (j < (4 : Nat) * x_1.fst)) (shR x_1.snd) z16)))) =
    some (Blk.fix (D.arr IntKind.u8 (16 : Nat) (trL (enS w b R (IntKind.i64.wrap ((↑(x + (1 : Nat)) : Int) + (1 : Int)) - (1 : Int)).toNat)))) ∧
    True) ∧
    true = true) ∧
    (IntKind.i64.wrap ((↑(x + (1 : Nat)) : Int) + (1 : Int)) - (1 : Int)).toNat ≤ R ∧ R - (IntKind.i64.wrap ((↑(x + (1 : Nat)) : Int) + (1 : Int)) - (1 : Int)).toNat < R - x
 | false =>
  ((16 : Nat) ≠ (0 : Nat) ∧ (16 : Nat) = (16 : Nat) ∧ true = true) ∧
  (∃ (b_1 : List Int), [D.arr IntKind.u8 (16 : Nat) (trL (enS w b R x))] = [D.arr IntKind.u8 (16 : Nat) b_1] ∧ isB (16 : Nat) b_1) ∧
  (Sk.arr (16 : Nat) = Sk.arr (16 : Nat) ∧ (16 : Nat) ≠ (0 : Nat) ∧ (16 : Nat) = (16 : Nat) ∧ false = false) ∧ (((16 : Nat) ≠ (0 : Nat) ∧ (16 : Nat) = (16 : Nat) ∧ true = true) ∧ True) ∧ D.arr IntKind.u8 (16 : Nat) (trL (trL (enS w b R x))) = F) := by kernel_rfl
set_option maxRecDepth 100000 in
theorem vc28  (W : List D) (bx ux b w : List Int) (R : Nat) (F : D)  :
    (owed c26 (inv28 w b R) Try.f28 [.ref (cipD W bx ux), b16 b] F) = (
 (True ∧ false = false) ∧
 (True ∧ (16 : Nat) ≠ (0 : Nat)) ∧
 ((16 : Nat) ≠ (0 : Nat) ∧ (16 : Nat) = (16 : Nat) ∧ true = true) ∧
 (∃ (b_1 : List Int), [D.arr IntKind.u8 (16 : Nat) b] = [D.arr IntKind.u8 (16 : Nat) b_1] ∧ isB (16 : Nat) b_1) ∧
 (True ∧ (16 : Nat) ≠ (0 : Nat)) ∧
 (Sk.arr (16 : Nat) = Sk.arr (16 : Nat) ∧ (16 : Nat) ≠ (0 : Nat) ∧ (16 : Nat) = (16 : Nat) ∧ false = false) ∧
 True ∧
 (∃ (W_1 : List D), ∃ (bx_1 : List Int), ∃ (ux_1 : List Int), [(D.st [D.slc (4 : Nat) W, D.arr IntKind.u8 (256 : Nat) bx, D.arr IntKind.u8 (256 : Nat) ux]).ref] = [(D.st [D.slc (4 : Nat) W_1, D.arr IntKind.u8 (256 : Nat) bx_1, D.arr IntKind.u8 (256 : Nat) ux_1]).ref] ∧ (4 : Nat) ≤ W_1.length ∧ W_1.length ≤ (60 : Nat)) ∧
 True ∧
 (((AV.d (D.val (Value.int IntKind.i64 (↑(W.length / (4 : Nat) - (1 : Nat)) : Int))) = AV.d (D.val (Value.int IntKind.i64 ((↑R : Int) - (↑((↑R : Int) - (↑(W.length / (4 : Nat) - (1 : Nat)) : Int)).toNat : Int)))) ∧ True) ∧
 (sm (some (Blk.fix (D.arr IntKind.u8 (16 : Nat) b))) ∧
 sm (some (Blk.fix (D.arr IntKind.u8 (16 : Nat) [(0 : Int), (0 : Int), (0 : Int), (0 : Int), (0 : Int), (0 : Int), (0 : Int), (0 : Int), (0 : Int), (0 : Int), (0 : Int), (0 : Int), (0 : Int), (0 : Int), (0 : Int), (0 : Int)]))) ∧
 some (Blk.fix (D.arr IntKind.u8 (16 : Nat) (trL b))) = some (Blk.fix (D.arr IntKind.u8 (16 : Nat) (trL (deS w b R ((↑R : Int) - (↑(W.length / (4 : Nat) - (1 : Nat)) : Int)).toNat)))) ∧ True) ∧
 true = true) ∧
 ((↑R : Int) - (↑(W.length / (4 : Nat) - (1 : Nat)) : Int)).toNat ≤ R) ∧
 ∀ (x : Nat),
 x ≤ R →
 true = true ∧
 True ∧
 True ∧
 match decide ((↑R : Int) - (↑x : Int) ≥ (1 : Int)) with
 | true =>
  True ∧
  ((16 : Nat) ≠ (0 : Nat) ∧ (16 : Nat) = (16 : Nat) ∧ true = true) ∧
  True ∧
  (∃ (W_1 : List D),
  ∃ (bx_1 : List Int),
  ∃ (ux_1 : List Int),
  ∃ (g : List Int),
  ∃ (n : Nat),
  [(D.st [D.slc (4 : Nat) W, D.arr IntKind.u8 (256 : Nat) bx, D.arr IntKind.u8 (256 : Nat) ux]).ref, D.arr IntKind.u8 (16 : Nat) (trL (deS w b R x)), D.val (Value.int IntKind.i64 ((↑R : Int) - (↑x : Int)))] =
  [(D.st [D.slc (4 : Nat) W_1, D.arr IntKind.u8 (256 : Nat) bx_1, D.arr IntKind.u8 (256 : Nat) ux_1]).ref, D.arr IntKind.u8 (16 : Nat) g, D.val (Value.int IntKind.i64 (↑n : Int))] ∧
  okW W_1 ∧ isB (16 : Nat) g ∧ (4 : Nat) * n + (4 : Nat) ≤ W_1.length ∧ n < (15 : Nat)) ∧
  (Sk.arr (16 : Nat) = Sk.arr (16 : Nat) ∧ (16 : Nat) ≠ (0 : Nat) ∧ (16 : Nat) = (16 : Nat) ∧ false = false) ∧
  True ∧
  True ∧
  (∃ (W_1 : List D), ∃ (bx_1 : List Int), ∃ (ux_1 : List Int), [(D.st [D.slc (4 : Nat) W, D.arr IntKind.u8 (256 : Nat) bx, D.arr IntKind.u8 (256 : Nat) ux]).ref] = [(D.st [D.slc (4 : Nat) W_1, D.arr IntKind.u8 (256 : Nat) bx_1, D.arr IntKind.u8 (256 : Nat) ux_1]).ref] ∧ (4 : Nat) ≤ W_1.length ∧ W_1.length ≤ (60 : Nat)) ∧
  True ∧
  match decide ((↑R : Int) - (↑x : Int) < (↑(W.length / (4 : Nat) - (1 : Nat)) : Int)) with
  | true =>
   ((16 : Nat) ≠ (0 : Nat) ∧ (16 : Nat) = (16 : Nat) ∧ true = true) ∧
   ((1 : Nat) = (1 : Nat) ∧ false = false ∧ ((0 : Nat) < (4 : Nat) ∧ ([] : List Nat) = [] ∧ true = true) ∧ false = false ∧ ((1 : Nat) < (4 : Nat) ∧ ([] : List Nat) = [] ∧ true = true) ∧ false = false ∧ ((2 : Nat) < (4 : Nat) ∧ ([] : List Nat) = [] ∧ true = true) ∧ false = false ∧ ((3 : Nat) < (4 : Nat) ∧ ([] : List Nat) = [] ∧ true = true) ∧ True) ∧
   (∃ (g : List Int), ∃ (y : List Int), [D.arr IntKind.u8 (16 : Nat) (adR (flW W) ((↑R : Int) - (↑x : Int)).toNat (trL (deS w b R x))), D.arr IntKind.u8 (4 : Nat) [(14 : Int), (11 : Int), (13 : Int), (9 : Int)]] = [D.arr IntKind.u8 (16 : Nat) g, D.arr IntKind.u8 (4 : Nat) y] ∧ isB (16 : Nat) g ∧ isB (4 : Nat) y) ∧
   (Sk.arr (16 : Nat) = Sk.arr (16 : Nat) ∧ (16 : Nat) ≠ (0 : Nat) ∧ (16 : Nat) = (16 : Nat) ∧ false = false) ∧
   (True ∧ (16 : Nat) ≠ (0 : Nat)) ∧
   True ∧
   (((AV.d (D.val (Value.int IntKind.i64 (0 : Int))) = AV.d (D.val (Value.int IntKind.i64 (↑(0 : Nat) : Int))) ∧ True) ∧
   (sm (some (Blk.fix (D.arr IntKind.u8 (16 : Nat) b))) ∧
   sm (some (Blk.fix (D.arr IntKind.u8 (16 : Nat) [(0 : Int), (0 : Int), (0 : Int), (0 : Int), (0 : Int), (0 : Int), (0 : Int), (0 : Int), (0 : Int), (0 : Int), (0 : Int), (0 : Int), (0 : Int), (0 : Int), (0 : Int), (0 : Int)]))) ∧
   sm (some (Blk.fix (D.arr IntKind.u8 (16 : Nat) (mxR [(14 : Int), (11 : Int), (13 : Int), (9 : Int)] (adR (flW W) ((↑R : Int) - (↑x : Int)).toNat (trL (deS w b R x))))))) ∧
   some (Blk.fix (D.arr IntKind.u8 (16 : Nat) [(0 : Int), (0 : Int), (0 : Int), (0 : Int), (0 : Int), (0 : Int), (0 : Int), (0 : Int), (0 : Int), (0 : Int), (0 : Int), (0 : Int), (0 : Int), (0 : Int), (0 : Int), (0 : Int)])) =
   some (Blk.fix (D.arr IntKind.u8 (16 : Nat) (selL (16 : Nat) (fun (j : Nat) => decide (j < (0 : Nat))) (usR (mxR [(14 : Int), (11 : Int), (13 : Int), (9 : Int)] (adR (flW W) ((↑R : Int) - (↑x : Int)).toNat (trL (deS w b R x))))) z16))) ∧
   True) ∧
   true = true) ∧
   mxR [(14 : Int), (11 : Int), (13 : Int), (9 : Int)] (adR (flW W) ((↑R : Int) - (↑x : Int)).toNat (trL (deS w b R x))) = mxR [(14 : Int), (11 : Int), (13 : Int), (9 : Int)] (adR (flW W) ((↑R : Int) - (↑x : Int)).toNat (trL (deS w b R x))) ∧ (0 : Nat) ≤ (4 : Nat)) ∧
   ∀ (x_1 : Nat × List Int),
   x_1.snd = mxR [(14 : Int), (11 : Int), (13 : Int), (9 : Int)] (adR (flW W) ((↑R : Int) - (↑x : Int)).toNat (trL (deS w b R x))) ∧ x_1.fst ≤ (4 : Nat) →
   true = true ∧
   True ∧
   match decide ((↑x_1.fst : Int) < (4 : Int)) with
   | true =>
    True ∧
    True ∧
    True ∧
    (((AV.d (D.val (Value.int IntKind.i64 (0 : Int))) = AV.d (D.val (Value.int IntKind.i64 (↑(0 : Nat) : Int))) ∧ True) ∧
    (sm (some (Blk.fix (D.arr IntKind.u8 (16 : Nat) b))) ∧
    sm (some (Blk.fix (D.arr IntKind.u8 (16 : Nat) [(0 : Int), (0 : Int), (0 : Int), (0 : Int), (0 : Int), (0 : Int), (0 : Int), (0 : Int), (0 : Int), (0 : Int), (0 : Int), (0 : Int), (0 : Int), (0 : Int), (0 : Int), (0 : Int)]))) ∧
    sm (some (Blk.fix (D.arr IntKind.u8 (16 : Nat) (mxR [(14 : Int), (11 : Int), (13 : Int), (9 : Int)] (adR (flW W) ((↑R : Int) - (↑x : Int)).toNat (trL (deS w b R x))))))) ∧
    some (Blk.fix (D.arr IntKind.u8 (16 : Nat) (selL (16 : Nat) (fun (j : Nat) => decide (j < (4 : Nat) * x_1.fst)) (usR x_1.snd) z16))) =
    some
    (Blk.fix
    (D.arr IntKind.u8 (16 : Nat)
    (selL (16 : Nat) (fun (j : Nat) => decide (j / (4 : Nat) < (↑x_1.fst : Int).toNat) || decide (j / (4 : Nat) = (↑x_1.fst : Int).toNat) && decide ((j % (4 : Nat) + (4 : Nat) - (↑x_1.fst : Int).toNat) % (4 : Nat) < (0 : Nat)))
    (usR (mxR [(14 : Int), (11 : Int), (13 : Int), (9 : Int)] (adR (flW W) ((↑R : Int) - (↑x : Int)).toNat (trL (deS w b R x))))) z16))) ∧
    True) ∧
    true = true) ∧
    (↑(↑x_1.fst : Int).toNat : Int) = (↑x_1.fst : Int) ∧
    mxR [(14 : Int), (11 : Int), (13 : Int), (9 : Int)] (adR (flW W) ((↑R : Int) - (↑x : Int)).toNat (trL (deS w b R x))) = mxR [(14 : Int), (11 : Int), (13 : Int), (9 : Int)] (adR (flW W) ((↑R : Int) - (↑x : Int)).toNat (trL (deS w b R x))) ∧ (0 : Nat) ≤ (4 : Nat)) ∧
    ∀ (x_2 : Nat × Nat × List Int),
    (↑x_2.fst : Int) = (↑x_1.fst : Int) ∧ x_2.snd.snd = mxR [(14 : Int), (11 : Int), (13 : Int), (9 : Int)] (adR (flW W) ((↑R : Int) - (↑x : Int)).toNat (trL (deS w b R x))) ∧ x_2.snd.fst ≤ (4 : Nat) →
    true = true ∧
    True ∧
    match decide ((↑x_2.snd.fst : Int) < (4 : Int)) with
    | true =>
     True ∧
     True ∧
     True ∧
     True ∧
     True ∧
     True ∧
     (4 : Int) ≠ (0 : Int) ∧
     True ∧
     True ∧
     True ∧
     ((0 : Int) ≤ (↑x_1.fst : Int) ∧ (↑x_1.fst : Int) < (↑(4 : Nat) : Int) ∧ (16 : Nat) = (16 : Nat) ∧ (4 : Nat) = (4 : Nat) ∧ (4 : Nat) ≠ (0 : Nat)) ∧
     ((0 : Int) ≤ (↑x_2.snd.fst : Int) ∧ (↑x_2.snd.fst : Int) < (↑(4 : Nat) : Int) ∧ (4 : Nat) = (4 : Nat) ∧ (1 : Nat) = (1 : Nat)) ∧
     ((1 : Nat) ≠ (0 : Nat) ∧ (1 : Nat) = (1 : Nat) ∧ false = false) ∧
     True ∧
     (Sk.st [Sk.one, Sk.arr (256 : Nat), Sk.arr (256 : Nat)] = Sk.st [Sk.one, Sk.arr (256 : Nat), Sk.arr (256 : Nat)] ∧ (2 : Nat) < (3 : Nat)) ∧
     ((0 : Int) ≤ (mxR [(14 : Int), (11 : Int), (13 : Int), (9 : Int)] (adR (flW W) ((↑R : Int) - (↑x : Int)).toNat (trL (deS w b R x)))).getD ((↑x_1.fst : Int).toNat * (4 : Nat) + (↑x_2.snd.fst : Int).toNat) (0 : Int) ∧
     (mxR [(14 : Int), (11 : Int), (13 : Int), (9 : Int)] (adR (flW W) ((↑R : Int) - (↑x : Int)).toNat (trL (deS w b R x)))).getD ((↑x_1.fst : Int).toNat * (4 : Nat) + (↑x_2.snd.fst : Int).toNat) (0 : Int) < (↑(256 : Nat) : Int) ∧
     (256 : Nat) = (256 : Nat) ∧ (1 : Nat) = (1 : Nat)) ∧
     ((1 : Nat) ≠ (0 : Nat) ∧ (1 : Nat) = (1 : Nat) ∧ false = false) ∧
     ((0 : Int) ≤ (↑x_1.fst : Int) ∧ (↑x_1.fst : Int) < (↑(4 : Nat) : Int) ∧ (16 : Nat) = (16 : Nat) ∧ (4 : Nat) = (4 : Nat) ∧ (4 : Nat) ≠ (0 : Nat)) ∧
     ((0 : Int) ≤ (IntKind.i64.wrap ((↑x_2.snd.fst : Int) + (↑x_1.fst : Int))).tmod (4 : Int) ∧ (IntKind.i64.wrap ((↑x_2.snd.fst : Int) + (↑x_1.fst : Int))).tmod (4 : Int) < (↑(4 : Nat) : Int) ∧ (4 : Nat) = (4 : Nat) ∧ (1 : Nat) = (1 : Nat)) ∧
     (((↑x_1.fst : Int).toNat * (4 : Nat) + ((IntKind.i64.wrap ((↑x_2.snd.fst : Int) + (↑x_1.fst : Int))).tmod (4 : Int)).toNat < (16 : Nat) ∧ ([] : List Nat) = [] ∧ true = true) ∧ (1 : Nat) ≠ (0 : Nat) ∧ (1 : Nat) = (1 : Nat) ∧ false = false) ∧
     True ∧
     True ∧
     ((AV.d (D.val (Value.int IntKind.i64 (IntKind.i64.wrap ((↑x_2.snd.fst : Int) + (1 : Int))))) = AV.d (D.val (Value.int IntKind.i64 (↑(IntKind.i64.wrap ((↑x_2.snd.fst : Int) + (1 : Int))).toNat : Int))) ∧ True) ∧
     (sm (some (Blk.fix (D.arr IntKind.u8 (16 : Nat) b))) ∧
     sm (some (Blk.fix (D.arr IntKind.u8 (16 : Nat) [(0 : Int), (0 : Int), (0 : Int), (0 : Int), (0 : Int), (0 : Int), (0 : Int), (0 : Int), (0 : Int), (0 : Int), (0 : Int), (0 : Int), (0 : Int), (0 : Int), (0 : Int), (0 : Int)]))) ∧
     sm (some (Blk.fix (D.arr IntKind.u8 (16 : Nat) (mxR [(14 : Int), (11 : Int), (13 : Int), (9 : Int)] (adR (flW W) ((↑R : Int) - (↑x : Int)).toNat (trL (deS w b R x))))))) ∧
     some
     (Blk.fix
     (D.arr IntKind.u8 (16 : Nat)
     ((selL (16 : Nat) (fun (j : Nat) => decide (j / (4 : Nat) < x_2.fst) || decide (j / (4 : Nat) = x_2.fst) && decide ((j % (4 : Nat) + (4 : Nat) - x_2.fst) % (4 : Nat) < x_2.snd.fst)) (usR x_2.snd.snd) z16).set
     ((↑x_1.fst : Int).toNat * (4 : Nat) + ((IntKind.i64.wrap ((↑x_2.snd.fst : Int) + (↑x_1.fst : Int))).tmod (4 : Int)).toNat)
     (ux.getD ((mxR [(14 : Int), (11 : Int), (13 : Int), (9 : Int)] (adR (flW W) ((↑R : Int) - (↑x : Int)).toNat (trL (deS w b R x)))).getD ((↑x_1.fst : Int).toNat * (4 : Nat) + (↑x_2.snd.fst : Int).toNat) (0 : Int)).toNat (0 : Int))))) =
     some
     (Blk.fix
     (D.arr IntKind.u8 (16 : Nat)
     (selL (16 : Nat)
     (fun (j : Nat) =>
     decide (j / (4 : Nat) < (↑x_1.fst : Int).toNat) ||
     decide (j / (4 : Nat) = (↑x_1.fst : Int).toNat) && decide ((j % (4 : Nat) + (4 : Nat) - (↑x_1.fst : Int).toNat) % (4 : Nat) < (IntKind.i64.wrap ((↑x_2.snd.fst : Int) + (1 : Int))).toNat))
     (usR (mxR [(14 : Int), (11 : Int), (13 : Int), (9 : Int)] (adR (flW W) ((↑R : Int) - (↑x : Int)).toNat (trL (deS w b R x))))) z16))) ∧
     True) ∧
     true = true) ∧
     ((↑(↑x_1.fst : Int).toNat : Int) = (↑x_1.fst : Int) ∧
     mxR [(14 : Int), (11 : Int), (13 : Int), (9 : Int)] (adR (flW W) ((↑R : Int) - (↑x : Int)).toNat (trL (deS w b R x))) = mxR [(14 : Int), (11 : Int), (13 : Int), (9 : Int)] (adR (flW W) ((↑R : Int) - (↑x : Int)).toNat (trL (deS w b R x))) ∧
     (IntKind.i64.wrap ((↑x_2.snd.fst : Int) + (1 : Int))).toNat ≤ (4 : Nat)) ∧
     (4 : Nat) - (IntKind.i64.wrap ((↑x_2.snd.fst : Int) + (1 : Int))).toNat < (4 : Nat) - x_2.snd.fst
    | false =>
     True ∧
     True ∧
     ((AV.d (D.val (Value.int IntKind.i64 (IntKind.i64.wrap ((↑x_1.fst : Int) + (1 : Int))))) = AV.d (D.val (Value.int IntKind.i64 (↑(IntKind.i64.wrap ((↑x_1.fst : Int) + (1 : Int))).toNat : Int))) ∧ True) ∧
     (sm (some (Blk.fix (D.arr IntKind.u8 (16 : Nat) b))) ∧
     sm (some (Blk.fix (D.arr IntKind.u8 (16 : Nat) [(0 : Int), (0 : Int), (0 : Int), (0 : Int), (0 : Int), (0 : Int), (0 : Int), (0 : Int), (0 : Int), (0 : Int), (0 : Int), (0 : Int), (0 : Int), (0 : Int), (0 : Int), (0 : Int)]))) ∧
     sm (some (Blk.fix (D.arr IntKind.u8 (16 : Nat) (mxR [(14 : Int), (11 : Int), (13 : Int), (9 : Int)] (adR (flW W) ((↑R : Int) - (↑x : Int)).toNat (trL (deS w b R x))))))) ∧
     some (Blk.fix (D.arr IntKind.u8 (16 : Nat) (selL (16 : Nat) (fun (j : Nat) => decide (j / (4 : Nat) < x_2.fst) || decide (j / (4 : Nat) = x_2.fst) && decide ((j % (4 : Nat) + (4 : Nat) - x_2.fst) % (4 : Nat) < x_2.snd.fst)) (usR x_2.snd.snd) z16))) =
     some
     (Blk.fix
     (D.arr IntKind.u8 (16 : Nat) (selL (16 : Nat) (fun (j : Nat) => decide (j < (4 : Nat) * (IntKind.i64.wrap ((↑x_1.fst : Int) + (1 : Int))).toNat)) (usR (mxR [(14 : Int), (11 : Int), (13 : Int), (9 : Int)] (adR (flW W) ((↑R : Int) - (↑x : Int)).toNat (trL (deS w b R x))))) z16))) ∧
     True) ∧
     true = true) ∧
     (mxR [(14 : Int), (11 : Int), (13 : Int), (9 : Int)] (adR (flW W) ((↑R : Int) - (↑x : Int)).toNat (trL (deS w b R x))) = mxR [(14 : Int), (11 : Int), (13 : Int), (9 : Int)] (adR (flW W) ((↑R : Int) - (↑x : Int)).toNat (trL (deS w b R x))) ∧
     (IntKind.i64.wrap ((↑x_1.fst : Int) + (1 : Int))).toNat ≤ (4 : Nat)) ∧
     (4 : Nat) - (IntKind.i64.wrap ((↑x_1.fst : Int) + (1 : Int))).toNat < (4 : Nat) - x_1.fst
   | false =>
    ((16 : Nat) ≠ (0 : Nat) ∧ (16 : Nat) = (16 : Nat) ∧ true = true) ∧
    (Sk.arr (16 : Nat) = Sk.arr (16 : Nat) ∧ (16 : Nat) ≠ (0 : Nat) ∧ (16 : Nat) = (16 : Nat) ∧ false = false) ∧
    True ∧
    True ∧
    True ∧
    ((AV.d (D.val (Value.int IntKind.i64 (IntKind.i64.wrap ((↑R : Int) - (↑x : Int) - (1 : Int))))) = AV.d (D.val (Value.int IntKind.i64 ((↑R : Int) - (↑((↑R : Int) - IntKind.i64.wrap ((↑R : Int) - (↑x : Int) - (1 : Int))).toNat : Int)))) ∧ True) ∧
    (sm (some (Blk.fix (D.arr IntKind.u8 (16 : Nat) b))) ∧
    sm (some (Blk.fix (D.arr IntKind.u8 (16 : Nat) [(0 : Int), (0 : Int), (0 : Int), (0 : Int), (0 : Int), (0 : Int), (0 : Int), (0 : Int), (0 : Int), (0 : Int), (0 : Int), (0 : Int), (0 : Int), (0 : Int), (0 : Int), (0 : Int)]))) ∧
    some (Blk.fix (D.arr IntKind.u8 (16 : Nat) (selL (16 : Nat) (fun (j : Nat) => decide (j < (4 : Nat) * x_1.fst)) (usR x_1.snd) z16))) = some (Blk.fix (D.arr IntKind.u8 (16 : Nat) (trL (deS w b R ((↑R : Int) - IntKind.i64.wrap ((↑R : Int) - (↑x : Int) - (1 : Int))).toNat)))) ∧ True) ∧
    true = true) ∧
    ((↑R : Int) - IntKind.i64.wrap ((↑R : Int) - (↑x : Int) - (1 : Int))).toNat ≤ R ∧ R - ((↑R : Int) - IntKind.i64.wrap ((↑R : Int) - (↑x : Int) - (1 : Int))).toNat < R - x
  | false =>
   (True ∧ (16 : Nat) ≠ (0 : Nat)) ∧
   True ∧
   (((AV.d (D.val (Value.int IntKind.i64 (0 : Int))) = AV.d (D.val (Value.int IntKind.i64 (↑(0 : Nat) : Int))) ∧ True) ∧
   (sm (some (Blk.fix (D.arr IntKind.u8 (16 : Nat) b))) ∧
   sm (some (Blk.fix (D.arr IntKind.u8 (16 : Nat) [(0 : Int), (0 : Int), (0 : Int), (0 : Int), (0 : Int), (0 : Int), (0 : Int), (0 : Int), (0 : Int), (0 : Int), (0 : Int), (0 : Int), (0 : Int), (0 : Int), (0 : Int), (0 : Int)]))) ∧
   sm (some (Blk.fix (D.arr IntKind.u8 (16 : Nat) (adR (flW W) ((↑R : Int) - (↑x : Int)).toNat (trL (deS w b R x)))))) ∧
   some (Blk.fix (D.arr IntKind.u8 (16 : Nat) [(0 : Int), (0 : Int), (0 : Int), (0 : Int), (0 : Int), (0 : Int), (0 : Int), (0 : Int), (0 : Int), (0 : Int), (0 : Int), (0 : Int), (0 : Int), (0 : Int), (0 : Int), (0 : Int)])) =
   some (Blk.fix (D.arr IntKind.u8 (16 : Nat) (selL (16 : Nat) (fun (j : Nat) => decide (j < (0 : Nat))) (usR (adR (flW W) ((↑R : Int) - (↑x : Int)).toNat (trL (deS w b R x)))) z16))) ∧
   True) ∧
   true = true) ∧
   adR (flW W) ((↑R : Int) - (↑x : Int)).toNat (trL (deS w b R x)) = adR (flW W) ((↑R : Int) - (↑x : Int)).toNat (trL (deS w b R x)) ∧ (0 : Nat) ≤ (4 : Nat)) ∧
   ∀ (x_1 : Nat × List Int),
   x_1.snd = adR (flW W) ((↑R : Int) - (↑x : Int)).toNat (trL (deS w b R x)) ∧ x_1.fst ≤ (4 : Nat) →
   true = true ∧
   True ∧
   match decide ((↑x_1.fst : Int) < (4 : Int)) with
   | true =>
    True ∧
    True ∧
    True ∧
    (((AV.d (D.val (Value.int IntKind.i64 (0 : Int))) = AV.d (D.val (Value.int IntKind.i64 (↑(0 : Nat) : Int))) ∧ True) ∧
    (sm (some (Blk.fix (D.arr IntKind.u8 (16 : Nat) b))) ∧
    sm (some (Blk.fix (D.arr IntKind.u8 (16 : Nat) [(0 : Int), (0 : Int), (0 : Int), (0 : Int), (0 : Int), (0 : Int), (0 : Int), (0 : Int), (0 : Int), (0 : Int), (0 : Int), (0 : Int), (0 : Int), (0 : Int), (0 : Int), (0 : Int)]))) ∧
    sm (some (Blk.fix (D.arr IntKind.u8 (16 : Nat) (adR (flW W) ((↑R : Int) - (↑x : Int)).toNat (trL (deS w b R x)))))) ∧
    some (Blk.fix (D.arr IntKind.u8 (16 : Nat) (selL (16 : Nat) (fun (j : Nat) => decide (j < (4 : Nat) * x_1.fst)) (usR x_1.snd) z16))) =
    some
    (Blk.fix
    (D.arr IntKind.u8 (16 : Nat)
    (selL (16 : Nat) (fun (j : Nat) => decide (j / (4 : Nat) < (↑x_1.fst : Int).toNat) || decide (j / (4 : Nat) = (↑x_1.fst : Int).toNat) && decide ((j % (4 : Nat) + (4 : Nat) - (↑x_1.fst : Int).toNat) % (4 : Nat) < (0 : Nat))) (usR (adR (flW W) ((↑R : Int) - (↑x : Int)).toNat (trL (deS w b R x))))
    z16))) ∧
    True) ∧
    true = true) ∧
    (↑(↑x_1.fst : Int).toNat : Int) = (↑x_1.fst : Int) ∧ adR (flW W) ((↑R : Int) - (↑x : Int)).toNat (trL (deS w b R x)) = adR (flW W) ((↑R : Int) - (↑x : Int)).toNat (trL (deS w b R x)) ∧ (0 : Nat) ≤ (4 : Nat)) ∧
    ∀ (x_2 : Nat × Nat × List Int),
    (↑x_2.fst : Int) = (↑x_1.fst : Int) ∧ x_2.snd.snd = adR (flW W) ((↑R : Int) - (↑x : Int)).toNat (trL (deS w b R x)) ∧ x_2.snd.fst ≤ (4 : Nat) →
    true = true ∧
    True ∧
    match decide ((↑x_2.snd.fst : Int) < (4 : Int)) with
    | true =>
     True ∧
     True ∧
     True ∧
     True ∧
     True ∧
     True ∧
     (4 : Int) ≠ (0 : Int) ∧
     True ∧
     True ∧
     True ∧
     ((0 : Int) ≤ (↑x_1.fst : Int) ∧ (↑x_1.fst : Int) < (↑(4 : Nat) : Int) ∧ (16 : Nat) = (16 : Nat) ∧ (4 : Nat) = (4 : Nat) ∧ (4 : Nat) ≠ (0 : Nat)) ∧
     ((0 : Int) ≤ (↑x_2.snd.fst : Int) ∧ (↑x_2.snd.fst : Int) < (↑(4 : Nat) : Int) ∧ (4 : Nat) = (4 : Nat) ∧ (1 : Nat) = (1 : Nat)) ∧
     ((1 : Nat) ≠ (0 : Nat) ∧ (1 : Nat) = (1 : Nat) ∧ false = false) ∧
     True ∧
     (Sk.st [Sk.one, Sk.arr (256 : Nat), Sk.arr (256 : Nat)] = Sk.st [Sk.one, Sk.arr (256 : Nat), Sk.arr (256 : Nat)] ∧ (2 : Nat) < (3 : Nat)) ∧
     ((0 : Int) ≤ (adR (flW W) ((↑R : Int) - (↑x : Int)).toNat (trL (deS w b R x))).getD ((↑x_1.fst : Int).toNat * (4 : Nat) + (↑x_2.snd.fst : Int).toNat) (0 : Int) ∧
     (adR (flW W) ((↑R : Int) - (↑x : Int)).toNat (trL (deS w b R x))).getD ((↑x_1.fst : Int).toNat * (4 : Nat) + (↑x_2.snd.fst : Int).toNat) (0 : Int) < (↑(256 : Nat) : Int) ∧ (256 : Nat) = (256 : Nat) ∧ (1 : Nat) = (1 : Nat)) ∧
     ((1 : Nat) ≠ (0 : Nat) ∧ (1 : Nat) = (1 : Nat) ∧ false = false) ∧
     ((0 : Int) ≤ (↑x_1.fst : Int) ∧ (↑x_1.fst : Int) < (↑(4 : Nat) : Int) ∧ (16 : Nat) = (16 : Nat) ∧ (4 : Nat) = (4 : Nat) ∧ (4 : Nat) ≠ (0 : Nat)) ∧
     ((0 : Int) ≤ (IntKind.i64.wrap ((↑x_2.snd.fst : Int) + (↑x_1.fst : Int))).tmod (4 : Int) ∧ (IntKind.i64.wrap ((↑x_2.snd.fst : Int) + (↑x_1.fst : Int))).tmod (4 : Int) < (↑(4 : Nat) : Int) ∧ (4 : Nat) = (4 : Nat) ∧ (1 : Nat) = (1 : Nat)) ∧
     (((↑x_1.fst : Int).toNat * (4 : Nat) + ((IntKind.i64.wrap ((↑x_2.snd.fst : Int) + (↑x_1.fst : Int))).tmod (4 : Int)).toNat < (16 : Nat) ∧ ([] : List Nat) = [] ∧ true = true) ∧ (1 : Nat) ≠ (0 : Nat) ∧ (1 : Nat) = (1 : Nat) ∧ false = false) ∧
     True ∧
     True ∧
     ((AV.d (D.val (Value.int IntKind.i64 (IntKind.i64.wrap ((↑x_2.snd.fst : Int) + (1 : Int))))) = AV.d (D.val (Value.int IntKind.i64 (↑(IntKind.i64.wrap ((↑x_2.snd.fst : Int) + (1 : Int))).toNat : Int))) ∧ True) ∧
     (sm (some (Blk.fix (D.arr IntKind.u8 (16 : Nat) b))) ∧
     sm (some (Blk.fix (D.arr IntKind.u8 (16 : Nat) [(0 : Int), (0 : Int), (0 : Int), (0 : Int), (0 : Int), (0 : Int), (0 : Int), (0 : Int), (0 : Int), (0 : Int), (0 : Int), (0 : Int), (0 : Int), (0 : Int), (0 : Int), (0 : Int)]))) ∧
     sm (some (Blk.fix (D.arr IntKind.u8 (16 : Nat) (adR (flW W) ((↑R : Int) - (↑x : Int)).toNat (trL (deS w b R x)))))) ∧
     some
     (Blk.fix
     (D.arr IntKind.u8 (16 : Nat)
     ((selL (16 : Nat) (fun (j : Nat) => decide (j / (4 : Nat) < x_2.fst) || decide (j / (4 : Nat) = x_2.fst) && decide ((j % (4 : Nat) + (4 : Nat) - x_2.fst) % (4 : Nat) < x_2.snd.fst)) (usR x_2.snd.snd) z16).set
     ((↑x_1.fst : Int).toNat * (4 : Nat) + ((IntKind.i64.wrap ((↑x_2.snd.fst : Int) + (↑x_1.fst : Int))).tmod (4 : Int)).toNat)
     (ux.getD ((adR (flW W) ((↑R : Int) - (↑x : Int)).toNat (trL (deS w b R x))).getD ((↑x_1.fst : Int).toNat * (4 : Nat) + (↑x_2.snd.fst : Int).toNat) (0 : Int)).toNat (0 : Int))))) =
     some
     (Blk.fix
     (D.arr IntKind.u8 (16 : Nat)
     (selL (16 : Nat)
     (fun (j : Nat) =>
     decide (j / (4 : Nat) < (↑x_1.fst : Int).toNat) || decide (j / (4 : Nat) = (↑x_1.fst : Int).toNat) && decide ((j % (4 : Nat) + (4 : Nat) - (↑x_1.fst : Int).toNat) % (4 : Nat) < (IntKind.i64.wrap ((↑x_2.snd.fst : Int) + (1 : Int))).toNat))
     (usR (adR (flW W) ((↑R : Int) - (↑x : Int)).toNat (trL (deS w b R x)))) z16))) ∧
     True) ∧
     true = true) ∧
     ((↑(↑x_1.fst : Int).toNat : Int) = (↑x_1.fst : Int) ∧ adR (flW W) ((↑R : Int) - (↑x : Int)).toNat (trL (deS w b R x)) = adR (flW W) ((↑R : Int) - (↑x : Int)).toNat (trL (deS w b R x)) ∧ (IntKind.i64.wrap ((↑x_2.snd.fst : Int) + (1 : Int))).toNat ≤ (4 : Nat)) ∧
     (4 : Nat) - (IntKind.i64.wrap ((↑x_2.snd.fst : Int) + (1 : Int))).toNat < (4 : Nat) - x_2.snd.fst
    | false =>
     True ∧
     True ∧
     ((AV.d (D.val (Value.int IntKind.i64 (IntKind.i64.wrap ((↑x_1.fst : Int) + (1 : Int))))) = AV.d (D.val (Value.int IntKind.i64 (↑(IntKind.i64.wrap ((↑x_1.fst : Int) + (1 : Int))).toNat : Int))) ∧ True) ∧
     (sm (some (Blk.fix (D.arr IntKind.u8 (16 : Nat) b))) ∧
     sm (some (Blk.fix (D.arr IntKind.u8 (16 : Nat) [(0 : Int), (0 : Int), (0 : Int), (0 : Int), (0 : Int), (0 : Int), (0 : Int), (0 : Int), (0 : Int), (0 : Int), (0 : Int), (0 : Int), (0 : Int), (0 : Int), (0 : Int), (0 : Int)]))) ∧
     sm (some (Blk.fix (D.arr IntKind.u8 (16 : Nat) (adR (flW W) ((↑R : Int) - (↑x : Int)).toNat (trL (deS w b R x)))))) ∧
     some (Blk.fix (D.arr IntKind.u8 (16 : Nat) (selL (16 : Nat) (fun (j : Nat) => decide (j / (4 : Nat) < x_2.fst) || decide (j / (4 : Nat) = x_2.fst) && decide ((j % (4 : Nat) + (4 : Nat) - x_2.fst) % (4 : Nat) < x_2.snd.fst)) (usR x_2.snd.snd) z16))) =
     some (Blk.fix (D.arr IntKind.u8 (16 : Nat) (selL (16 : Nat) (fun (j : Nat) => decide (j < (4 : Nat) * (IntKind.i64.wrap ((↑x_1.fst : Int) + (1 : Int))).toNat)) (usR (adR (flW W) ((↑R : Int) - (↑x : Int)).toNat (trL (deS w b R x)))) z16))) ∧
     True) ∧
     true = true) ∧
     (adR (flW W) ((↑R : Int) - (↑x : Int)).toNat (trL (deS w b R x)) = adR (flW W) ((↑R : Int) - (↑x : Int)).toNat (trL (deS w b R x)) ∧ (IntKind.i64.wrap ((↑x_1.fst : Int) + (1 : Int))).toNat ≤ (4 : Nat)) ∧ (4 : Nat) - (IntKind.i64.wrap ((↑x_1.fst : Int) + (1 : Int))).toNat < (4 : Nat) - x_1.fst
   | false =>
    ((16 : Nat) ≠ (0 : Nat) ∧ (16 : Nat) = (16 : Nat) ∧ true = true) ∧
    (Sk.arr (16 : Nat) = Sk.arr (16 : Nat) ∧ (16 : Nat) ≠ (0 : Nat) ∧ (16 : Nat) = (16 : Nat) ∧ false = false) ∧
    True ∧
    True ∧
    True ∧
    ((AV.d (D.val (Value.int IntKind.i64 (IntKind.i64.wrap ((↑R : Int) - (↑x : Int) - (1 : Int))))) = AV.d (D.val (Value.int IntKind.i64 ((↑R : Int) - (↑((↑R : Int) - IntKind.i64.wrap ((↑R : Int) - (↑x : Int) - (1 : Int))).toNat : Int)))) ∧ True) ∧
    (sm (some (Blk.fix (D.arr IntKind.u8 (16 : Nat) b))) ∧
    sm (some (Blk.fix (D.arr IntKind.u8 (16 : Nat) [(0 : Int), (0 : Int), (0 : Int), (0 : Int), (0 : Int), (0 : Int), (0 : Int), (0 : Int), (0 : Int), (0 : Int), (0 : Int), (0 : Int), (0 : Int), (0 : Int), (0 : Int), (0 : Int)]))) ∧
    some (Blk.fix (D.arr IntKind.u8 (16 : Nat) (selL (16 : Nat) (fun (j : Nat) => decide (j < (4 : Nat) * x_1.fst)) (usR x_1.snd) z16))) = some (Blk.fix (D.arr IntKind.u8 (16 : Nat) (trL (deS w b R ((↑R : Int) - IntKind.i64.wrap ((↑R : Int) - (↑x : Int) - (1 : Int))).toNat)))) ∧ True) ∧
    true = true) ∧
    ((↑R : Int) - IntKind.i64.wrap ((↑R : Int) - (↑x : Int) - (1 : Int))).toNat ≤ R ∧ R - ((↑R : Int) - IntKind.i64.wrap ((↑R : Int) - (↑x : Int) - (1 : Int))).toNat < R - x
 | false =>
  True ∧
  ((16 : Nat) ≠ (0 : Nat) ∧ (16 : Nat) = (16 : Nat) ∧ true = true) ∧
  (∃ (W_1 : List D),
  ∃ (bx_1 : List Int),
  ∃ (ux_1 : List Int),
  ∃ (g : List Int),
  ∃ (n : Nat),
  [(D.st [D.slc (4 : Nat) W, D.arr IntKind.u8 (256 : Nat) bx, D.arr IntKind.u8 (256 : Nat) ux]).ref, D.arr IntKind.u8 (16 : Nat) (trL (deS w b R x)), D.val (Value.int IntKind.i64 (0 : Int))] =
  [(D.st [D.slc (4 : Nat) W_1, D.arr IntKind.u8 (256 : Nat) bx_1, D.arr IntKind.u8 (256 : Nat) ux_1]).ref, D.arr IntKind.u8 (16 : Nat) g, D.val (Value.int IntKind.i64 (↑n : Int))] ∧
  okW W_1 ∧ isB (16 : Nat) g ∧ (4 : Nat) * n + (4 : Nat) ≤ W_1.length ∧ n < (15 : Nat)) ∧
  (∃ (b_1 : List Int), [D.arr IntKind.u8 (16 : Nat) (adR (flW W) (0 : Nat) (trL (deS w b R x)))] = [D.arr IntKind.u8 (16 : Nat) b_1] ∧ isB (16 : Nat) b_1) ∧
  (Sk.arr (16 : Nat) = Sk.arr (16 : Nat) ∧ (16 : Nat) ≠ (0 : Nat) ∧ (16 : Nat) = (16 : Nat) ∧ false = false) ∧ (((16 : Nat) ≠ (0 : Nat) ∧ (16 : Nat) = (16 : Nat) ∧ true = true) ∧ True) ∧ D.arr IntKind.u8 (16 : Nat) (trL (adR (flW W) (0 : Nat) (trL (deS w b R x)))) = F) := by kernel_rfl
set_option maxRecDepth 100000 in
theorem vc23  (V W : List D) (F : D)  :
    (owed c0 (inv23 V W) Try.f23 [.slc 4 V, .slc 4 W] F) = (
 True ∧
 True ∧
 True ∧
 True ∧
 True ∧
 True ∧
 match (↑V.length : Int) != (↑W.length : Int) with
 | true => True ∧ (false = false ∧ True) ∧ D.val (Value.bool false) = F
 | false =>
  True ∧
  True ∧
  True ∧
  (((AV.d (D.val (Value.int IntKind.i64 (0 : Int))) = AV.d (D.val (Value.int IntKind.i64 (↑(Int.toNat (0 : Int)) : Int))) ∧ True) ∧ True ∧ true = true) ∧ Int.toNat (0 : Int) ≤ V.length ∧ flW (List.take (Int.toNat (0 : Int)) V) = flW (List.take (Int.toNat (0 : Int)) W)) ∧
  ∀ (x : Nat),
  x ≤ V.length ∧ flW (List.take x V) = flW (List.take x W) →
  true = true ∧
  True ∧
  match decide ((↑x : Int) < (↑V.length : Int)) with
  | true =>
   True ∧
   True ∧
   True ∧
   True ∧
   ((0 : Int) ≤ (↑x : Int) ∧ (↑x : Int) < (↑V.length : Int) ∧ (4 : Nat) ≠ (0 : Nat) ∧ (4 : Nat) = (4 : Nat) ∧ D.arr IntKind.u8 (4 : Nat) (arrOf (V.getD (↑x : Int).toNat (D.val (Value.bool false)))) = V.getD (↑x : Int).toNat (D.val (Value.bool false))) ∧
   ((4 : Nat) ≠ (0 : Nat) ∧ (4 : Nat) = (4 : Nat) ∧ true = true) ∧
   True ∧
   True ∧
   ((0 : Int) ≤ (↑x : Int) ∧ (↑x : Int) < (↑W.length : Int) ∧ (4 : Nat) ≠ (0 : Nat) ∧ (4 : Nat) = (4 : Nat) ∧ D.arr IntKind.u8 (4 : Nat) (arrOf (W.getD (↑x : Int).toNat (D.val (Value.bool false)))) = W.getD (↑x : Int).toNat (D.val (Value.bool false))) ∧
   ((4 : Nat) ≠ (0 : Nat) ∧ (4 : Nat) = (4 : Nat) ∧ true = true) ∧
   (IntKind.u8 = IntKind.u8 ∧ IntKind.u8 = IntKind.u8 ∧ (4 : Nat) = (4 : Nat) ∧ (4 : Nat) = (4 : Nat) ∧ (1 : Nat) = (1 : Nat)) ∧
   match !eqB (arrOf (V.getD (↑x : Int).toNat (D.val (Value.bool false)))) (arrOf (W.getD (↑x : Int).toNat (D.val (Value.bool false)))) with
   | true => True ∧ (false = false ∧ True) ∧ D.val (Value.bool false) = F
   | false =>
    True ∧
    True ∧
    ((AV.d (D.val (Value.int IntKind.i64 (IntKind.i64.wrap ((↑x : Int) + (1 : Int))))) = AV.d (D.val (Value.int IntKind.i64 (↑(IntKind.i64.wrap ((↑x : Int) + (1 : Int))).toNat : Int))) ∧ True) ∧ True ∧ true = true) ∧
    ((IntKind.i64.wrap ((↑x : Int) + (1 : Int))).toNat ≤ V.length ∧ flW (List.take (IntKind.i64.wrap ((↑x : Int) + (1 : Int))).toNat V) = flW (List.take (IntKind.i64.wrap ((↑x : Int) + (1 : Int))).toNat W)) ∧ V.length - (IntKind.i64.wrap ((↑x : Int) + (1 : Int))).toNat < V.length - x
  | false => True ∧ (false = false ∧ True) ∧ D.val (Value.bool true) = F) := by kernel_rfl
set_option maxRecDepth 100000 in
theorem vc24  (w : List Int) (R : Nat) (F : D)  :
    (owed c24 (fun _ => none) Try.f24 [keyD w ((R : Nat) : Int)] F) = (
 (True ∧ false = false) ∧
 True ∧
 (Sk.st [Sk.arr (240 : Nat), Sk.one] = Sk.st [Sk.arr (240 : Nat), Sk.one] ∧ (0 : Nat) < (2 : Nat)) ∧
 (Sk.st [Sk.arr (240 : Nat), Sk.one] = Sk.st [Sk.arr (240 : Nat), Sk.one] ∧ (1 : Nat) < (2 : Nat)) ∧
 ((1 : Nat) ≠ (0 : Nat) ∧ (1 : Nat) = (1 : Nat) ∧ false = false) ∧
 True ∧
 True ∧
 ((0 : Int) ≤ (0 : Int) ∧ (0 : Int) ≤ IntKind.i64.wrap ((4 : Int) * IntKind.i64.wrap ((↑R : Int) + (1 : Int))) ∧ IntKind.i64.wrap ((4 : Int) * IntKind.i64.wrap ((↑R : Int) + (1 : Int))) ≤ (↑(60 : Nat) : Int) ∧ (240 : Nat) = (240 : Nat) ∧ (4 : Nat) = (4 : Nat) ∧ (4 : Nat) ≠ (0 : Nat)) ∧
 ((52 : Nat) = (52 : Nat) ∧
 true = true ∧
 (chunks IntKind.u8 (4 : Nat) ((IntKind.i64.wrap ((4 : Int) * IntKind.i64.wrap ((↑R : Int) + (1 : Int)))).toNat - (0 : Nat)) (List.drop (0 : Nat) w)).length ≤ (140737488355328 : Nat) ∧
 (chunks IntKind.u8 (4 : Nat) ((IntKind.i64.wrap ((4 : Int) * IntKind.i64.wrap ((↑R : Int) + (1 : Int)))).toNat - (0 : Nat)) (List.drop (0 : Nat) w)).length * (4 : Nat) ≤ (140737488355328 : Nat) ∧ (4 : Nat) = (4 : Nat) ∧ (4 : Nat) ≠ (0 : Nat)) ∧
 True ∧ (false = false ∧ True) ∧ D.slc (4 : Nat) (chunks IntKind.u8 (4 : Nat) ((IntKind.i64.wrap ((4 : Int) * IntKind.i64.wrap ((↑R : Int) + (1 : Int)))).toNat - (0 : Nat)) (List.drop (0 : Nat) w)) = F) := by kernel_rfl
end Go.Proofs.Ytnadggcfdakpoaa
namespace Go.Proofs.Ytnadggcfdakpoaa
open Go Go.Vg
theorem isB_map {n : Nat} {f : Nat → Int} (h : ∀ i, i < n → 0 ≤ f i ∧ f i < 256) : isB n ((List.range n).map f) := by
 refine ⟨fun x hx => ?_, by simp⟩
 obtain ⟨i, hi, rfl⟩ := List.mem_map.1 hx
 exact h i (List.mem_range.1 hi)
theorem ixor_ok {a b : Int} (ha : 0 ≤ a ∧ a < 256) (hb : 0 ≤ b ∧ b < 256) : 0 ≤ ixor .u8 a b ∧ ixor .u8 a b < 256 := by
 obtain ⟨m, rfl⟩ := Int.eq_ofNat_of_zero_le ha.1
 obtain ⟨n, rfl⟩ := Int.eq_ofNat_of_zero_le hb.1
 rw [ixorN .u8 (by rw [kb8]; omega) (by rw [kb8]; omega)]
 have := xor_lt8 (a := m) (b := n) (by omega) (by omega)
 omega
theorem adK_ok {w b : List Int} (hw : okb w) (hb : okb b) (r : Nat) : isB 16 (adK w r b) := isB_map fun i _ => ixor_ok (okb_g hb i) (okb_g hw _)
theorem shL_ok (b : List Int) : isB 16 (shL b) := isB_map fun i _ => by
 have := gbx_lt (b.getD ((i + i % 4 * 4) % 16) 0).toNat
 show 0 ≤ ((_ : Nat) : Int) ∧ ((_ : Nat) : Int) < 256
 omega
theorem usL_ok {b : List Int} (hb : okb b) : isB 16 (usL b) := isB_map fun i _ => by
 have h := okb_g hb ((i + 16 - 4 * (i % 4)) % 16)
 have := gux_lt (a := (b.getD ((i + 16 - 4 * (i % 4)) % 16) 0).toNat) (by omega)
 show 0 ≤ ((_ : Nat) : Int) ∧ ((_ : Nat) : Int) < 256
 omega
theorem trL_ok {b : List Int} (hb : okb b) : isB 16 (trL b) := isB_map fun i _ => okb_g hb _
theorem gcl_okb {y : List Int} (l : List Int) (hy : okb y) (h4 : y.length = 4) : okb (gcl l y 4) := by
 intro x hx
 unfold gcl at hx
 obtain ⟨j, hj, rfl⟩ := List.mem_map.1 hx
 have := gce_lt (l := l) hy h4 j 4 (by omega)
 omega
theorem eaL_ok {y : List Int} (b : List Int) (hy : okb y) (h4 : y.length = 4) : isB 16 (eaL y b) := isB_map fun i _ => okb_g (gcl_okb _ hy h4) _
theorem mxR_ok {y : List Int} (b : List Int) (hy : okb y) (h4 : y.length = 4) : isB 16 (mxR y b) := isB_map fun i _ => okb_g (gcl_okb _ hy h4) _
theorem y1_ok : okb [2, 3, 1, 1] := by
 intro x hx
 simp only [List.mem_cons, List.not_mem_nil, or_false] at hx
 omega
theorem y2_ok : okb [14, 11, 13, 9] := by
 intro x hx
 simp only [List.mem_cons, List.not_mem_nil, or_false] at hx
 omega
theorem eaL_get {y b : List Int} {i : Nat} (h : i < 16) : (eaL y b).getD i 0 = (gcl (colL b (i / 4)) y 4).getD (i % 4) 0 := map_getD _ h
attribute [local irreducible] selL s4L adK eaL shL usL trL adR mxR
theorem enS_ok {w b : List Int} (hw : okb w) (hb : okb b) (R : Nat) : ∀ k, isB 16 (enS w b R k)
 | 0 => adK_ok hw hb 0
 | k + 1 => by
  rw [enS]
  split
  ·exact adK_ok hw (eaL_ok _ y1_ok rfl).1 _
  ·exact adK_ok hw (shL_ok _).1 _
theorem deS_ok {w b : List Int} (hw : okb w) (hb : isB 16 b) (R : Nat) : ∀ k, isB 16 (deS w b R k)
 | 0 => hb
 | k + 1 => by
  have h := (deS_ok hw hb R k).1
  rw [deS]
  split
  ·exact usL_ok (eaL_ok _ y2_ok rfl).1
  ·exact usL_ok (adK_ok hw h _).1
theorem tr_tr {x : List Int} (h : x.length = 16) : trL (trL x) = x := by
 refine ext_getD (n := 16) (trL_len _) h fun i hi => ?_
 rw [trL_get hi, trL_get (by omega), show 4 * ((4 * (i % 4) + i / 4) % 4) + (4 * (i % 4) + i / 4) / 4 = i by omega]
theorem adR_tr (w x : List Int) (n : Nat) : adR w n (trL x) = trL (adK w n x) := by
 refine ext_getD (n := 16) (adR_len _ _ _) (trL_len _) fun i hi => ?_
 rw [adR_get hi, trL_get hi, trL_get hi, adK_get (by omega), Nat.add_assoc]
theorem mxR_tr (y x : List Int) : mxR y (trL x) = trL (eaL y x) := by
 refine ext_getD (n := 16) (mxR_len _ _) (trL_len _) fun i hi => ?_
 have e : rowL (trL x) (i % 4) = colL x (i % 4) := by
  unfold rowL colL
  rw [trL_get (by omega), trL_get (by omega), trL_get (by omega), trL_get (by omega)]
  rw [show 4 * (i % 4 % 4) + i % 4 / 4 = 4 * (i % 4) by omega, show 4 * ((4 + i % 4) % 4) + (4 + i % 4) / 4 = 4 * (i % 4) + 1 by omega, show 4 * ((8 + i % 4) % 4) + (8 + i % 4) / 4 = 4 * (i % 4) + 2 by omega, show 4 * ((12 + i % 4) % 4) + (12 + i % 4) / 4 = 4 * (i % 4) + 3 by omega]
 rw [mxR_get hi, trL_get hi, eaL_get (by omega), e, show (4 * (i % 4) + i / 4) / 4 = i % 4 by omega, show (4 * (i % 4) + i / 4) % 4 = i / 4 by omega]
theorem shR_tr {x : List Int} (h : x.length = 16) : shR (trL x) = trL (shL x) := by rw [shR, tr_tr h]
theorem usR_tr {x : List Int} (h : x.length = 16) : usR (trL x) = trL (usL x) := by rw [usR, tr_tr h]
theorem shR_len (g : List Int) : (shR g).length = 16 := trL_len _
theorem usR_len (g : List Int) : (usR g).length = 16 := trL_len _
theorem shR_get {g : List Int} {r k : Nat} (hr : r < 4) (hk : k < 4) : (shR g).getD (r * 4 + k) 0 = ((gbx (g.getD (r * 4 + (k + r) % 4) 0).toNat : Nat) : Int) := by
 rw [shR, trL_get (by omega), shL_get (by omega), trL_get (by omega)]
 have e : ∀ r, r < 4 → ∀ k, k < 4 → 4 * (((4 * ((r * 4 + k) % 4) + (r * 4 + k) / 4 + (4 * ((r * 4 + k) % 4) + (r * 4 + k) / 4) % 4 * 4) % 16) % 4) + ((4 * ((r * 4 + k) % 4) + (r * 4 + k) / 4 + (4 * ((r * 4 + k) % 4) + (r * 4 + k) / 4) % 4 * 4) % 16) / 4 = r * 4 + (k + r) % 4 := by decide
 rw [e r hr k hk]
theorem usR_get {g : List Int} {r k : Nat} (hr : r < 4) (hk : k < 4) : (usR g).getD (r * 4 + (k + r) % 4) 0 = ((gux (g.getD (r * 4 + k) 0).toNat : Nat) : Int) := by
 rw [usR, trL_get (by omega), usL_get (by omega), trL_get (by omega)]
 have e : ∀ r, r < 4 → ∀ k, k < 4 → 4 * ((4 * ((r * 4 + (k + r) % 4) % 4) + (r * 4 + (k + r) % 4) / 4 + 16 - 4 * ((4 * ((r * 4 + (k + r) % 4) % 4) + (r * 4 + (k + r) % 4) / 4) % 4)) % 16 % 4) + (4 * ((r * 4 + (k + r) % 4) % 4) + (r * 4 + (k + r) % 4) / 4 + 16 - 4 * ((4 * ((r * 4 + (k + r) % 4) % 4) + (r * 4 + (k + r) % 4) / 4) % 4)) % 16 / 4 = r * 4 + k := by decide
 rw [e r hr k hk]
theorem tm16 (x : Nat) : (x : Int).tmod 16 = ((x % 16 : Nat) : Int) := by
 rw [Int.tmod_eq_emod_of_nonneg (by omega)]
 omega
theorem sq {x : Nat} (h : x < 100) : IntKind.i64.wrap ((x : Int) + 1) = ((x + 1 : Nat) : Int) := by
 rw [show ((x : Int) + 1) = ((x + 1 : Nat) : Int) by omega, wNi (by omega)]
set_option maxRecDepth 100000 in
theorem m25 : Meets Try.prog 25 sp25 := by
 refine meets_of_owed (C := c25) ⟨tab_ok, lkS_ok ⟨m85, m86, m87, trivial⟩⟩ (by kernel_rfl) (by kernel_rfl : Try.prog.funcs[25]? = some Try.f25) (by kernel_rfl) (by kernel_rfl) (by kernel_rfl) _ ?_
 rintro _ ⟨w, R, b, rfl, hw, hb, hR⟩
 refine ⟨fun _ => rfl, inv25 w b R, ?_⟩
 show owed c25 (inv25 w b R) Try.f25 [keyD w ((R : Nat) : Int), b16 b] (b16 (enL w ((R : Nat) : Int).toNat b))
 rw [vc25, Int.toNat_natCast]
 simp (decide := true) only [eq_self, true_and, and_true, ne_eq, not_false_eq_true, Int.toNat_natCast]
 refine ⟨⟨w, _, b, 0, rfl, hw, hb, by omega⟩, by and_intros <;> first | rfl | omega, ?_⟩
 intro x hx
 have hs := enS_ok hw.1 hb.1 R x
 split
 ·rename_i h
  have h : x + 1 ≤ R := by have := of_decide_eq_true h; omega
  refine ⟨by and_intros <;> first | rfl | omega | exact b16c (sel_none z16_len fun i _ => decide_eq_false (by omega)), ?_⟩
  rintro ⟨i, s⟩ ⟨hs', hi⟩
  simp only at hs' hi ⊢
  subst hs'
  split
  ·rename_i h2
   have h2 : i < 16 := by have := of_decide_eq_true h2; omega
   rw [tm4, show ((i % 4 : Nat) : Int) * 4 = ((i % 4 * 4 : Nat) : Int) by omega, wNi (n := i % 4 * 4) (by omega), show (i : Int) + ((i % 4 * 4 : Nat) : Int) = ((i + i % 4 * 4 : Nat) : Int) by omega, wNi (n := i + i % 4 * 4) (by omega), tm16, sq (by omega)]
   simp only [Int.toNat_natCast]
   and_intros <;> first | exact True.intro | omega | exact u8_of (okb_g hs.1 _) | exact b16c (sel_setd (by omega) (shL_get (by omega)).symm fun i _ => by omega) | rfl
  ·rename_i h2
   have h2 : i = 16 := by have := of_decide_eq_false h2; omega
   subst h2
   rw [sel_all (shL_len _) fun i _ => decide_eq_true (by omega)]
   have e2 : IntKind.i64.wrap (((x + 1 : Nat) : Int) + 1) = ((x + 1 + 1 : Nat) : Int) := sq (by omega)
   have e3 : (((x + 1 + 1 : Nat) : Int) - 1).toNat = x + 1 := by omega
   simp only [e2, e3]
   split
   ·rename_i h3
    have h3 : x + 1 < R := by have := of_decide_eq_true h3; omega
    have es : enS w b R (x + 1) = adK w (x + 1) (eaL [2, 3, 1, 1] (shL (enS w b R x))) := by rw [enS, if_pos h3]
    rw [es]
    and_intros <;> first | exact True.intro | omega | exact ⟨_, 88, rfl, shL_ok _, .inl rfl⟩ | exact ⟨w, _, _, x + 1, rfl, hw, eaL_ok _ y1_ok rfl, by omega⟩ | rfl
   ·rename_i h3
    have h3 : ¬ x + 1 < R := by have := of_decide_eq_false h3; omega
    have es : enS w b R (x + 1) = adK w (x + 1) (shL (enS w b R x)) := by rw [enS, if_neg h3]
    rw [es]
    and_intros <;> first | exact True.intro | omega | exact ⟨w, _, _, x + 1, rfl, hw, shL_ok _, by omega⟩ | rfl
 ·rename_i h
  have h : x = R := by have := of_decide_eq_false h; omega
  subst h
  rfl
end Go.Proofs.Ytnadggcfdakpoaa
namespace Go.Proofs.Ytnadggcfdakpoaa
open Go Go.Vg
theorem usL_get2 {b : List Int} {i : Nat} (h : i < 16) : (usL b).getD ((i + i % 4 * 4) % 16) 0 = ((gux (b.getD i 0).toNat : Nat) : Int) := by
 rw [usL_get (by omega)]
 have e : ∀ i, i < 16 → ((i + i % 4 * 4) % 16 + 16 - 4 * ((i + i % 4 * 4) % 16 % 4)) % 16 = i := by decide
 rw [e i h]
set_option maxRecDepth 100000 in
theorem us_pred : ∀ i, i < 16 → ∀ j, j < 16 → ((j + 16 - 4 * (j % 4)) % 16 < i + 1 ↔ (j + 16 - 4 * (j % 4)) % 16 < i ∨ j = (i + i % 4 * 4) % 16) := by decide
set_option maxRecDepth 100000 in
theorem us_pred2 : ∀ r, r < 4 → ∀ k, k < 4 → ∀ j, j < 16 → ((decide (j / 4 < r) || decide (j / 4 = r) && decide ((j % 4 + 4 - r) % 4 < k + 1)) = ((decide (j / 4 < r) || decide (j / 4 = r) && decide ((j % 4 + 4 - r) % 4 < k)) || decide (j = r * 4 + (k + r) % 4))) := by decide
theorem intc {a b : Int} (h : a = b) : AV.d (.val (.int .i64 a)) = AV.d (.val (.int .i64 b)) := by rw [h]
attribute [local irreducible] selL s4L adK eaL shL usL trL adR mxR
theorem flW_ok : ∀ {W : List D}, okW W → okb (flW W)
 | [], _ => fun x hx => by cases hx
 | d :: W, h => by
  obtain ⟨l, rfl, hl⟩ := h d (List.mem_cons_self ..)
  intro x hx
  rcases List.mem_append.1 hx with hx | hx
  ·exact hl.1 x hx
  ·exact flW_ok (fun z hz => h z (List.mem_cons_of_mem _ hz)) x hx
set_option maxRecDepth 100000 in
theorem m27 : Meets Try.prog 27 sp27 := by
 refine meets_of_owed (C := c27) ⟨tab_ok, lkS_ok ⟨m85, m95, m87, trivial⟩⟩ (by kernel_rfl) (by kernel_rfl : Try.prog.funcs[27]? = some Try.f27) (by kernel_rfl) (by kernel_rfl) (by kernel_rfl) _ ?_
 rintro _ ⟨w, R, b, rfl, hw, hb, hR⟩
 refine ⟨fun _ => rfl, inv27 w b R, ?_⟩
 show owed c27 (inv27 w b R) Try.f27 [keyD w ((R : Nat) : Int), b16 b] (b16 (deL w ((R : Nat) : Int).toNat b))
 rw [vc27, Int.toNat_natCast]
 simp (decide := true) only [eq_self, true_and, and_true, ne_eq, not_false_eq_true, Int.toNat_natCast]
 refine ⟨by and_intros <;> first | rfl | omega | exact intc (by omega) | (rw [Int.sub_self]; rfl), ?_⟩
 intro x hx
 have hs := deS_ok hw.1 hb R x
 split
 ·rename_i h
  have h : x < R := by have := of_decide_eq_true h; omega
  have er : (R : Int) - (x : Int) = ((R - x : Nat) : Int) := by omega
  have ew : IntKind.i64.wrap (((R - x : Nat) : Int) - 1) = ((R - x - 1 : Nat) : Int) := by rw [show ((R - x : Nat) : Int) - 1 = ((R - x - 1 : Nat) : Int) by omega, wNi (by omega)]
  have et : ((R : Int) - ((R - x - 1 : Nat) : Int)).toNat = x + 1 := by omega
  have ha := adK_ok hw.1 hs.1 (R - x)
  simp only [er, Int.toNat_natCast]
  refine ⟨⟨w, _, _, R - x, rfl, hw, hs, by omega⟩, ?_⟩
  split
  ·rename_i h3
   have h3 : R - x < R := by have := of_decide_eq_true h3; omega
   have es : deS w b R (x + 1) = usL (eaL [14, 11, 13, 9] (adK w (R - x) (deS w b R x))) := by rw [deS, if_pos h3]
   have hE := eaL_ok (adK w (R - x) (deS w b R x)) y2_ok rfl
   refine ⟨⟨_, 94, rfl, ha, .inr rfl⟩, ?_⟩
   refine ⟨by and_intros <;> first | rfl | omega | exact b16c (sel_none z16_len fun i _ => decide_eq_false (by omega)), ?_⟩
   rintro ⟨i, s⟩ ⟨hs', hi⟩
   simp only at hs' hi ⊢
   subst hs'
   split
   ·rename_i h2
    have h2 : i < 16 := by have := of_decide_eq_true h2; omega
    rw [tm4, show ((i % 4 : Nat) : Int) * 4 = ((i % 4 * 4 : Nat) : Int) by omega, wNi (n := i % 4 * 4) (by omega), show (i : Int) + ((i % 4 * 4 : Nat) : Int) = ((i + i % 4 * 4 : Nat) : Int) by omega, wNi (n := i + i % 4 * 4) (by omega), tm16, sq (by omega)]
    simp only [Int.toNat_natCast]
    and_intros <;> first | exact True.intro | omega | exact u8_of (okb_g hE.1 _) | exact b16c (sel_setd (by omega) (usL_get2 h2).symm (us_pred i h2)) | rfl
   ·rename_i h2
    have h2 : i = 16 := by have := of_decide_eq_false h2; omega
    subst h2
    rw [sel_all (usL_len _) fun i _ => decide_eq_true (by omega)]
    simp only [ew, et, es]
    and_intros <;> first | exact True.intro | omega | exact intc (by omega) | rfl
  ·rename_i h3
   have h3 : ¬ R - x < R := by have := of_decide_eq_false h3; omega
   have es : deS w b R (x + 1) = usL (adK w (R - x) (deS w b R x)) := by rw [deS, if_neg h3]
   refine ⟨by and_intros <;> first | rfl | omega | exact b16c (sel_none z16_len fun i _ => decide_eq_false (by omega)), ?_⟩
   rintro ⟨i, s⟩ ⟨hs', hi⟩
   simp only at hs' hi ⊢
   subst hs'
   split
   ·rename_i h2
    have h2 : i < 16 := by have := of_decide_eq_true h2; omega
    rw [tm4, show ((i % 4 : Nat) : Int) * 4 = ((i % 4 * 4 : Nat) : Int) by omega, wNi (n := i % 4 * 4) (by omega), show (i : Int) + ((i % 4 * 4 : Nat) : Int) = ((i + i % 4 * 4 : Nat) : Int) by omega, wNi (n := i + i % 4 * 4) (by omega), tm16, sq (by omega)]
    simp only [Int.toNat_natCast]
    and_intros <;> first | exact True.intro | omega | exact u8_of (okb_g ha.1 _) | exact b16c (sel_setd (by omega) (usL_get2 h2).symm (us_pred i h2)) | rfl
   ·rename_i h2
    have h2 : i = 16 := by have := of_decide_eq_false h2; omega
    subst h2
    rw [sel_all (usL_len _) fun i _ => decide_eq_true (by omega)]
    simp only [ew, et, es]
    and_intros <;> first | exact True.intro | omega | exact intc (by omega) | rfl
 ·rename_i h
  have h : x = R := by have := of_decide_eq_false h; omega
  subst h
  and_intros <;> first | rfl | exact ⟨w, _, _, 0, rfl, hw, hs, by omega⟩
set_option maxRecDepth 100000 in
theorem m26 : Meets Try.prog 26 sp26 := by
 refine meets_of_owed (C := c26) ⟨tab_ok, lkS_ok ⟨m89, m90, m91, m92, m93, trivial⟩⟩ (by kernel_rfl) (by kernel_rfl : Try.prog.funcs[26]? = some Try.f26) (by kernel_rfl) (by kernel_rfl) (by kernel_rfl) _ ?_
 rintro _ ⟨W, bx, ux, b, rfl, hW, hW4, hW60, ⟨hbx, hux, hbu⟩, hb⟩
 refine ⟨fun _ => rfl, inv26 (flW W) b (W.length / 4 - 1), ?_⟩
 show owed c26 (inv26 (flW W) b (W.length / 4 - 1)) Try.f26 [.ref (cipD W bx ux), b16 b] (b16 (enL (flW W) (W.length / 4 - 1) b))
 generalize hRe : W.length / 4 - 1 = R
 have hw : okb (flW W) := flW_ok hW
 rw [vc26, hRe]
 simp (decide := true) only [eq_self, true_and, and_true, ne_eq, not_false_eq_true, Int.toNat_natCast]
 refine ⟨⟨_, rfl, hb⟩, ⟨_, _, _, _, 0, rfl, hW, trL_ok hb.1, by omega, by omega⟩, by and_intros <;> first | rfl | omega | exact b16c (adR_tr _ _ _), ?_⟩
 intro x hx
 have hs := enS_ok hw hb.1 R x
 have hst : isB 16 (trL (enS (flW W) b R x)) := trL_ok hs.1
 refine ⟨⟨_, _, _, rfl, hW4, hW60⟩, ?_⟩
 split
 ·rename_i h
  have h : x + 1 ≤ R := by have := of_decide_eq_true h; omega
  refine ⟨by and_intros <;> first | rfl | omega | exact b16c (sel_none z16_len fun i _ => decide_eq_false (by omega)), ?_⟩
  rintro ⟨r, s⟩ ⟨hs', hr⟩
  simp only at hs' hr ⊢
  subst hs'
  split
  ·rename_i h2
   have h2 : r < 4 := by have := of_decide_eq_true h2; omega
   refine ⟨by and_intros <;> first | rfl | omega | exact b16c (sel_extd fun i _ => by omega), ?_⟩
   rintro ⟨r', k, s⟩ ⟨hr', hs', hk⟩
   simp only at hr' hs' hk ⊢
   subst hs'
   obtain rfl : r' = r := by omega
   split
   ·rename_i h3
    have h3 : k < 4 := by have := of_decide_eq_true h3; omega
    rw [show (k : Int) + (r' : Int) = ((k + r' : Nat) : Int) by omega, wNi (n := k + r') (by omega), tm4, sq (by omega)]
    simp only [Int.toNat_natCast]
    obtain ⟨g1, g2⟩ := okb_g hst.1 (r' * 4 + (k + r') % 4)
    have hv : bx.getD ((trL (enS (flW W) b R x)).getD (r' * 4 + (k + r') % 4) 0).toNat 0 = (shR (trL (enS (flW W) b R x))).getD (r' * 4 + k) 0 := by
     rw [shR_get h2 h3, (hbu _ (by omega)).1]
    and_intros <;> first | exact True.intro | omega | exact b16c (sel_setd (by omega) hv fun i _ => by omega) | rfl
   ·rename_i h3
    have h3 : k = 4 := by have := of_decide_eq_false h3; omega
    subst h3
    rw [sq (by omega)]
    simp only [Int.toNat_natCast]
    and_intros <;> first | exact True.intro | omega | exact b16c (sel_extd fun i _ => by omega) | rfl
  ·rename_i h2
   have h2 : r = 4 := by have := of_decide_eq_false h2; omega
   subst h2
   rw [sel_all (shR_len _) fun i _ => decide_eq_true (by omega)]
   have e2 : IntKind.i64.wrap (((x + 1 : Nat) : Int) + 1) = ((x + 1 + 1 : Nat) : Int) := sq (by omega)
   have e3 : (((x + 1 + 1 : Nat) : Int) - 1).toNat = x + 1 := by omega
   simp only [e2, e3, shR_tr hs.2, mxR_tr, adR_tr]
   have hsh := trL_ok (shL_ok (enS (flW W) b R x)).1
   refine ⟨⟨_, _, _, rfl, hW4, hW60⟩, ?_⟩
   split
   ·rename_i h3
    have h3 : x + 1 < R := by have := of_decide_eq_true h3; omega
    have es : enS (flW W) b R (x + 1) = adK (flW W) (x + 1) (eaL [2, 3, 1, 1] (shL (enS (flW W) b R x))) := by rw [enS, if_pos h3]
    rw [es]
    and_intros <;> first | exact True.intro | omega | exact ⟨_, _, rfl, hsh, y1_ok, rfl⟩ | exact ⟨_, _, _, _, x + 1, rfl, hW, trL_ok (eaL_ok _ y1_ok rfl).1, by omega, by omega⟩ | rfl
   ·rename_i h3
    have h3 : ¬ x + 1 < R := by have := of_decide_eq_false h3; omega
    have es : enS (flW W) b R (x + 1) = adK (flW W) (x + 1) (shL (enS (flW W) b R x)) := by rw [enS, if_neg h3]
    rw [es]
    and_intros <;> first | exact True.intro | omega | exact ⟨_, _, _, _, x + 1, rfl, hW, hsh, by omega, by omega⟩ | rfl
 ·rename_i h
  have h : x = R := by have := of_decide_eq_false h; omega
  subst h
  rw [tr_tr hs.2]
  and_intros <;> first | rfl | exact ⟨_, rfl, hst⟩
set_option maxRecDepth 100000 in
theorem m28 : Meets Try.prog 28 sp28 := by
 refine meets_of_owed (C := c26) ⟨tab_ok, lkS_ok ⟨m89, m90, m91, m92, m93, trivial⟩⟩ (by kernel_rfl) (by kernel_rfl : Try.prog.funcs[28]? = some Try.f28) (by kernel_rfl) (by kernel_rfl) (by kernel_rfl) _ ?_
 rintro _ ⟨W, bx, ux, b, rfl, hW, hW4, hW60, ⟨hbx, hux, hbu⟩, hb⟩
 refine ⟨fun _ => rfl, inv28 (flW W) b (W.length / 4 - 1), ?_⟩
 show owed c26 (inv28 (flW W) b (W.length / 4 - 1)) Try.f28 [.ref (cipD W bx ux), b16 b] (b16 (deL (flW W) (W.length / 4 - 1) b))
 generalize hRe : W.length / 4 - 1 = R
 have hw : okb (flW W) := flW_ok hW
 rw [vc28, hRe]
 simp (decide := true) only [eq_self, true_and, and_true, ne_eq, not_false_eq_true, Int.toNat_natCast, Int.sub_self]
 refine ⟨⟨_, rfl, hb⟩, ⟨_, _, _, rfl, hW4, hW60⟩, by and_intros <;> first | rfl | omega | exact intc (by omega), ?_⟩
 intro x hx
 have hs := deS_ok hw hb R x
 have hst : isB 16 (trL (deS (flW W) b R x)) := trL_ok hs.1
 split
 ·rename_i h
  have h : x < R := by have := of_decide_eq_true h; omega
  have er : (R : Int) - (x : Int) = ((R - x : Nat) : Int) := by omega
  have ew : IntKind.i64.wrap (((R - x : Nat) : Int) - 1) = ((R - x - 1 : Nat) : Int) := by rw [show ((R - x : Nat) : Int) - 1 = ((R - x - 1 : Nat) : Int) by omega, wNi (by omega)]
  have et : ((R : Int) - ((R - x - 1 : Nat) : Int)).toNat = x + 1 := by omega
  have ha := adK_ok hw hs.1 (R - x)
  have haR : isB 16 (adR (flW W) (R - x) (trL (deS (flW W) b R x))) := by rw [adR_tr]; exact trL_ok ha.1
  simp only [er, Int.toNat_natCast]
  refine ⟨⟨_, _, _, _, R - x, rfl, hW, hst, by omega, by omega⟩, ⟨_, _, _, rfl, hW4, hW60⟩, ?_⟩
  split
  ·rename_i h3
   have h3 : R - x < R := by have := of_decide_eq_true h3; omega
   have es : usR (mxR [14, 11, 13, 9] (adR (flW W) (R - x) (trL (deS (flW W) b R x)))) = trL (deS (flW W) b R (x + 1)) := by rw [deS, if_pos h3, adR_tr, mxR_tr, usR_tr (eaL_len _ _)]
   have hE := mxR_ok (adR (flW W) (R - x) (trL (deS (flW W) b R x))) y2_ok rfl
   refine ⟨⟨_, _, rfl, haR, y2_ok, rfl⟩, ?_⟩
   refine ⟨by and_intros <;> first | rfl | omega | exact b16c (sel_none z16_len fun i _ => decide_eq_false (by omega)), ?_⟩
   rintro ⟨r, s⟩ ⟨hs', hr⟩
   simp only at hs' hr ⊢
   subst hs'
   split
   ·rename_i h2
    have h2 : r < 4 := by have := of_decide_eq_true h2; omega
    refine ⟨by and_intros <;> first | rfl | omega | exact b16c (sel_ext fun i _ => by rw [Bool.eq_iff_iff]; simp only [Bool.or_eq_true, Bool.and_eq_true, decide_eq_true_eq]; omega), ?_⟩
    rintro ⟨r', k, s⟩ ⟨hr', hs', hk⟩
    simp only at hr' hs' hk ⊢
    subst hs'
    obtain rfl : r' = r := by omega
    split
    ·rename_i h3
     have h3 : k < 4 := by have := of_decide_eq_true h3; omega
     rw [show (k : Int) + (r' : Int) = ((k + r' : Nat) : Int) by omega, wNi (n := k + r') (by omega), tm4, sq (by omega)]
     simp only [Int.toNat_natCast]
     obtain ⟨g1, g2⟩ := okb_g hE.1 (r' * 4 + k)
     have hv : ux.getD ((mxR [14, 11, 13, 9] (adR (flW W) (R - x) (trL (deS (flW W) b R x)))).getD (r' * 4 + k) 0).toNat 0 = (usR (mxR [14, 11, 13, 9] (adR (flW W) (R - x) (trL (deS (flW W) b R x))))).getD (r' * 4 + (k + r') % 4) 0 := by
      rw [usR_get h2 h3, (hbu _ (by omega)).2]
     and_intros <;> first | exact True.intro | omega | exact b16c (sel_set (by omega) hv (us_pred2 r' h2 k h3)) | rfl
    ·rename_i h3
     have h3 : k = 4 := by have := of_decide_eq_false h3; omega
     subst h3
     rw [sq (by omega)]
     simp only [Int.toNat_natCast]
     and_intros <;> first | exact True.intro | omega | exact b16c (sel_ext fun i _ => by rw [Bool.eq_iff_iff]; simp only [Bool.or_eq_true, Bool.and_eq_true, decide_eq_true_eq]; omega) | rfl
   ·rename_i h2
    have h2 : r = 4 := by have := of_decide_eq_false h2; omega
    subst h2
    rw [sel_all (usR_len _) fun i _ => decide_eq_true (by omega)]
    simp only [ew, et, es]
    and_intros <;> first | exact True.intro | omega | exact intc (by omega) | rfl
  ·rename_i h3
   have h3 : ¬ R - x < R := by have := of_decide_eq_false h3; omega
   have es : usR (adR (flW W) (R - x) (trL (deS (flW W) b R x))) = trL (deS (flW W) b R (x + 1)) := by rw [deS, if_neg h3, adR_tr, usR_tr (adK_len _ _ _)]
   refine ⟨by and_intros <;> first | rfl | omega | exact b16c (sel_none z16_len fun i _ => decide_eq_false (by omega)), ?_⟩
   rintro ⟨r, s⟩ ⟨hs', hr⟩
   simp only at hs' hr ⊢
   subst hs'
   split
   ·rename_i h2
    have h2 : r < 4 := by have := of_decide_eq_true h2; omega
    refine ⟨by and_intros <;> first | rfl | omega | exact b16c (sel_ext fun i _ => by rw [Bool.eq_iff_iff]; simp only [Bool.or_eq_true, Bool.and_eq_true, decide_eq_true_eq]; omega), ?_⟩
    rintro ⟨r', k, s⟩ ⟨hr', hs', hk⟩
    simp only at hr' hs' hk ⊢
    subst hs'
    obtain rfl : r' = r := by omega
    split
    ·rename_i h3
     have h3 : k < 4 := by have := of_decide_eq_true h3; omega
     rw [show (k : Int) + (r' : Int) = ((k + r' : Nat) : Int) by omega, wNi (n := k + r') (by omega), tm4, sq (by omega)]
     simp only [Int.toNat_natCast]
     obtain ⟨g1, g2⟩ := okb_g haR.1 (r' * 4 + k)
     have hv : ux.getD ((adR (flW W) (R - x) (trL (deS (flW W) b R x))).getD (r' * 4 + k) 0).toNat 0 = (usR (adR (flW W) (R - x) (trL (deS (flW W) b R x)))).getD (r' * 4 + (k + r') % 4) 0 := by
      rw [usR_get h2 h3, (hbu _ (by omega)).2]
     and_intros <;> first | exact True.intro | omega | exact b16c (sel_set (by omega) hv (us_pred2 r' h2 k h3)) | rfl
    ·rename_i h3
     have h3 : k = 4 := by have := of_decide_eq_false h3; omega
     subst h3
     rw [sq (by omega)]
     simp only [Int.toNat_natCast]
     and_intros <;> first | exact True.intro | omega | exact b16c (sel_ext fun i _ => by rw [Bool.eq_iff_iff]; simp only [Bool.or_eq_true, Bool.and_eq_true, decide_eq_true_eq]; omega) | rfl
   ·rename_i h2
    have h2 : r = 4 := by have := of_decide_eq_false h2; omega
    subst h2
    rw [sel_all (usR_len _) fun i _ => decide_eq_true (by omega)]
    simp only [ew, et, es]
    and_intros <;> first | exact True.intro | omega | exact intc (by omega) | rfl
 ·rename_i h
  have h : x = R := by have := of_decide_eq_false h; omega
  subst h
  rw [adR_tr, tr_tr (adK_len _ _ _)]
  and_intros <;> first | rfl | exact ⟨_, _, _, _, 0, rfl, hW, hst, by omega, by omega⟩ | exact ⟨_, rfl, trL_ok (adK_ok hw hs.1 0).1⟩
end Go.Proofs.Ytnadggcfdakpoaa
