/- package aes and the reference's cipher: the words of a key. -/
import Derived.Test.YtnadggcfdakpoaaZb11
import Derived.Test.YtnadggcfdakpoaaZb10
namespace Go.Proofs.Ytnadggcfdakpoaa
open Go Go.Vg
def z240 : List Int := List.replicate 240 0
def prL (w : List Int) (i : Nat) : List Int := colL w (i - 1)
def trn (t : List Int) : List Int := [t.getD 1 0, t.getD 2 0, t.getD 3 0, t.getD 0 0]
def tuL (n : Nat) (w : List Int) (i : Nat) : List Int :=
 if i % n = 0 then (s4L (trn (prL w i))).set 0 (ixor .u8 ((s4L (trn (prL w i))).getD 0 0) ((gpw 2 (i / n - 1) : Nat) : Int))
 else if n = 8 ∧ i % 8 = 4 then s4L (prL w i) else prL w i
def wdL (n : Nat) (key : List Int) (i : Nat) (w : List Int) : List Int :=
 if i < n then colL key i else (List.range 4).map fun j => ixor .u8 (w.getD (4 * (i - n) + j) 0) ((tuL n w i).getD j 0)
def fwS (n : Nat) (key : List Int) : Nat → List Int
 | 0 => z240
 | i + 1 => (List.range 240).map fun m => if m / 4 = i then (wdL n key i (fwS n key i)).getD (m % 4) 0 else (fwS n key i).getD m 0
def fwL (n : Nat) (key : List Int) : List Int := fwS n key (4 * (n + 7))
def okN (key : List Int) : Prop := key.length = 16 ∨ key.length = 24 ∨ key.length = 32
instance (key : List Int) : Decidable (okN key) := by unfold okN; infer_instance
def kexW (key : List Int) : List Int := if okN key then fwL (key.length / 4) key else z240
def kexR (key : List Int) : Int := if okN key then ((key.length / 4 + 6 : Nat) : Int) else 0
def kexE (key : List Int) : Int := if okN key then 0 else 1
noncomputable def boxU : List Int := gub boxP 256
def sp19 : Go.Vg.Spec := ⟨fun ds => ∃ key, ds = [.ints .u8 key] ∧ okb key ∧ key.length ≤ 140737488351232, fun ds => .tup [keyD (kexW (intsOf (ds.headD default))) (kexR (intsOf (ds.headD default))), i64 (kexE (intsOf (ds.headD default)))], true, [25]⟩
def bytesD : D → List Int
 | .str l => l
 | .ints _ l => l
 | _ => []
noncomputable def sp20 : Go.Vg.Spec := ⟨fun ds => ∃ key, ds = [.str key] ∧ okb key ∧ okN key, fun ds => .tup [cipD (chunks .u8 4 (4 * ((bytesD (ds.headD default)).length / 4 + 7)) (fwL ((bytesD (ds.headD default)).length / 4) (bytesD (ds.headD default)))) boxP boxU, i64 0], false, [9, 8000000]⟩
def sp20b : Go.Vg.Spec := ⟨fun ds => ∃ key, ds = [.str key] ∧ okb key ∧ ¬ okN key ∧ key.length ≤ 140737488351232, fun _ => .tup [.val (.pointer none), i64 1], true, [9]⟩
def c19 : Ctx := ⟨tab, lkS [(77, sp77), (78, sp78)], [], []⟩
def inv19 (n : Nat) (fw : List Int) : Nat → Option Inv
 | 6 => some ⟨Nat, fun i => [(33, .d (i64n i))], fun i => [(5, .fix (.st [b240 (selL 240 (fun m => decide (m < 4 * i)) fw z240), i64n (n + 6)]))], fun s => (slotN s 33).toNat, fun _ i => i ≤ 4 * (n + 7), fun i => 4 * (n + 7) - i⟩
 | 100012 => some ⟨Nat, fun _ => [], fun i => [(7, .fix (b4 (tuL n fw i)))], fun s => (slotN s 6).toNat, fun s i => (i : Int) = slotN s 6, fun _ => 0⟩
 | 17 => some ⟨Nat × Nat, fun x => [(86, .d (i64n x.2))], fun x => [(5, .fix (.st [b240 (selL 240 (fun m => decide (m < 4 * x.1 + x.2)) fw z240), i64n (n + 6)]))], fun s => ((slotN s 6).toNat, (slotN s 86).toNat), fun s x => (x.1 : Int) = slotN s 6 ∧ x.2 ≤ 4, fun x => 4 - x.2⟩
 | _ => none
noncomputable def c20 : Ctx := ⟨tab, lkS [(79, sp79), (80, sp80), (81, sp130)], [], [700025, 400026, 600004, 200009, 800096, 800097, 800098, 800101]⟩
def rowN (s : Go.Vg.St) (b : Nat) : Nat := match Go.Vg.look s.M b with
 | some (.row _ (.slc _ xs)) => xs.length
 | _ => 0
noncomputable def inv20 (n : Nat) (fw : List Int) : Nat → Option Inv
 | 7 => some ⟨Nat, fun i => [(39, .d (i64n i))], fun i => [(26, .lnk [.slc 4 [], b256 boxP, b256 boxU] 0 (some 526)), (526, .row 39 (.slc 4 (chunks .u8 4 i fw)))], fun s => (slotN s 39).toNat, fun _ i => i ≤ n, fun i => n - i⟩
 | 12 => some ⟨Nat, fun i => [(7, .d (u8 (gpw 2 ((i - 1) / n))))], fun i => [(26, .lnk [.slc 4 [], b256 boxP, b256 boxU] 0 (some 526)), (526, .row 39 (.slc 4 (chunks .u8 4 i fw)))], fun s => rowN s 526, fun _ i => n ≤ i ∧ i ≤ 4 * (n + 7), fun i => 4 * (n + 7) - i⟩
 | 100016 => some ⟨Nat, fun i => [(7, .d (u8 (gpw 2 (i / n))))], fun i => [(10, .fix (b4 (tuL n fw i)))], fun s => (slotN s 8).toNat, fun s i => (i : Int) = slotN s 8, fun _ => 0⟩
 | _ => none
--KEEP List.replicate HXor.hXor Go.Vg.eqB Go.Vg.opq boxP Go.Vg.gm Go.Vg.gpw Go.Vg.giv Go.Vg.rl8 Go.Vg.gbx Go.Vg.gux Go.Vg.gcl Go.Vg.gce Go.Vg.gub Go.Vg.gia Go.Vg.boxL Go.Vg.gax Go.Vg.gan Go.Vg.gsb Go.Vg.clm Go.Vg.red pwL okb sbI suI selL s4L adK colL eaL shL usL trL rowL adR mxR flW okW isB z16 enS enL deS deL okX shR usR Go.Vg.chunks z240 prL trn tuL wdL fwS fwL okN kexW kexR kexE boxU
set_option maxRecDepth 100000 in
theorem vc19  (key : List Int) (n : Nat) (fw : List Int) (F : D)  :
    (owed c19 (inv19 n fw) Try.f19 [.ints .u8 key] F) = (
 (True ∧ (241 : Nat) ≠ (0 : Nat)) ∧
 True ∧
 True ∧
 True ∧
 (4 : Int) ≠ (0 : Int) ∧
 True ∧
 True ∧
 True ∧
 True ∧
 True ∧
 match (↑key.length : Int) != (16 : Int) with
 | true =>
  True ∧
  True ∧
  True ∧
  True ∧
  True ∧
  match (↑key.length : Int) != (24 : Int) with
  | true =>
   True ∧
   True ∧
   True ∧
   True ∧
   match (↑key.length : Int) != (32 : Int) with
   | true =>
    True ∧
    (Sk.st [Sk.arr (240 : Nat), Sk.one] = Sk.st [Sk.arr (240 : Nat), Sk.one] ∧ (241 : Nat) ≠ (0 : Nat) ∧ (241 : Nat) = (241 : Nat) ∧ false = false) ∧
    True ∧
    (((241 : Nat) ≠ (0 : Nat) ∧ (241 : Nat) = (241 : Nat) ∧ true = true) ∧ false = false ∧ True) ∧
    D.tup
    [D.st
    [D.arr IntKind.u8 (240 : Nat)
    (List.replicate (240 : Nat) (0 : Int)),
    D.val (Value.int IntKind.i64 (0 : Int))],
    D.val (Value.int IntKind.i64 (1 : Int))] =
    F
   | false =>
    True ∧
    True ∧
    (false = false ∧ ((1 : Nat) < (2 : Nat) ∧ Sk.one = Sk.one) ∧ True) ∧
    (True ∧ (241 : Nat) ≠ (0 : Nat)) ∧
    (Sk.st [Sk.arr (240 : Nat), Sk.one] = Sk.st [Sk.arr (240 : Nat), Sk.one] ∧ (241 : Nat) ≠ (0 : Nat) ∧ (241 : Nat) = (241 : Nat) ∧ false = false) ∧
    (Sk.st [Sk.arr (240 : Nat), Sk.one] = Sk.st [Sk.arr (240 : Nat), Sk.one] ∧ (1 : Nat) < (2 : Nat)) ∧
    ((1 : Nat) ≠ (0 : Nat) ∧ (1 : Nat) = (1 : Nat) ∧ false = false) ∧
    True ∧
    True ∧
    True ∧
    (((AV.d (D.val (Value.int IntKind.i64 (0 : Int))) = AV.d (D.val (Value.int IntKind.i64 (↑(Int.toNat (0 : Int)) : Int))) ∧ True) ∧
    (sm
    (some
    (Blk.fix
    (D.st
    [D.arr IntKind.u8 (240 : Nat)
    (List.replicate (240 : Nat) (0 : Int)),
    D.val (Value.int IntKind.i64 (0 : Int))]))) ∧
    some
    (Blk.fix
    (D.st
    [D.arr IntKind.u8 (240 : Nat)
    (List.replicate (240 : Nat) (0 : Int)),
    D.val (Value.int IntKind.i64 (IntKind.i64.wrap (IntKind.i64.wrap ((↑key.length : Int).tdiv (4 : Int)) + (6 : Int))))])) =
    some (Blk.fix (D.st [D.arr IntKind.u8 (240 : Nat) (selL (240 : Nat) (fun (m : Nat) => decide (m < (0 : Nat))) fw z240), D.val (Value.int IntKind.i64 (↑(n + (6 : Nat)) : Int))])) ∧
    True) ∧
    true = true) ∧
    Int.toNat (0 : Int) ≤ (4 : Nat) * (n + (7 : Nat))) ∧
    ∀ (x : Nat),
    x ≤ (4 : Nat) * (n + (7 : Nat)) →
    true = true ∧
    True ∧
    match decide ((↑x : Int) < IntKind.i64.wrap ((4 : Int) * IntKind.i64.wrap (IntKind.i64.wrap (IntKind.i64.wrap ((↑key.length : Int).tdiv (4 : Int)) + (6 : Int)) + (1 : Int)))) with
    | true =>
     True ∧
     True ∧
     True ∧
     True ∧
     True ∧
     match decide ((↑x : Int) < IntKind.i64.wrap ((↑key.length : Int).tdiv (4 : Int))) with
     | true =>
      True ∧
      (Sk.st [Sk.arr (240 : Nat), Sk.one] = Sk.st [Sk.arr (240 : Nat), Sk.one] ∧ (0 : Nat) < (2 : Nat)) ∧
      ((0 : Int) ≤ (↑x : Int) ∧ (↑x : Int) < (↑(60 : Nat) : Int) ∧ (240 : Nat) = (240 : Nat) ∧ (4 : Nat) = (4 : Nat) ∧ (4 : Nat) ≠ (0 : Nat)) ∧
      ((0 : Int) ≤ (0 : Int) ∧ (0 : Int) ≤ (↑(4 : Nat) : Int) ∧ (↑(4 : Nat) : Int) ≤ (↑(4 : Nat) : Int) ∧ (4 : Nat) = (4 : Nat) ∧ (1 : Nat) = (1 : Nat)) ∧
      True ∧
      True ∧
      True ∧
      ((0 : Int) ≤ IntKind.i64.wrap ((4 : Int) * (↑x : Int)) ∧ IntKind.i64.wrap ((4 : Int) * (↑x : Int)) ≤ (↑key.length : Int) ∧ (↑key.length : Int) ≤ (↑key.length : Int) ∧ (1 : Nat) = (1 : Nat)) ∧
      (IntKind.u8 = IntKind.u8 ∧ (1 : Nat) = (1 : Nat)) ∧
      True ∧
      True ∧
      ((AV.d (D.val (Value.int IntKind.i64 (IntKind.i64.wrap ((↑x : Int) + (1 : Int))))) = AV.d (D.val (Value.int IntKind.i64 (↑(IntKind.i64.wrap ((↑x : Int) + (1 : Int))).toNat : Int))) ∧ True) ∧
      (sm
      (some
      (Blk.fix
      (D.st
      [D.arr IntKind.u8 (240 : Nat)
      (List.replicate (240 : Nat) (0 : Int)),
      D.val (Value.int IntKind.i64 (0 : Int))]))) ∧
      some
      (Blk.fix
      (D.st
      [D.arr IntKind.u8 (240 : Nat)
      (List.take ((↑x : Int).toNat * (4 : Nat) + Int.toNat (0 : Int)) (selL (240 : Nat) (fun (m : Nat) => decide (m < (4 : Nat) * x)) fw z240) ++
      List.take ((List.drop (IntKind.i64.wrap ((4 : Int) * (↑x : Int))).toNat (List.take (↑key.length : Int).toNat key)).length.min ((↑(4 : Nat) : Int).toNat - Int.toNat (0 : Int)))
      (List.drop (IntKind.i64.wrap ((4 : Int) * (↑x : Int))).toNat (List.take (↑key.length : Int).toNat key)) ++
      List.drop ((↑x : Int).toNat * (4 : Nat) + Int.toNat (0 : Int) + (List.drop (IntKind.i64.wrap ((4 : Int) * (↑x : Int))).toNat (List.take (↑key.length : Int).toNat key)).length.min ((↑(4 : Nat) : Int).toNat - Int.toNat (0 : Int)))
      (selL (240 : Nat) (fun (m : Nat) => decide (m < (4 : Nat) * x)) fw z240)),
      D.val (Value.int IntKind.i64 (↑(n + (6 : Nat)) : Int))])) =
      some (Blk.fix (D.st [D.arr IntKind.u8 (240 : Nat) (selL (240 : Nat) (fun (m : Nat) => decide (m < (4 : Nat) * (IntKind.i64.wrap ((↑x : Int) + (1 : Int))).toNat)) fw z240), D.val (Value.int IntKind.i64 (↑(n + (6 : Nat)) : Int))])) ∧
      True) ∧
      true = true) ∧
      (IntKind.i64.wrap ((↑x : Int) + (1 : Int))).toNat ≤ (4 : Nat) * (n + (7 : Nat)) ∧ (4 : Nat) * (n + (7 : Nat)) - (IntKind.i64.wrap ((↑x : Int) + (1 : Int))).toNat < (4 : Nat) * (n + (7 : Nat)) - x
     | false =>
      True ∧
      True ∧
      (Sk.st [Sk.arr (240 : Nat), Sk.one] = Sk.st [Sk.arr (240 : Nat), Sk.one] ∧ (0 : Nat) < (2 : Nat)) ∧
      ((0 : Int) ≤ IntKind.i64.wrap ((↑x : Int) - (1 : Int)) ∧ IntKind.i64.wrap ((↑x : Int) - (1 : Int)) < (↑(60 : Nat) : Int) ∧ (240 : Nat) = (240 : Nat) ∧ (4 : Nat) = (4 : Nat) ∧ (4 : Nat) ≠ (0 : Nat)) ∧
      ((4 : Nat) ≠ (0 : Nat) ∧ (4 : Nat) = (4 : Nat) ∧ true = true) ∧
      (True ∧ (4 : Nat) ≠ (0 : Nat)) ∧
      (Sk.arr (4 : Nat) = Sk.arr (4 : Nat) ∧ (4 : Nat) ≠ (0 : Nat) ∧ (4 : Nat) = (4 : Nat) ∧ false = false) ∧
      True ∧
      True ∧
      IntKind.i64.wrap ((↑key.length : Int).tdiv (4 : Int)) ≠ (0 : Int) ∧
      True ∧
      (match (↑x : Int).tmod (IntKind.i64.wrap ((↑key.length : Int).tdiv (4 : Int))) == (0 : Int) with
      | true =>
       ((0 : Int) ≤ (1 : Int) ∧ (1 : Int) < (↑(4 : Nat) : Int) ∧ (4 : Nat) = (4 : Nat) ∧ (1 : Nat) = (1 : Nat)) ∧
       ((1 : Nat) ≠ (0 : Nat) ∧ (1 : Nat) = (1 : Nat) ∧ false = false) ∧
       ((0 : Int) ≤ (2 : Int) ∧ (2 : Int) < (↑(4 : Nat) : Int) ∧ (4 : Nat) = (4 : Nat) ∧ (1 : Nat) = (1 : Nat)) ∧
       ((1 : Nat) ≠ (0 : Nat) ∧ (1 : Nat) = (1 : Nat) ∧ false = false) ∧
       ((0 : Int) ≤ (3 : Int) ∧ (3 : Int) < (↑(4 : Nat) : Int) ∧ (4 : Nat) = (4 : Nat) ∧ (1 : Nat) = (1 : Nat)) ∧
       ((1 : Nat) ≠ (0 : Nat) ∧ (1 : Nat) = (1 : Nat) ∧ false = false) ∧
       ((0 : Int) ≤ (0 : Int) ∧ (0 : Int) < (↑(4 : Nat) : Int) ∧ (4 : Nat) = (4 : Nat) ∧ (1 : Nat) = (1 : Nat)) ∧
       ((1 : Nat) ≠ (0 : Nat) ∧ (1 : Nat) = (1 : Nat) ∧ false = false) ∧
       ((1 : Nat) = (1 : Nat) ∧
       false = false ∧
       ((0 : Nat) < (4 : Nat) ∧ ([] : List Nat) = [] ∧ true = true) ∧ false = false ∧ ((1 : Nat) < (4 : Nat) ∧ ([] : List Nat) = [] ∧ true = true) ∧ false = false ∧ ((2 : Nat) < (4 : Nat) ∧ ([] : List Nat) = [] ∧ true = true) ∧ false = false ∧ ((3 : Nat) < (4 : Nat) ∧ ([] : List Nat) = [] ∧ true = true) ∧ True) ∧
       (∃ (l : List Int),
       [D.arr IntKind.u8 (4 : Nat)
       [(List.take (4 : Nat) (List.drop ((IntKind.i64.wrap ((↑x : Int) - (1 : Int))).toNat * (4 : Nat)) (selL (240 : Nat) (fun (m : Nat) => decide (m < (4 : Nat) * x)) fw z240))).getD (1 : Nat) (0 : Int),
       (List.take (4 : Nat) (List.drop ((IntKind.i64.wrap ((↑x : Int) - (1 : Int))).toNat * (4 : Nat)) (selL (240 : Nat) (fun (m : Nat) => decide (m < (4 : Nat) * x)) fw z240))).getD (2 : Nat) (0 : Int),
       (List.take (4 : Nat) (List.drop ((IntKind.i64.wrap ((↑x : Int) - (1 : Int))).toNat * (4 : Nat)) (selL (240 : Nat) (fun (m : Nat) => decide (m < (4 : Nat) * x)) fw z240))).getD (3 : Nat) (0 : Int),
       (List.take (4 : Nat) (List.drop ((IntKind.i64.wrap ((↑x : Int) - (1 : Int))).toNat * (4 : Nat)) (selL (240 : Nat) (fun (m : Nat) => decide (m < (4 : Nat) * x)) fw z240))).getD (0 : Nat) (0 : Int)]] =
       [D.arr IntKind.u8 (4 : Nat) l] ∧
       isB (4 : Nat) l) ∧
       (Sk.arr (4 : Nat) = Sk.arr (4 : Nat) ∧ (4 : Nat) ≠ (0 : Nat) ∧ (4 : Nat) = (4 : Nat) ∧ false = false) ∧
       ((0 : Int) ≤ (0 : Int) ∧ (0 : Int) < (↑(4 : Nat) : Int) ∧ (4 : Nat) = (4 : Nat) ∧ (1 : Nat) = (1 : Nat)) ∧
       ((1 : Nat) ≠ (0 : Nat) ∧ (1 : Nat) = (1 : Nat) ∧ false = false) ∧
       True ∧
       True ∧
       IntKind.i64.wrap ((↑key.length : Int).tdiv (4 : Int)) ≠ (0 : Int) ∧
       True ∧
       True ∧
       (∃ (a : Nat),
       ∃ (n : Nat),
       [D.val (Value.int IntKind.u8 (2 : Int)), D.val (Value.int IntKind.u64 (IntKind.u64.wrap (IntKind.i64.wrap (IntKind.i64.wrap ((↑x : Int).tdiv (IntKind.i64.wrap ((↑key.length : Int).tdiv (4 : Int)))) - (1 : Int)))))] =
       [D.val (Value.int IntKind.u8 (↑a : Int)), D.val (Value.int IntKind.u64 (↑n : Int))] ∧
       a < (256 : Nat) ∧ n < (18446744073709551616 : Nat)) ∧
       True ∧
       ((0 : Int) ≤ (0 : Int) ∧ (0 : Int) < (↑(4 : Nat) : Int) ∧ (4 : Nat) = (4 : Nat) ∧ (1 : Nat) = (1 : Nat)) ∧
       (((0 : Nat) < (4 : Nat) ∧ ([] : List Nat) = [] ∧ true = true) ∧ (1 : Nat) ≠ (0 : Nat) ∧ (1 : Nat) = (1 : Nat) ∧ false = false) ∧
       (True ∧
       (sm
       (some
       (Blk.fix
       (D.st
       [D.arr IntKind.u8 (240 : Nat)
       (List.replicate (240 : Nat) (0 : Int)),
       D.val (Value.int IntKind.i64 (0 : Int))]))) ∧
       sm (some (Blk.fix (D.st [D.arr IntKind.u8 (240 : Nat) (selL (240 : Nat) (fun (m : Nat) => decide (m < (4 : Nat) * x)) fw z240), D.val (Value.int IntKind.i64 (↑(n + (6 : Nat)) : Int))]))) ∧
       some
       (Blk.fix
       (D.arr IntKind.u8 (4 : Nat)
       ((s4L
       [(List.take (4 : Nat) (List.drop ((IntKind.i64.wrap ((↑x : Int) - (1 : Int))).toNat * (4 : Nat)) (selL (240 : Nat) (fun (m : Nat) => decide (m < (4 : Nat) * x)) fw z240))).getD (1 : Nat) (0 : Int),
       (List.take (4 : Nat) (List.drop ((IntKind.i64.wrap ((↑x : Int) - (1 : Int))).toNat * (4 : Nat)) (selL (240 : Nat) (fun (m : Nat) => decide (m < (4 : Nat) * x)) fw z240))).getD (2 : Nat) (0 : Int),
       (List.take (4 : Nat) (List.drop ((IntKind.i64.wrap ((↑x : Int) - (1 : Int))).toNat * (4 : Nat)) (selL (240 : Nat) (fun (m : Nat) => decide (m < (4 : Nat) * x)) fw z240))).getD (3 : Nat) (0 : Int),
       (List.take (4 : Nat) (List.drop ((IntKind.i64.wrap ((↑x : Int) - (1 : Int))).toNat * (4 : Nat)) (selL (240 : Nat) (fun (m : Nat) => decide (m < (4 : Nat) * x)) fw z240))).getD (0 : Nat) (0 : Int)]).set
       (0 : Nat)
       (ixor IntKind.u8
       ((s4L
       [(List.take (4 : Nat) (List.drop ((IntKind.i64.wrap ((↑x : Int) - (1 : Int))).toNat * (4 : Nat)) (selL (240 : Nat) (fun (m : Nat) => decide (m < (4 : Nat) * x)) fw z240))).getD (1 : Nat) (0 : Int),
       (List.take (4 : Nat) (List.drop ((IntKind.i64.wrap ((↑x : Int) - (1 : Int))).toNat * (4 : Nat)) (selL (240 : Nat) (fun (m : Nat) => decide (m < (4 : Nat) * x)) fw z240))).getD (2 : Nat) (0 : Int),
       (List.take (4 : Nat) (List.drop ((IntKind.i64.wrap ((↑x : Int) - (1 : Int))).toNat * (4 : Nat)) (selL (240 : Nat) (fun (m : Nat) => decide (m < (4 : Nat) * x)) fw z240))).getD (3 : Nat) (0 : Int),
       (List.take (4 : Nat) (List.drop ((IntKind.i64.wrap ((↑x : Int) - (1 : Int))).toNat * (4 : Nat)) (selL (240 : Nat) (fun (m : Nat) => decide (m < (4 : Nat) * x)) fw z240))).getD (0 : Nat) (0 : Int)]).getD
       (0 : Nat) (0 : Int))
       (↑(gpw (2 : Nat) (IntKind.u64.wrap (IntKind.i64.wrap (IntKind.i64.wrap ((↑x : Int).tdiv (IntKind.i64.wrap ((↑key.length : Int).tdiv (4 : Int)))) - (1 : Int)))).toNat) : Int))))) =
       some (Blk.fix (D.arr IntKind.u8 (4 : Nat) (tuL n fw (↑x : Int).toNat))) ∧
       True) ∧
       true = true) ∧
       (↑(↑x : Int).toNat : Int) = (↑x : Int)
      | false =>
       True ∧
       True ∧
       True ∧
       match IntKind.i64.wrap ((↑key.length : Int).tdiv (4 : Int)) == (8 : Int) with
       | true =>
        True ∧
        (8 : Int) ≠ (0 : Int) ∧
        True ∧
        True ∧
        match (↑x : Int).tmod (8 : Int) == (4 : Int) with
        | true =>
         ((4 : Nat) ≠ (0 : Nat) ∧ (4 : Nat) = (4 : Nat) ∧ true = true) ∧
         (∃ (l : List Int),
         [D.arr IntKind.u8 (4 : Nat) (List.take (4 : Nat) (List.drop ((IntKind.i64.wrap ((↑x : Int) - (1 : Int))).toNat * (4 : Nat)) (selL (240 : Nat) (fun (m : Nat) => decide (m < (4 : Nat) * x)) fw z240)))] = [D.arr IntKind.u8 (4 : Nat) l] ∧ isB (4 : Nat) l) ∧
         (Sk.arr (4 : Nat) = Sk.arr (4 : Nat) ∧ (4 : Nat) ≠ (0 : Nat) ∧ (4 : Nat) = (4 : Nat) ∧ false = false) ∧
         (True ∧
         (sm
         (some
         (Blk.fix
         (D.st
         [D.arr IntKind.u8 (240 : Nat)
         (List.replicate (240 : Nat) (0 : Int)),
         D.val (Value.int IntKind.i64 (0 : Int))]))) ∧
         sm (some (Blk.fix (D.st [D.arr IntKind.u8 (240 : Nat) (selL (240 : Nat) (fun (m : Nat) => decide (m < (4 : Nat) * x)) fw z240), D.val (Value.int IntKind.i64 (↑(n + (6 : Nat)) : Int))]))) ∧
         some (Blk.fix (D.arr IntKind.u8 (4 : Nat) (s4L (List.take (4 : Nat) (List.drop ((IntKind.i64.wrap ((↑x : Int) - (1 : Int))).toNat * (4 : Nat)) (selL (240 : Nat) (fun (m : Nat) => decide (m < (4 : Nat) * x)) fw z240)))))) =
         some (Blk.fix (D.arr IntKind.u8 (4 : Nat) (tuL n fw (↑x : Int).toNat))) ∧
         True) ∧
         true = true) ∧
         (↑(↑x : Int).toNat : Int) = (↑x : Int)
        | false =>
         (True ∧
         (sm
         (some
         (Blk.fix
         (D.st
         [D.arr IntKind.u8 (240 : Nat)
         (List.replicate (240 : Nat) (0 : Int)),
         D.val (Value.int IntKind.i64 (0 : Int))]))) ∧
         sm (some (Blk.fix (D.st [D.arr IntKind.u8 (240 : Nat) (selL (240 : Nat) (fun (m : Nat) => decide (m < (4 : Nat) * x)) fw z240), D.val (Value.int IntKind.i64 (↑(n + (6 : Nat)) : Int))]))) ∧
         some (Blk.fix (D.arr IntKind.u8 (4 : Nat) (List.take (4 : Nat) (List.drop ((IntKind.i64.wrap ((↑x : Int) - (1 : Int))).toNat * (4 : Nat)) (selL (240 : Nat) (fun (m : Nat) => decide (m < (4 : Nat) * x)) fw z240))))) =
         some (Blk.fix (D.arr IntKind.u8 (4 : Nat) (tuL n fw (↑x : Int).toNat))) ∧
         True) ∧
         true = true) ∧
         (↑(↑x : Int).toNat : Int) = (↑x : Int)
       | false =>
        True ∧
        (True ∧
        (sm
        (some
        (Blk.fix
        (D.st
        [D.arr IntKind.u8 (240 : Nat)
        (List.replicate (240 : Nat) (0 : Int)),
        D.val (Value.int IntKind.i64 (0 : Int))]))) ∧
        sm (some (Blk.fix (D.st [D.arr IntKind.u8 (240 : Nat) (selL (240 : Nat) (fun (m : Nat) => decide (m < (4 : Nat) * x)) fw z240), D.val (Value.int IntKind.i64 (↑(n + (6 : Nat)) : Int))]))) ∧
        some (Blk.fix (D.arr IntKind.u8 (4 : Nat) (List.take (4 : Nat) (List.drop ((IntKind.i64.wrap ((↑x : Int) - (1 : Int))).toNat * (4 : Nat)) (selL (240 : Nat) (fun (m : Nat) => decide (m < (4 : Nat) * x)) fw z240))))) =
        some (Blk.fix (D.arr IntKind.u8 (4 : Nat) (tuL n fw (↑x : Int).toNat))) ∧
        True) ∧
        true = true) ∧
        (↑(↑x : Int).toNat : Int) = (↑x : Int)) ∧
       ∀ (z : Nat),
       (↑z : Int) = (↑x : Int) →
       true = true ∧
       True ∧
       (((AV.d (D.val (Value.int IntKind.i64 (0 : Int))) = AV.d (D.val (Value.int IntKind.i64 (↑(0 : Nat) : Int))) ∧ True) ∧
       (sm
       (some
       (Blk.fix
       (D.st
       [D.arr IntKind.u8 (240 : Nat)
       (List.replicate (240 : Nat) (0 : Int)),
       D.val (Value.int IntKind.i64 (0 : Int))]))) ∧
       some (Blk.fix (D.st [D.arr IntKind.u8 (240 : Nat) (selL (240 : Nat) (fun (m : Nat) => decide (m < (4 : Nat) * x)) fw z240), D.val (Value.int IntKind.i64 (↑(n + (6 : Nat)) : Int))])) =
       some (Blk.fix (D.st [D.arr IntKind.u8 (240 : Nat) (selL (240 : Nat) (fun (m : Nat) => decide (m < (4 : Nat) * (↑x : Int).toNat + (0 : Nat))) fw z240), D.val (Value.int IntKind.i64 (↑(n + (6 : Nat)) : Int))])) ∧
       sm (some (Blk.fix (D.arr IntKind.u8 (4 : Nat) (tuL n fw z)))) ∧ True) ∧
       true = true) ∧
       (↑(↑x : Int).toNat : Int) = (↑x : Int) ∧ (0 : Nat) ≤ (4 : Nat)) ∧
       ∀ (x_1 : Nat × Nat),
       (↑x_1.fst : Int) = (↑x : Int) ∧ x_1.snd ≤ (4 : Nat) →
       true = true ∧
       True ∧
       match decide ((↑x_1.snd : Int) < (4 : Int)) with
       | true =>
        True ∧
        True ∧
        True ∧
        True ∧
        True ∧
        True ∧
        True ∧
        True ∧
        (Sk.st [Sk.arr (240 : Nat), Sk.one] = Sk.st [Sk.arr (240 : Nat), Sk.one] ∧ (0 : Nat) < (2 : Nat)) ∧
        ((0 : Int) ≤ IntKind.i64.wrap ((↑x : Int) - IntKind.i64.wrap ((↑key.length : Int).tdiv (4 : Int))) ∧
        IntKind.i64.wrap ((↑x : Int) - IntKind.i64.wrap ((↑key.length : Int).tdiv (4 : Int))) < (↑(60 : Nat) : Int) ∧ (240 : Nat) = (240 : Nat) ∧ (4 : Nat) = (4 : Nat) ∧ (4 : Nat) ≠ (0 : Nat)) ∧
        ((0 : Int) ≤ (↑x_1.snd : Int) ∧ (↑x_1.snd : Int) < (↑(4 : Nat) : Int) ∧ (4 : Nat) = (4 : Nat) ∧ (1 : Nat) = (1 : Nat)) ∧
        ((1 : Nat) ≠ (0 : Nat) ∧ (1 : Nat) = (1 : Nat) ∧ false = false) ∧
        True ∧
        ((0 : Int) ≤ (↑x_1.snd : Int) ∧ (↑x_1.snd : Int) < (↑(4 : Nat) : Int) ∧ (4 : Nat) = (4 : Nat) ∧ (1 : Nat) = (1 : Nat)) ∧
        ((1 : Nat) ≠ (0 : Nat) ∧ (1 : Nat) = (1 : Nat) ∧ false = false) ∧
        True ∧
        (Sk.st [Sk.arr (240 : Nat), Sk.one] = Sk.st [Sk.arr (240 : Nat), Sk.one] ∧ (0 : Nat) < (2 : Nat)) ∧
        ((0 : Int) ≤ (↑x : Int) ∧ (↑x : Int) < (↑(60 : Nat) : Int) ∧ (240 : Nat) = (240 : Nat) ∧ (4 : Nat) = (4 : Nat) ∧ (4 : Nat) ≠ (0 : Nat)) ∧
        ((0 : Int) ≤ (↑x_1.snd : Int) ∧ (↑x_1.snd : Int) < (↑(4 : Nat) : Int) ∧ (4 : Nat) = (4 : Nat) ∧ (1 : Nat) = (1 : Nat)) ∧
        (((0 : Nat) < (2 : Nat) ∧ (↑x : Int).toNat * (4 : Nat) + (↑x_1.snd : Int).toNat < (240 : Nat) ∧ ([] : List Nat) = [] ∧ true = true) ∧ (1 : Nat) ≠ (0 : Nat) ∧ (1 : Nat) = (1 : Nat) ∧ false = false) ∧
        True ∧
        True ∧
        ((AV.d (D.val (Value.int IntKind.i64 (IntKind.i64.wrap ((↑x_1.snd : Int) + (1 : Int))))) = AV.d (D.val (Value.int IntKind.i64 (↑(IntKind.i64.wrap ((↑x_1.snd : Int) + (1 : Int))).toNat : Int))) ∧ True) ∧
        (sm
        (some
        (Blk.fix
        (D.st
        [D.arr IntKind.u8 (240 : Nat)
        (List.replicate (240 : Nat) (0 : Int)),
        D.val (Value.int IntKind.i64 (0 : Int))]))) ∧
        some
        (Blk.fix
        (D.st
        [D.arr IntKind.u8 (240 : Nat)
        ((selL (240 : Nat) (fun (m : Nat) => decide (m < (4 : Nat) * x_1.fst + x_1.snd)) fw z240).set ((↑x : Int).toNat * (4 : Nat) + (↑x_1.snd : Int).toNat)
        (ixor IntKind.u8
        ((selL (240 : Nat) (fun (m : Nat) => decide (m < (4 : Nat) * x_1.fst + x_1.snd)) fw z240).getD
        ((IntKind.i64.wrap ((↑x : Int) - IntKind.i64.wrap ((↑key.length : Int).tdiv (4 : Int)))).toNat * (4 : Nat) + (↑x_1.snd : Int).toNat) (0 : Int))
        ((tuL n fw z).getD (↑x_1.snd : Int).toNat (0 : Int)))),
        D.val (Value.int IntKind.i64 (↑(n + (6 : Nat)) : Int))])) =
        some
        (Blk.fix
        (D.st
        [D.arr IntKind.u8 (240 : Nat) (selL (240 : Nat) (fun (m : Nat) => decide (m < (4 : Nat) * (↑x : Int).toNat + (IntKind.i64.wrap ((↑x_1.snd : Int) + (1 : Int))).toNat)) fw z240),
        D.val (Value.int IntKind.i64 (↑(n + (6 : Nat)) : Int))])) ∧
        sm (some (Blk.fix (D.arr IntKind.u8 (4 : Nat) (tuL n fw z)))) ∧ True) ∧
        true = true) ∧
        ((↑(↑x : Int).toNat : Int) = (↑x : Int) ∧ (IntKind.i64.wrap ((↑x_1.snd : Int) + (1 : Int))).toNat ≤ (4 : Nat)) ∧ (4 : Nat) - (IntKind.i64.wrap ((↑x_1.snd : Int) + (1 : Int))).toNat < (4 : Nat) - x_1.snd
       | false =>
        True ∧
        True ∧
        ((AV.d (D.val (Value.int IntKind.i64 (IntKind.i64.wrap ((↑x : Int) + (1 : Int))))) = AV.d (D.val (Value.int IntKind.i64 (↑(IntKind.i64.wrap ((↑x : Int) + (1 : Int))).toNat : Int))) ∧ True) ∧
        (sm
        (some
        (Blk.fix
        (D.st
        [D.arr IntKind.u8 (240 : Nat)
        (List.replicate (240 : Nat) (0 : Int)),
        D.val (Value.int IntKind.i64 (0 : Int))]))) ∧
        some (Blk.fix (D.st [D.arr IntKind.u8 (240 : Nat) (selL (240 : Nat) (fun (m : Nat) => decide (m < (4 : Nat) * x_1.fst + x_1.snd)) fw z240), D.val (Value.int IntKind.i64 (↑(n + (6 : Nat)) : Int))])) =
        some (Blk.fix (D.st [D.arr IntKind.u8 (240 : Nat) (selL (240 : Nat) (fun (m : Nat) => decide (m < (4 : Nat) * (IntKind.i64.wrap ((↑x : Int) + (1 : Int))).toNat)) fw z240), D.val (Value.int IntKind.i64 (↑(n + (6 : Nat)) : Int))])) ∧
        True) ∧
        true = true) ∧
        (IntKind.i64.wrap ((↑x : Int) + (1 : Int))).toNat ≤ (4 : Nat) * (n + (7 : Nat)) ∧ (4 : Nat) * (n + (7 : Nat)) - (IntKind.i64.wrap ((↑x : Int) + (1 : Int))).toNat < (4 : Nat) * (n + (7 : Nat)) - x
    | false =>
     ((241 : Nat) ≠ (0 : Nat) ∧ (241 : Nat) = (241 : Nat) ∧ true = true) ∧
     (Sk.st [Sk.arr (240 : Nat), Sk.one] = Sk.st [Sk.arr (240 : Nat), Sk.one] ∧ (241 : Nat) ≠ (0 : Nat) ∧ (241 : Nat) = (241 : Nat) ∧ false = false) ∧
     True ∧
     (((241 : Nat) ≠ (0 : Nat) ∧ (241 : Nat) = (241 : Nat) ∧ true = true) ∧ false = false ∧ True) ∧ D.tup [D.st [D.arr IntKind.u8 (240 : Nat) (selL (240 : Nat) (fun (m : Nat) => decide (m < (4 : Nat) * x)) fw z240), D.val (Value.int IntKind.i64 (↑(n + (6 : Nat)) : Int))], D.val (Value.int IntKind.i64 (0 : Int))] = F
  | false =>
   True ∧
   True ∧
   True ∧
   (false = false ∧ ((1 : Nat) < (2 : Nat) ∧ Sk.one = Sk.one) ∧ True) ∧
   (True ∧ (241 : Nat) ≠ (0 : Nat)) ∧
   (Sk.st [Sk.arr (240 : Nat), Sk.one] = Sk.st [Sk.arr (240 : Nat), Sk.one] ∧ (241 : Nat) ≠ (0 : Nat) ∧ (241 : Nat) = (241 : Nat) ∧ false = false) ∧
   (Sk.st [Sk.arr (240 : Nat), Sk.one] = Sk.st [Sk.arr (240 : Nat), Sk.one] ∧ (1 : Nat) < (2 : Nat)) ∧
   ((1 : Nat) ≠ (0 : Nat) ∧ (1 : Nat) = (1 : Nat) ∧ false = false) ∧
   True ∧
   True ∧
   True ∧
   (((AV.d (D.val (Value.int IntKind.i64 (0 : Int))) = AV.d (D.val (Value.int IntKind.i64 (↑(Int.toNat (0 : Int)) : Int))) ∧ True) ∧
   (sm
   (some
   (Blk.fix
   (D.st
   [D.arr IntKind.u8 (240 : Nat)
   (List.replicate (240 : Nat) (0 : Int)),
   D.val (Value.int IntKind.i64 (0 : Int))]))) ∧
   some
   (Blk.fix
   (D.st
   [D.arr IntKind.u8 (240 : Nat)
   (List.replicate (240 : Nat) (0 : Int)),
   D.val (Value.int IntKind.i64 (IntKind.i64.wrap (IntKind.i64.wrap ((↑key.length : Int).tdiv (4 : Int)) + (6 : Int))))])) =
   some (Blk.fix (D.st [D.arr IntKind.u8 (240 : Nat) (selL (240 : Nat) (fun (m : Nat) => decide (m < (0 : Nat))) fw z240), D.val (Value.int IntKind.i64 (↑(n + (6 : Nat)) : Int))])) ∧
   True) ∧
   true = true) ∧
   Int.toNat (0 : Int) ≤ (4 : Nat) * (n + (7 : Nat))) ∧
   ∀ (x : Nat),
   x ≤ (4 : Nat) * (n + (7 : Nat)) →
   true = true ∧
   True ∧
   match decide ((↑x : Int) < IntKind.i64.wrap ((4 : Int) * IntKind.i64.wrap (IntKind.i64.wrap (IntKind.i64.wrap ((↑key.length : Int).tdiv (4 : Int)) + (6 : Int)) + (1 : Int)))) with
   | true =>
    True ∧
    True ∧
    True ∧
    True ∧
    True ∧
    match decide ((↑x : Int) < IntKind.i64.wrap ((↑key.length : Int).tdiv (4 : Int))) with
    | true =>
     True ∧
     (Sk.st [Sk.arr (240 : Nat), Sk.one] = Sk.st [Sk.arr (240 : Nat), Sk.one] ∧ (0 : Nat) < (2 : Nat)) ∧
     ((0 : Int) ≤ (↑x : Int) ∧ (↑x : Int) < (↑(60 : Nat) : Int) ∧ (240 : Nat) = (240 : Nat) ∧ (4 : Nat) = (4 : Nat) ∧ (4 : Nat) ≠ (0 : Nat)) ∧
     ((0 : Int) ≤ (0 : Int) ∧ (0 : Int) ≤ (↑(4 : Nat) : Int) ∧ (↑(4 : Nat) : Int) ≤ (↑(4 : Nat) : Int) ∧ (4 : Nat) = (4 : Nat) ∧ (1 : Nat) = (1 : Nat)) ∧
     True ∧
     True ∧
     True ∧
     ((0 : Int) ≤ IntKind.i64.wrap ((4 : Int) * (↑x : Int)) ∧ IntKind.i64.wrap ((4 : Int) * (↑x : Int)) ≤ (↑key.length : Int) ∧ (↑key.length : Int) ≤ (↑key.length : Int) ∧ (1 : Nat) = (1 : Nat)) ∧
     (IntKind.u8 = IntKind.u8 ∧ (1 : Nat) = (1 : Nat)) ∧
     True ∧
     True ∧
     ((AV.d (D.val (Value.int IntKind.i64 (IntKind.i64.wrap ((↑x : Int) + (1 : Int))))) = AV.d (D.val (Value.int IntKind.i64 (↑(IntKind.i64.wrap ((↑x : Int) + (1 : Int))).toNat : Int))) ∧ True) ∧
     (sm
     (some
     (Blk.fix
     (D.st
     [D.arr IntKind.u8 (240 : Nat)
     (List.replicate (240 : Nat) (0 : Int)),
     D.val (Value.int IntKind.i64 (0 : Int))]))) ∧
     some
     (Blk.fix
     (D.st
     [D.arr IntKind.u8 (240 : Nat)
     (List.take ((↑x : Int).toNat * (4 : Nat) + Int.toNat (0 : Int)) (selL (240 : Nat) (fun (m : Nat) => decide (m < (4 : Nat) * x)) fw z240) ++
     List.take ((List.drop (IntKind.i64.wrap ((4 : Int) * (↑x : Int))).toNat (List.take (↑key.length : Int).toNat key)).length.min ((↑(4 : Nat) : Int).toNat - Int.toNat (0 : Int)))
     (List.drop (IntKind.i64.wrap ((4 : Int) * (↑x : Int))).toNat (List.take (↑key.length : Int).toNat key)) ++
     List.drop ((↑x : Int).toNat * (4 : Nat) + Int.toNat (0 : Int) + (List.drop (IntKind.i64.wrap ((4 : Int) * (↑x : Int))).toNat (List.take (↑key.length : Int).toNat key)).length.min ((↑(4 : Nat) : Int).toNat - Int.toNat (0 : Int)))
     (selL (240 : Nat) (fun (m : Nat) => decide (m < (4 : Nat) * x)) fw z240)),
     D.val (Value.int IntKind.i64 (↑(n + (6 : Nat)) : Int))])) =
     some (Blk.fix (D.st [D.arr IntKind.u8 (240 : Nat) (selL (240 : Nat) (fun (m : Nat) => decide (m < (4 : Nat) * (IntKind.i64.wrap ((↑x : Int) + (1 : Int))).toNat)) fw z240), D.val (Value.int IntKind.i64 (↑(n + (6 : Nat)) : Int))])) ∧
     True) ∧
     true = true) ∧
     (IntKind.i64.wrap ((↑x : Int) + (1 : Int))).toNat ≤ (4 : Nat) * (n + (7 : Nat)) ∧ (4 : Nat) * (n + (7 : Nat)) - (IntKind.i64.wrap ((↑x : Int) + (1 : Int))).toNat < (4 : Nat) * (n + (7 : Nat)) - x
    | false =>
     True ∧
     True ∧
     (Sk.st [Sk.arr (240 : Nat), Sk.one] = Sk.st [Sk.arr (240 : Nat), Sk.one] ∧ (0 : Nat) < (2 : Nat)) ∧
     ((0 : Int) ≤ IntKind.i64.wrap ((↑x : Int) - (1 : Int)) ∧ IntKind.i64.wrap ((↑x : Int) - (1 : Int)) < (↑(60 : Nat) : Int) ∧ (240 : Nat) = (240 : Nat) ∧ (4 : Nat) = (4 : Nat) ∧ (4 : Nat) ≠ (0 : Nat)) ∧
     ((4 : Nat) ≠ (0 : Nat) ∧ (4 : Nat) = (4 : Nat) ∧ true = true) ∧
     (True ∧ (4 : Nat) ≠ (0 : Nat)) ∧
     (Sk.arr (4 : Nat) = Sk.arr (4 : Nat) ∧ (4 : Nat) ≠ (0 : Nat) ∧ (4 : Nat) = (4 : Nat) ∧ false = false) ∧
     True ∧
     True ∧
     IntKind.i64.wrap ((↑key.length : Int).tdiv (4 : Int)) ≠ (0 : Int) ∧
     True ∧
     (match (↑x : Int).tmod (IntKind.i64.wrap ((↑key.length : Int).tdiv (4 : Int))) == (0 : Int) with
     | true =>
      ((0 : Int) ≤ (1 : Int) ∧ (1 : Int) < (↑(4 : Nat) : Int) ∧ (4 : Nat) = (4 : Nat) ∧ (1 : Nat) = (1 : Nat)) ∧
      ((1 : Nat) ≠ (0 : Nat) ∧ (1 : Nat) = (1 : Nat) ∧ false = false) ∧
      ((0 : Int) ≤ (2 : Int) ∧ (2 : Int) < (↑(4 : Nat) : Int) ∧ (4 : Nat) = (4 : Nat) ∧ (1 : Nat) = (1 : Nat)) ∧
      ((1 : Nat) ≠ (0 : Nat) ∧ (1 : Nat) = (1 : Nat) ∧ false = false) ∧
      ((0 : Int) ≤ (3 : Int) ∧ (3 : Int) < (↑(4 : Nat) : Int) ∧ (4 : Nat) = (4 : Nat) ∧ (1 : Nat) = (1 : Nat)) ∧
      ((1 : Nat) ≠ (0 : Nat) ∧ (1 : Nat) = (1 : Nat) ∧ false = false) ∧
      ((0 : Int) ≤ (0 : Int) ∧ (0 : Int) < (↑(4 : Nat) : Int) ∧ (4 : Nat) = (4 : Nat) ∧ (1 : Nat) = (1 : Nat)) ∧
      ((1 : Nat) ≠ (0 : Nat) ∧ (1 : Nat) = (1 : Nat) ∧ false = false) ∧
      ((1 : Nat) = (1 : Nat) ∧
      false = false ∧ ((0 : Nat) < (4 : Nat) ∧ ([] : List Nat) = [] ∧ true = true) ∧ false = false ∧ ((1 : Nat) < (4 : Nat) ∧ ([] : List Nat) = [] ∧ true = true) ∧ false = false ∧ ((2 : Nat) < (4 : Nat) ∧ ([] : List Nat) = [] ∧ true = true) ∧ false = false ∧ ((3 : Nat) < (4 : Nat) ∧ ([] : List Nat) = [] ∧ true = true) ∧ True) ∧
      (∃ (l : List Int),
      [D.arr IntKind.u8 (4 : Nat)
      [(List.take (4 : Nat) (List.drop ((IntKind.i64.wrap ((↑x : Int) - (1 : Int))).toNat * (4 : Nat)) (selL (240 : Nat) (fun (m : Nat) => decide (m < (4 : Nat) * x)) fw z240))).getD (1 : Nat) (0 : Int),
      (List.take (4 : Nat) (List.drop ((IntKind.i64.wrap ((↑x : Int) - (1 : Int))).toNat * (4 : Nat)) (selL (240 : Nat) (fun (m : Nat) => decide (m < (4 : Nat) * x)) fw z240))).getD (2 : Nat) (0 : Int),
      (List.take (4 : Nat) (List.drop ((IntKind.i64.wrap ((↑x : Int) - (1 : Int))).toNat * (4 : Nat)) (selL (240 : Nat) (fun (m : Nat) => decide (m < (4 : Nat) * x)) fw z240))).getD (3 : Nat) (0 : Int),
      (List.take (4 : Nat) (List.drop ((IntKind.i64.wrap ((↑x : Int) - (1 : Int))).toNat * (4 : Nat)) (selL (240 : Nat) (fun (m : Nat) => decide (m < (4 : Nat) * x)) fw z240))).getD (0 : Nat) (0 : Int)]] =
      [D.arr IntKind.u8 (4 : Nat) l] ∧
      isB (4 : Nat) l) ∧
      (Sk.arr (4 : Nat) = Sk.arr (4 : Nat) ∧ (4 : Nat) ≠ (0 : Nat) ∧ (4 : Nat) = (4 : Nat) ∧ false = false) ∧
      ((0 : Int) ≤ (0 : Int) ∧ (0 : Int) < (↑(4 : Nat) : Int) ∧ (4 : Nat) = (4 : Nat) ∧ (1 : Nat) = (1 : Nat)) ∧
      ((1 : Nat) ≠ (0 : Nat) ∧ (1 : Nat) = (1 : Nat) ∧ false = false) ∧
      True ∧
      True ∧
      IntKind.i64.wrap ((↑key.length : Int).tdiv (4 : Int)) ≠ (0 : Int) ∧
      True ∧
      True ∧
      (∃ (a : Nat),
      ∃ (n : Nat),
      [D.val (Value.int IntKind.u8 (2 : Int)), D.val (Value.int IntKind.u64 (IntKind.u64.wrap (IntKind.i64.wrap (IntKind.i64.wrap ((↑x : Int).tdiv (IntKind.i64.wrap ((↑key.length : Int).tdiv (4 : Int)))) - (1 : Int)))))] =
      [D.val (Value.int IntKind.u8 (↑a : Int)), D.val (Value.int IntKind.u64 (↑n : Int))] ∧
      a < (256 : Nat) ∧ n < (18446744073709551616 : Nat)) ∧
      True ∧
      ((0 : Int) ≤ (0 : Int) ∧ (0 : Int) < (↑(4 : Nat) : Int) ∧ (4 : Nat) = (4 : Nat) ∧ (1 : Nat) = (1 : Nat)) ∧
      (((0 : Nat) < (4 : Nat) ∧ ([] : List Nat) = [] ∧ true = true) ∧ (1 : Nat) ≠ (0 : Nat) ∧ (1 : Nat) = (1 : Nat) ∧ false = false) ∧
      (True ∧
      (sm
      (some
      (Blk.fix
      (D.st
      [D.arr IntKind.u8 (240 : Nat)
      (List.replicate (240 : Nat) (0 : Int)),
      D.val (Value.int IntKind.i64 (0 : Int))]))) ∧
      sm (some (Blk.fix (D.st [D.arr IntKind.u8 (240 : Nat) (selL (240 : Nat) (fun (m : Nat) => decide (m < (4 : Nat) * x)) fw z240), D.val (Value.int IntKind.i64 (↑(n + (6 : Nat)) : Int))]))) ∧
      some
      (Blk.fix
      (D.arr IntKind.u8 (4 : Nat)
      ((s4L
      [(List.take (4 : Nat) (List.drop ((IntKind.i64.wrap ((↑x : Int) - (1 : Int))).toNat * (4 : Nat)) (selL (240 : Nat) (fun (m : Nat) => decide (m < (4 : Nat) * x)) fw z240))).getD (1 : Nat) (0 : Int),
      (List.take (4 : Nat) (List.drop ((IntKind.i64.wrap ((↑x : Int) - (1 : Int))).toNat * (4 : Nat)) (selL (240 : Nat) (fun (m : Nat) => decide (m < (4 : Nat) * x)) fw z240))).getD (2 : Nat) (0 : Int),
      (List.take (4 : Nat) (List.drop ((IntKind.i64.wrap ((↑x : Int) - (1 : Int))).toNat * (4 : Nat)) (selL (240 : Nat) (fun (m : Nat) => decide (m < (4 : Nat) * x)) fw z240))).getD (3 : Nat) (0 : Int),
      (List.take (4 : Nat) (List.drop ((IntKind.i64.wrap ((↑x : Int) - (1 : Int))).toNat * (4 : Nat)) (selL (240 : Nat) (fun (m : Nat) => decide (m < (4 : Nat) * x)) fw z240))).getD (0 : Nat) (0 : Int)]).set
      (0 : Nat)
      (ixor IntKind.u8
      ((s4L
      [(List.take (4 : Nat) (List.drop ((IntKind.i64.wrap ((↑x : Int) - (1 : Int))).toNat * (4 : Nat)) (selL (240 : Nat) (fun (m : Nat) => decide (m < (4 : Nat) * x)) fw z240))).getD (1 : Nat) (0 : Int),
      (List.take (4 : Nat) (List.drop ((IntKind.i64.wrap ((↑x : Int) - (1 : Int))).toNat * (4 : Nat)) (selL (240 : Nat) (fun (m : Nat) => decide (m < (4 : Nat) * x)) fw z240))).getD (2 : Nat) (0 : Int),
      (List.take (4 : Nat) (List.drop ((IntKind.i64.wrap ((↑x : Int) - (1 : Int))).toNat * (4 : Nat)) (selL (240 : Nat) (fun (m : Nat) => decide (m < (4 : Nat) * x)) fw z240))).getD (3 : Nat) (0 : Int),
      (List.take (4 : Nat) (List.drop ((IntKind.i64.wrap ((↑x : Int) - (1 : Int))).toNat * (4 : Nat)) (selL (240 : Nat) (fun (m : Nat) => decide (m < (4 : Nat) * x)) fw z240))).getD (0 : Nat) (0 : Int)]).getD
      (0 : Nat) (0 : Int))
      (↑(gpw (2 : Nat) (IntKind.u64.wrap (IntKind.i64.wrap (IntKind.i64.wrap ((↑x : Int).tdiv (IntKind.i64.wrap ((↑key.length : Int).tdiv (4 : Int)))) - (1 : Int)))).toNat) : Int))))) =
      some (Blk.fix (D.arr IntKind.u8 (4 : Nat) (tuL n fw (↑x : Int).toNat))) ∧
      True) ∧
      true = true) ∧
      (↑(↑x : Int).toNat : Int) = (↑x : Int)
     | false =>
      True ∧
      True ∧
      True ∧
      match IntKind.i64.wrap ((↑key.length : Int).tdiv (4 : Int)) == (8 : Int) with
      | true =>
       True ∧
       (8 : Int) ≠ (0 : Int) ∧
       True ∧
       True ∧
       match (↑x : Int).tmod (8 : Int) == (4 : Int) with
       | true =>
        ((4 : Nat) ≠ (0 : Nat) ∧ (4 : Nat) = (4 : Nat) ∧ true = true) ∧
        (∃ (l : List Int), [D.arr IntKind.u8 (4 : Nat) (List.take (4 : Nat) (List.drop ((IntKind.i64.wrap ((↑x : Int) - (1 : Int))).toNat * (4 : Nat)) (selL (240 : Nat) (fun (m : Nat) => decide (m < (4 : Nat) * x)) fw z240)))] = [D.arr IntKind.u8 (4 : Nat) l] ∧ isB (4 : Nat) l) ∧
        (Sk.arr (4 : Nat) = Sk.arr (4 : Nat) ∧ (4 : Nat) ≠ (0 : Nat) ∧ (4 : Nat) = (4 : Nat) ∧ false = false) ∧
        (True ∧
        (sm
        (some
        (Blk.fix
        (D.st
        [D.arr IntKind.u8 (240 : Nat)
        (List.replicate (240 : Nat) (0 : Int)),
        D.val (Value.int IntKind.i64 (0 : Int))]))) ∧
        sm (some (Blk.fix (D.st [D.arr IntKind.u8 (240 : Nat) (selL (240 : Nat) (fun (m : Nat) => decide (m < (4 : Nat) * x)) fw z240), D.val (Value.int IntKind.i64 (↑(n + (6 : Nat)) : Int))]))) ∧
        some (Blk.fix (D.arr IntKind.u8 (4 : Nat) (s4L (List.take (4 : Nat) (List.drop ((IntKind.i64.wrap ((↑x : Int) - (1 : Int))).toNat * (4 : Nat)) (selL (240 : Nat) (fun (m : Nat) => decide (m < (4 : Nat) * x)) fw z240)))))) =
        some (Blk.fix (D.arr IntKind.u8 (4 : Nat) (tuL n fw (↑x : Int).toNat))) ∧
        True) ∧
        true = true) ∧
        (↑(↑x : Int).toNat : Int) = (↑x : Int)
       | false =>
        (True ∧
        (sm
        (some
        (Blk.fix
        (D.st
        [D.arr IntKind.u8 (240 : Nat)
        (List.replicate (240 : Nat) (0 : Int)),
        D.val (Value.int IntKind.i64 (0 : Int))]))) ∧
        sm (some (Blk.fix (D.st [D.arr IntKind.u8 (240 : Nat) (selL (240 : Nat) (fun (m : Nat) => decide (m < (4 : Nat) * x)) fw z240), D.val (Value.int IntKind.i64 (↑(n + (6 : Nat)) : Int))]))) ∧
        some (Blk.fix (D.arr IntKind.u8 (4 : Nat) (List.take (4 : Nat) (List.drop ((IntKind.i64.wrap ((↑x : Int) - (1 : Int))).toNat * (4 : Nat)) (selL (240 : Nat) (fun (m : Nat) => decide (m < (4 : Nat) * x)) fw z240))))) =
        some (Blk.fix (D.arr IntKind.u8 (4 : Nat) (tuL n fw (↑x : Int).toNat))) ∧
        True) ∧
        true = true) ∧
        (↑(↑x : Int).toNat : Int) = (↑x : Int)
      | false =>
       True ∧
       (True ∧
       (sm
       (some
       (Blk.fix
       (D.st
       [D.arr IntKind.u8 (240 : Nat)
       (List.replicate (240 : Nat) (0 : Int)),
       D.val (Value.int IntKind.i64 (0 : Int))]))) ∧
       sm (some (Blk.fix (D.st [D.arr IntKind.u8 (240 : Nat) (selL (240 : Nat) (fun (m : Nat) => decide (m < (4 : Nat) * x)) fw z240), D.val (Value.int IntKind.i64 (↑(n + (6 : Nat)) : Int))]))) ∧
       some (Blk.fix (D.arr IntKind.u8 (4 : Nat) (List.take (4 : Nat) (List.drop ((IntKind.i64.wrap ((↑x : Int) - (1 : Int))).toNat * (4 : Nat)) (selL (240 : Nat) (fun (m : Nat) => decide (m < (4 : Nat) * x)) fw z240))))) =
       some (Blk.fix (D.arr IntKind.u8 (4 : Nat) (tuL n fw (↑x : Int).toNat))) ∧
       True) ∧
       true = true) ∧
       (↑(↑x : Int).toNat : Int) = (↑x : Int)) ∧
      ∀ (z : Nat),
      (↑z : Int) = (↑x : Int) →
      true = true ∧
      True ∧
      (((AV.d (D.val (Value.int IntKind.i64 (0 : Int))) = AV.d (D.val (Value.int IntKind.i64 (↑(0 : Nat) : Int))) ∧ True) ∧
      (sm
      (some
      (Blk.fix
      (D.st
      [D.arr IntKind.u8 (240 : Nat)
      (List.replicate (240 : Nat) (0 : Int)),
      D.val (Value.int IntKind.i64 (0 : Int))]))) ∧
      some (Blk.fix (D.st [D.arr IntKind.u8 (240 : Nat) (selL (240 : Nat) (fun (m : Nat) => decide (m < (4 : Nat) * x)) fw z240), D.val (Value.int IntKind.i64 (↑(n + (6 : Nat)) : Int))])) =
      some (Blk.fix (D.st [D.arr IntKind.u8 (240 : Nat) (selL (240 : Nat) (fun (m : Nat) => decide (m < (4 : Nat) * (↑x : Int).toNat + (0 : Nat))) fw z240), D.val (Value.int IntKind.i64 (↑(n + (6 : Nat)) : Int))])) ∧
      sm (some (Blk.fix (D.arr IntKind.u8 (4 : Nat) (tuL n fw z)))) ∧ True) ∧
      true = true) ∧
      (↑(↑x : Int).toNat : Int) = (↑x : Int) ∧ (0 : Nat) ≤ (4 : Nat)) ∧
      ∀ (x_1 : Nat × Nat),
      (↑x_1.fst : Int) = (↑x : Int) ∧ x_1.snd ≤ (4 : Nat) →
      true = true ∧
      True ∧
      match decide ((↑x_1.snd : Int) < (4 : Int)) with
      | true =>
       True ∧
       True ∧
       True ∧
       True ∧
       True ∧
       True ∧
       True ∧
       True ∧
       (Sk.st [Sk.arr (240 : Nat), Sk.one] = Sk.st [Sk.arr (240 : Nat), Sk.one] ∧ (0 : Nat) < (2 : Nat)) ∧
       ((0 : Int) ≤ IntKind.i64.wrap ((↑x : Int) - IntKind.i64.wrap ((↑key.length : Int).tdiv (4 : Int))) ∧
       IntKind.i64.wrap ((↑x : Int) - IntKind.i64.wrap ((↑key.length : Int).tdiv (4 : Int))) < (↑(60 : Nat) : Int) ∧ (240 : Nat) = (240 : Nat) ∧ (4 : Nat) = (4 : Nat) ∧ (4 : Nat) ≠ (0 : Nat)) ∧
       ((0 : Int) ≤ (↑x_1.snd : Int) ∧ (↑x_1.snd : Int) < (↑(4 : Nat) : Int) ∧ (4 : Nat) = (4 : Nat) ∧ (1 : Nat) = (1 : Nat)) ∧
       ((1 : Nat) ≠ (0 : Nat) ∧ (1 : Nat) = (1 : Nat) ∧ false = false) ∧
       True ∧
       ((0 : Int) ≤ (↑x_1.snd : Int) ∧ (↑x_1.snd : Int) < (↑(4 : Nat) : Int) ∧ (4 : Nat) = (4 : Nat) ∧ (1 : Nat) = (1 : Nat)) ∧
       ((1 : Nat) ≠ (0 : Nat) ∧ (1 : Nat) = (1 : Nat) ∧ false = false) ∧
       True ∧
       (Sk.st [Sk.arr (240 : Nat), Sk.one] = Sk.st [Sk.arr (240 : Nat), Sk.one] ∧ (0 : Nat) < (2 : Nat)) ∧
       ((0 : Int) ≤ (↑x : Int) ∧ (↑x : Int) < (↑(60 : Nat) : Int) ∧ (240 : Nat) = (240 : Nat) ∧ (4 : Nat) = (4 : Nat) ∧ (4 : Nat) ≠ (0 : Nat)) ∧
       ((0 : Int) ≤ (↑x_1.snd : Int) ∧ (↑x_1.snd : Int) < (↑(4 : Nat) : Int) ∧ (4 : Nat) = (4 : Nat) ∧ (1 : Nat) = (1 : Nat)) ∧
       (((0 : Nat) < (2 : Nat) ∧ (↑x : Int).toNat * (4 : Nat) + (↑x_1.snd : Int).toNat < (240 : Nat) ∧ ([] : List Nat) = [] ∧ true = true) ∧ (1 : Nat) ≠ (0 : Nat) ∧ (1 : Nat) = (1 : Nat) ∧ false = false) ∧
       True ∧
       True ∧
       ((AV.d (D.val (Value.int IntKind.i64 (IntKind.i64.wrap ((↑x_1.snd : Int) + (1 : Int))))) = AV.d (D.val (Value.int IntKind.i64 (↑(IntKind.i64.wrap ((↑x_1.snd : Int) + (1 : Int))).toNat : Int))) ∧ True) ∧
       (sm
       (some
       (Blk.fix
       (D.st
       [D.arr IntKind.u8 (240 : Nat)
       (List.replicate (240 : Nat) (0 : Int)),
       D.val (Value.int IntKind.i64 (0 : Int))]))) ∧
       some
       (Blk.fix
       (D.st
       [D.arr IntKind.u8 (240 : Nat)
       ((selL (240 : Nat) (fun (m : Nat) => decide (m < (4 : Nat) * x_1.fst + x_1.snd)) fw z240).set ((↑x : Int).toNat * (4 : Nat) + (↑x_1.snd : Int).toNat)
       (ixor IntKind.u8
       ((selL (240 : Nat) (fun (m : Nat) => decide (m < (4 : Nat) * x_1.fst + x_1.snd)) fw z240).getD
       ((IntKind.i64.wrap ((↑x : Int) - IntKind.i64.wrap ((↑key.length : Int).tdiv (4 : Int)))).toNat * (4 : Nat) + (↑x_1.snd : Int).toNat) (0 : Int))
       ((tuL n fw z).getD (↑x_1.snd : Int).toNat (0 : Int)))),
       D.val (Value.int IntKind.i64 (↑(n + (6 : Nat)) : Int))])) =
       some
       (Blk.fix
       (D.st
       [D.arr IntKind.u8 (240 : Nat) (selL (240 : Nat) (fun (m : Nat) => decide (m < (4 : Nat) * (↑x : Int).toNat + (IntKind.i64.wrap ((↑x_1.snd : Int) + (1 : Int))).toNat)) fw z240),
       D.val (Value.int IntKind.i64 (↑(n + (6 : Nat)) : Int))])) ∧
       sm (some (Blk.fix (D.arr IntKind.u8 (4 : Nat) (tuL n fw z)))) ∧ True) ∧
       true = true) ∧
       ((↑(↑x : Int).toNat : Int) = (↑x : Int) ∧ (IntKind.i64.wrap ((↑x_1.snd : Int) + (1 : Int))).toNat ≤ (4 : Nat)) ∧ (4 : Nat) - (IntKind.i64.wrap ((↑x_1.snd : Int) + (1 : Int))).toNat < (4 : Nat) - x_1.snd
      | false =>
       True ∧
       True ∧
       ((AV.d (D.val (Value.int IntKind.i64 (IntKind.i64.wrap ((↑x : Int) + (1 : Int))))) = AV.d (D.val (Value.int IntKind.i64 (↑(IntKind.i64.wrap ((↑x : Int) + (1 : Int))).toNat : Int))) ∧ True) ∧
       (sm
       (some
       (Blk.fix
       (D.st
       [D.arr IntKind.u8 (240 : Nat)
       (List.replicate (240 : Nat) (0 : Int)),
       D.val (Value.int IntKind.i64 (0 : Int))]))) ∧
       some (Blk.fix (D.st [D.arr IntKind.u8 (240 : Nat) (selL (240 : Nat) (fun (m : Nat) => decide (m < (4 : Nat) * x_1.fst + x_1.snd)) fw z240), D.val (Value.int IntKind.i64 (↑(n + (6 : Nat)) : Int))])) =
       some (Blk.fix (D.st [D.arr IntKind.u8 (240 : Nat) (selL (240 : Nat) (fun (m : Nat) => decide (m < (4 : Nat) * (IntKind.i64.wrap ((↑x : Int) + (1 : Int))).toNat)) fw z240), D.val (Value.int IntKind.i64 (↑(n + (6 : Nat)) : Int))])) ∧
       True) ∧
       true = true) ∧
       (IntKind.i64.wrap ((↑x : Int) + (1 : Int))).toNat ≤ (4 : Nat) * (n + (7 : Nat)) ∧ (4 : Nat) * (n + (7 : Nat)) - (IntKind.i64.wrap ((↑x : Int) + (1 : Int))).toNat < (4 : Nat) * (n + (7 : Nat)) - x
   | false =>
    ((241 : Nat) ≠ (0 : Nat) ∧ (241 : Nat) = (241 : Nat) ∧ true = true) ∧
    (Sk.st [Sk.arr (240 : Nat), Sk.one] = Sk.st [Sk.arr (240 : Nat), Sk.one] ∧ (241 : Nat) ≠ (0 : Nat) ∧ (241 : Nat) = (241 : Nat) ∧ false = false) ∧
    True ∧ (((241 : Nat) ≠ (0 : Nat) ∧ (241 : Nat) = (241 : Nat) ∧ true = true) ∧ false = false ∧ True) ∧ D.tup [D.st [D.arr IntKind.u8 (240 : Nat) (selL (240 : Nat) (fun (m : Nat) => decide (m < (4 : Nat) * x)) fw z240), D.val (Value.int IntKind.i64 (↑(n + (6 : Nat)) : Int))], D.val (Value.int IntKind.i64 (0 : Int))] = F
 | false =>
  True ∧
  True ∧
  True ∧
  True ∧
  True ∧
  (false = false ∧ ((1 : Nat) < (2 : Nat) ∧ Sk.one = Sk.one) ∧ True) ∧
  (True ∧ (241 : Nat) ≠ (0 : Nat)) ∧
  (Sk.st [Sk.arr (240 : Nat), Sk.one] = Sk.st [Sk.arr (240 : Nat), Sk.one] ∧ (241 : Nat) ≠ (0 : Nat) ∧ (241 : Nat) = (241 : Nat) ∧ false = false) ∧
  (Sk.st [Sk.arr (240 : Nat), Sk.one] = Sk.st [Sk.arr (240 : Nat), Sk.one] ∧ (1 : Nat) < (2 : Nat)) ∧
  ((1 : Nat) ≠ (0 : Nat) ∧ (1 : Nat) = (1 : Nat) ∧ false = false) ∧
  True ∧
  True ∧
  True ∧
  (((AV.d (D.val (Value.int IntKind.i64 (0 : Int))) = AV.d (D.val (Value.int IntKind.i64 (↑(Int.toNat (0 : Int)) : Int))) ∧ True) ∧
  (sm
  (some
  (Blk.fix
  (D.st
  [D.arr IntKind.u8 (240 : Nat)
  (List.replicate (240 : Nat) (0 : Int)),
  D.val (Value.int IntKind.i64 (0 : Int))]))) ∧
  some
  (Blk.fix
  (D.st
  [D.arr IntKind.u8 (240 : Nat)
  (List.replicate (240 : Nat) (0 : Int)),
  D.val (Value.int IntKind.i64 (IntKind.i64.wrap (IntKind.i64.wrap ((↑key.length : Int).tdiv (4 : Int)) + (6 : Int))))])) =
  some (Blk.fix (D.st [D.arr IntKind.u8 (240 : Nat) (selL (240 : Nat) (fun (m : Nat) => decide (m < (0 : Nat))) fw z240), D.val (Value.int IntKind.i64 (↑(n + (6 : Nat)) : Int))])) ∧
  True) ∧
  true = true) ∧
  Int.toNat (0 : Int) ≤ (4 : Nat) * (n + (7 : Nat))) ∧
  ∀ (x : Nat),
  x ≤ (4 : Nat) * (n + (7 : Nat)) →
  true = true ∧
  True ∧
  match decide ((↑x : Int) < IntKind.i64.wrap ((4 : Int) * IntKind.i64.wrap (IntKind.i64.wrap (IntKind.i64.wrap ((↑key.length : Int).tdiv (4 : Int)) + (6 : Int)) + (1 : Int)))) with
  | true =>
   True ∧
   True ∧
   True ∧
   True ∧
   True ∧
   match decide ((↑x : Int) < IntKind.i64.wrap ((↑key.length : Int).tdiv (4 : Int))) with
   | true =>
    True ∧
    (Sk.st [Sk.arr (240 : Nat), Sk.one] = Sk.st [Sk.arr (240 : Nat), Sk.one] ∧ (0 : Nat) < (2 : Nat)) ∧
    ((0 : Int) ≤ (↑x : Int) ∧ (↑x : Int) < (↑(60 : Nat) : Int) ∧ (240 : Nat) = (240 : Nat) ∧ (4 : Nat) = (4 : Nat) ∧ (4 : Nat) ≠ (0 : Nat)) ∧
    ((0 : Int) ≤ (0 : Int) ∧ (0 : Int) ≤ (↑(4 : Nat) : Int) ∧ (↑(4 : Nat) : Int) ≤ (↑(4 : Nat) : Int) ∧ (4 : Nat) = (4 : Nat) ∧ (1 : Nat) = (1 : Nat)) ∧
    True ∧
    True ∧
    True ∧
    ((0 : Int) ≤ IntKind.i64.wrap ((4 : Int) * (↑x : Int)) ∧ IntKind.i64.wrap ((4 : Int) * (↑x : Int)) ≤ (↑key.length : Int) ∧ (↑key.length : Int) ≤ (↑key.length : Int) ∧ (1 : Nat) = (1 : Nat)) ∧
    (IntKind.u8 = IntKind.u8 ∧ (1 : Nat) = (1 : Nat)) ∧
    True ∧
    True ∧
    ((AV.d (D.val (Value.int IntKind.i64 (IntKind.i64.wrap ((↑x : Int) + (1 : Int))))) = AV.d (D.val (Value.int IntKind.i64 (↑(IntKind.i64.wrap ((↑x : Int) + (1 : Int))).toNat : Int))) ∧ True) ∧
    (sm
    (some
    (Blk.fix
    (D.st
    [D.arr IntKind.u8 (240 : Nat)
    (List.replicate (240 : Nat) (0 : Int)),
    D.val (Value.int IntKind.i64 (0 : Int))]))) ∧
    some
    (Blk.fix
    (D.st
    [D.arr IntKind.u8 (240 : Nat)
    (List.take ((↑x : Int).toNat * (4 : Nat) + Int.toNat (0 : Int)) (selL (240 : Nat) (fun (m : Nat) => decide (m < (4 : Nat) * x)) fw z240) ++
    List.take ((List.drop (IntKind.i64.wrap ((4 : Int) * (↑x : Int))).toNat (List.take (↑key.length : Int).toNat key)).length.min ((↑(4 : Nat) : Int).toNat - Int.toNat (0 : Int)))
    (List.drop (IntKind.i64.wrap ((4 : Int) * (↑x : Int))).toNat (List.take (↑key.length : Int).toNat key)) ++
    List.drop ((↑x : Int).toNat * (4 : Nat) + Int.toNat (0 : Int) + (List.drop (IntKind.i64.wrap ((4 : Int) * (↑x : Int))).toNat (List.take (↑key.length : Int).toNat key)).length.min ((↑(4 : Nat) : Int).toNat - Int.toNat (0 : Int)))
    (selL (240 : Nat) (fun (m : Nat) => decide (m < (4 : Nat) * x)) fw z240)),
    D.val (Value.int IntKind.i64 (↑(n + (6 : Nat)) : Int))])) =
    some (Blk.fix (D.st [D.arr IntKind.u8 (240 : Nat) (selL (240 : Nat) (fun (m : Nat) => decide (m < (4 : Nat) * (IntKind.i64.wrap ((↑x : Int) + (1 : Int))).toNat)) fw z240), D.val (Value.int IntKind.i64 (↑(n + (6 : Nat)) : Int))])) ∧
    True) ∧
    true = true) ∧
    (IntKind.i64.wrap ((↑x : Int) + (1 : Int))).toNat ≤ (4 : Nat) * (n + (7 : Nat)) ∧ (4 : Nat) * (n + (7 : Nat)) - (IntKind.i64.wrap ((↑x : Int) + (1 : Int))).toNat < (4 : Nat) * (n + (7 : Nat)) - x
   | false =>
    True ∧
    True ∧
    (Sk.st [Sk.arr (240 : Nat), Sk.one] = Sk.st [Sk.arr (240 : Nat), Sk.one] ∧ (0 : Nat) < (2 : Nat)) ∧
    ((0 : Int) ≤ IntKind.i64.wrap ((↑x : Int) - (1 : Int)) ∧ IntKind.i64.wrap ((↑x : Int) - (1 : Int)) < (↑(60 : Nat) : Int) ∧ (240 : Nat) = (240 : Nat) ∧ (4 : Nat) = (4 : Nat) ∧ (4 : Nat) ≠ (0 : Nat)) ∧
    ((4 : Nat) ≠ (0 : Nat) ∧ (4 : Nat) = (4 : Nat) ∧ true = true) ∧
    (True ∧ (4 : Nat) ≠ (0 : Nat)) ∧
    (Sk.arr (4 : Nat) = Sk.arr (4 : Nat) ∧ (4 : Nat) ≠ (0 : Nat) ∧ (4 : Nat) = (4 : Nat) ∧ false = false) ∧
    True ∧
    True ∧
    IntKind.i64.wrap ((↑key.length : Int).tdiv (4 : Int)) ≠ (0 : Int) ∧
    True ∧
    (match (↑x : Int).tmod (IntKind.i64.wrap ((↑key.length : Int).tdiv (4 : Int))) == (0 : Int) with
    | true =>
     ((0 : Int) ≤ (1 : Int) ∧ (1 : Int) < (↑(4 : Nat) : Int) ∧ (4 : Nat) = (4 : Nat) ∧ (1 : Nat) = (1 : Nat)) ∧
     ((1 : Nat) ≠ (0 : Nat) ∧ (1 : Nat) = (1 : Nat) ∧ false = false) ∧
     ((0 : Int) ≤ (2 : Int) ∧ (2 : Int) < (↑(4 : Nat) : Int) ∧ (4 : Nat) = (4 : Nat) ∧ (1 : Nat) = (1 : Nat)) ∧
     ((1 : Nat) ≠ (0 : Nat) ∧ (1 : Nat) = (1 : Nat) ∧ false = false) ∧
     ((0 : Int) ≤ (3 : Int) ∧ (3 : Int) < (↑(4 : Nat) : Int) ∧ (4 : Nat) = (4 : Nat) ∧ (1 : Nat) = (1 : Nat)) ∧
     ((1 : Nat) ≠ (0 : Nat) ∧ (1 : Nat) = (1 : Nat) ∧ false = false) ∧
     ((0 : Int) ≤ (0 : Int) ∧ (0 : Int) < (↑(4 : Nat) : Int) ∧ (4 : Nat) = (4 : Nat) ∧ (1 : Nat) = (1 : Nat)) ∧
     ((1 : Nat) ≠ (0 : Nat) ∧ (1 : Nat) = (1 : Nat) ∧ false = false) ∧
     ((1 : Nat) = (1 : Nat) ∧
     false = false ∧ ((0 : Nat) < (4 : Nat) ∧ ([] : List Nat) = [] ∧ true = true) ∧ false = false ∧ ((1 : Nat) < (4 : Nat) ∧ ([] : List Nat) = [] ∧ true = true) ∧ false = false ∧ ((2 : Nat) < (4 : Nat) ∧ ([] : List Nat) = [] ∧ true = true) ∧ false = false ∧ ((3 : Nat) < (4 : Nat) ∧ ([] : List Nat) = [] ∧ true = true) ∧ True) ∧
     (∃ (l : List Int),
     [D.arr IntKind.u8 (4 : Nat)
     [(List.take (4 : Nat) (List.drop ((IntKind.i64.wrap ((↑x : Int) - (1 : Int))).toNat * (4 : Nat)) (selL (240 : Nat) (fun (m : Nat) => decide (m < (4 : Nat) * x)) fw z240))).getD (1 : Nat) (0 : Int),
     (List.take (4 : Nat) (List.drop ((IntKind.i64.wrap ((↑x : Int) - (1 : Int))).toNat * (4 : Nat)) (selL (240 : Nat) (fun (m : Nat) => decide (m < (4 : Nat) * x)) fw z240))).getD (2 : Nat) (0 : Int),
     (List.take (4 : Nat) (List.drop ((IntKind.i64.wrap ((↑x : Int) - (1 : Int))).toNat * (4 : Nat)) (selL (240 : Nat) (fun (m : Nat) => decide (m < (4 : Nat) * x)) fw z240))).getD (3 : Nat) (0 : Int),
     (List.take (4 : Nat) (List.drop ((IntKind.i64.wrap ((↑x : Int) - (1 : Int))).toNat * (4 : Nat)) (selL (240 : Nat) (fun (m : Nat) => decide (m < (4 : Nat) * x)) fw z240))).getD (0 : Nat) (0 : Int)]] =
     [D.arr IntKind.u8 (4 : Nat) l] ∧
     isB (4 : Nat) l) ∧
     (Sk.arr (4 : Nat) = Sk.arr (4 : Nat) ∧ (4 : Nat) ≠ (0 : Nat) ∧ (4 : Nat) = (4 : Nat) ∧ false = false) ∧
     ((0 : Int) ≤ (0 : Int) ∧ (0 : Int) < (↑(4 : Nat) : Int) ∧ (4 : Nat) = (4 : Nat) ∧ (1 : Nat) = (1 : Nat)) ∧
     ((1 : Nat) ≠ (0 : Nat) ∧ (1 : Nat) = (1 : Nat) ∧ false = false) ∧
     True ∧
     True ∧
     IntKind.i64.wrap ((↑key.length : Int).tdiv (4 : Int)) ≠ (0 : Int) ∧
     True ∧
     True ∧
     (∃ (a : Nat),
     ∃ (n : Nat),
     [D.val (Value.int IntKind.u8 (2 : Int)), D.val (Value.int IntKind.u64 (IntKind.u64.wrap (IntKind.i64.wrap (IntKind.i64.wrap ((↑x : Int).tdiv (IntKind.i64.wrap ((↑key.length : Int).tdiv (4 : Int)))) - (1 : Int)))))] =
     [D.val (Value.int IntKind.u8 (↑a : Int)), D.val (Value.int IntKind.u64 (↑n : Int))] ∧
     a < (256 : Nat) ∧ n < (18446744073709551616 : Nat)) ∧
     True ∧
     ((0 : Int) ≤ (0 : Int) ∧ (0 : Int) < (↑(4 : Nat) : Int) ∧ (4 : Nat) = (4 : Nat) ∧ (1 : Nat) = (1 : Nat)) ∧
     (((0 : Nat) < (4 : Nat) ∧ ([] : List Nat) = [] ∧ true = true) ∧ (1 : Nat) ≠ (0 : Nat) ∧ (1 : Nat) = (1 : Nat) ∧ false = false) ∧
     (True ∧
     (sm
     (some
     (Blk.fix
     (D.st
     [D.arr IntKind.u8 (240 : Nat)
     (List.replicate (240 : Nat) (0 : Int)),
     D.val (Value.int IntKind.i64 (0 : Int))]))) ∧
     sm (some (Blk.fix (D.st [D.arr IntKind.u8 (240 : Nat) (selL (240 : Nat) (fun (m : Nat) => decide (m < (4 : Nat) * x)) fw z240), D.val (Value.int IntKind.i64 (↑(n + (6 : Nat)) : Int))]))) ∧
     some
     (Blk.fix
     (D.arr IntKind.u8 (4 : Nat)
     ((s4L
     [(List.take (4 : Nat) (List.drop ((IntKind.i64.wrap ((↑x : Int) - (1 : Int))).toNat * (4 : Nat)) (selL (240 : Nat) (fun (m : Nat) => decide (m < (4 : Nat) * x)) fw z240))).getD (1 : Nat) (0 : Int),
     (List.take (4 : Nat) (List.drop ((IntKind.i64.wrap ((↑x : Int) - (1 : Int))).toNat * (4 : Nat)) (selL (240 : Nat) (fun (m : Nat) => decide (m < (4 : Nat) * x)) fw z240))).getD (2 : Nat) (0 : Int),
     (List.take (4 : Nat) (List.drop ((IntKind.i64.wrap ((↑x : Int) - (1 : Int))).toNat * (4 : Nat)) (selL (240 : Nat) (fun (m : Nat) => decide (m < (4 : Nat) * x)) fw z240))).getD (3 : Nat) (0 : Int),
     (List.take (4 : Nat) (List.drop ((IntKind.i64.wrap ((↑x : Int) - (1 : Int))).toNat * (4 : Nat)) (selL (240 : Nat) (fun (m : Nat) => decide (m < (4 : Nat) * x)) fw z240))).getD (0 : Nat) (0 : Int)]).set
     (0 : Nat)
     (ixor IntKind.u8
     ((s4L
     [(List.take (4 : Nat) (List.drop ((IntKind.i64.wrap ((↑x : Int) - (1 : Int))).toNat * (4 : Nat)) (selL (240 : Nat) (fun (m : Nat) => decide (m < (4 : Nat) * x)) fw z240))).getD (1 : Nat) (0 : Int),
     (List.take (4 : Nat) (List.drop ((IntKind.i64.wrap ((↑x : Int) - (1 : Int))).toNat * (4 : Nat)) (selL (240 : Nat) (fun (m : Nat) => decide (m < (4 : Nat) * x)) fw z240))).getD (2 : Nat) (0 : Int),
     (List.take (4 : Nat) (List.drop ((IntKind.i64.wrap ((↑x : Int) - (1 : Int))).toNat * (4 : Nat)) (selL (240 : Nat) (fun (m : Nat) => decide (m < (4 : Nat) * x)) fw z240))).getD (3 : Nat) (0 : Int),
     (List.take (4 : Nat) (List.drop ((IntKind.i64.wrap ((↑x : Int) - (1 : Int))).toNat * (4 : Nat)) (selL (240 : Nat) (fun (m : Nat) => decide (m < (4 : Nat) * x)) fw z240))).getD (0 : Nat) (0 : Int)]).getD
     (0 : Nat) (0 : Int))
     (↑(gpw (2 : Nat) (IntKind.u64.wrap (IntKind.i64.wrap (IntKind.i64.wrap ((↑x : Int).tdiv (IntKind.i64.wrap ((↑key.length : Int).tdiv (4 : Int)))) - (1 : Int)))).toNat) : Int))))) =
     some (Blk.fix (D.arr IntKind.u8 (4 : Nat) (tuL n fw (↑x : Int).toNat))) ∧
     True) ∧
     true = true) ∧
     (↑(↑x : Int).toNat : Int) = (↑x : Int)
    | false =>
     True ∧
     True ∧
     True ∧
     match IntKind.i64.wrap ((↑key.length : Int).tdiv (4 : Int)) == (8 : Int) with
     | true =>
      True ∧
      (8 : Int) ≠ (0 : Int) ∧
      True ∧
      True ∧
      match (↑x : Int).tmod (8 : Int) == (4 : Int) with
      | true =>
       ((4 : Nat) ≠ (0 : Nat) ∧ (4 : Nat) = (4 : Nat) ∧ true = true) ∧
       (∃ (l : List Int), [D.arr IntKind.u8 (4 : Nat) (List.take (4 : Nat) (List.drop ((IntKind.i64.wrap ((↑x : Int) - (1 : Int))).toNat * (4 : Nat)) (selL (240 : Nat) (fun (m : Nat) => decide (m < (4 : Nat) * x)) fw z240)))] = [D.arr IntKind.u8 (4 : Nat) l] ∧ isB (4 : Nat) l) ∧
       (Sk.arr (4 : Nat) = Sk.arr (4 : Nat) ∧ (4 : Nat) ≠ (0 : Nat) ∧ (4 : Nat) = (4 : Nat) ∧ false = false) ∧
       (True ∧
       (sm
       (some
       (Blk.fix
       (D.st
       [D.arr IntKind.u8 (240 : Nat)
       (List.replicate (240 : Nat) (0 : Int)),
       D.val (Value.int IntKind.i64 (0 : Int))]))) ∧
       sm (some (Blk.fix (D.st [D.arr IntKind.u8 (240 : Nat) (selL (240 : Nat) (fun (m : Nat) => decide (m < (4 : Nat) * x)) fw z240), D.val (Value.int IntKind.i64 (↑(n + (6 : Nat)) : Int))]))) ∧
       some (Blk.fix (D.arr IntKind.u8 (4 : Nat) (s4L (List.take (4 : Nat) (List.drop ((IntKind.i64.wrap ((↑x : Int) - (1 : Int))).toNat * (4 : Nat)) (selL (240 : Nat) (fun (m : Nat) => decide (m < (4 : Nat) * x)) fw z240)))))) =
       some (Blk.fix (D.arr IntKind.u8 (4 : Nat) (tuL n fw (↑x : Int).toNat))) ∧
       True) ∧
       true = true) ∧
       (↑(↑x : Int).toNat : Int) = (↑x : Int)
      | false =>
       (True ∧
       (sm
       (some
       (Blk.fix
       (D.st
       [D.arr IntKind.u8 (240 : Nat)
       (List.replicate (240 : Nat) (0 : Int)),
       D.val (Value.int IntKind.i64 (0 : Int))]))) ∧
       sm (some (Blk.fix (D.st [D.arr IntKind.u8 (240 : Nat) (selL (240 : Nat) (fun (m : Nat) => decide (m < (4 : Nat) * x)) fw z240), D.val (Value.int IntKind.i64 (↑(n + (6 : Nat)) : Int))]))) ∧
       some (Blk.fix (D.arr IntKind.u8 (4 : Nat) (List.take (4 : Nat) (List.drop ((IntKind.i64.wrap ((↑x : Int) - (1 : Int))).toNat * (4 : Nat)) (selL (240 : Nat) (fun (m : Nat) => decide (m < (4 : Nat) * x)) fw z240))))) =
       some (Blk.fix (D.arr IntKind.u8 (4 : Nat) (tuL n fw (↑x : Int).toNat))) ∧
       True) ∧
       true = true) ∧
       (↑(↑x : Int).toNat : Int) = (↑x : Int)
     | false =>
      True ∧
      (True ∧
      (sm
      (some
      (Blk.fix
      (D.st
      [D.arr IntKind.u8 (240 : Nat)
      (List.replicate (240 : Nat) (0 : Int)),
      D.val (Value.int IntKind.i64 (0 : Int))]))) ∧
      sm (some (Blk.fix (D.st [D.arr IntKind.u8 (240 : Nat) (selL (240 : Nat) (fun (m : Nat) => decide (m < (4 : Nat) * x)) fw z240), D.val (Value.int IntKind.i64 (↑(n + (6 : Nat)) : Int))]))) ∧
      some (Blk.fix (D.arr IntKind.u8 (4 : Nat) (List.take (4 : Nat) (List.drop ((IntKind.i64.wrap ((↑x : Int) - (1 : Int))).toNat * (4 : Nat)) (selL (240 : Nat) (fun (m : Nat) => decide (m < (4 : Nat) * x)) fw z240))))) =
      some (Blk.fix (D.arr IntKind.u8 (4 : Nat) (tuL n fw (↑x : Int).toNat))) ∧
      True) ∧
      true = true) ∧
      (↑(↑x : Int).toNat : Int) = (↑x : Int)) ∧
     ∀ (z : Nat),
     (↑z : Int) = (↑x : Int) →
     true = true ∧
     True ∧
     (((AV.d (D.val (Value.int IntKind.i64 (0 : Int))) = AV.d (D.val (Value.int IntKind.i64 (↑(0 : Nat) : Int))) ∧ True) ∧
     (sm
     (some
     (Blk.fix
     (D.st
     [D.arr IntKind.u8 (240 : Nat)
     (List.replicate (240 : Nat) (0 : Int)),
     D.val (Value.int IntKind.i64 (0 : Int))]))) ∧
     some (Blk.fix (D.st [D.arr IntKind.u8 (240 : Nat) (selL (240 : Nat) (fun (m : Nat) => decide (m < (4 : Nat) * x)) fw z240), D.val (Value.int IntKind.i64 (↑(n + (6 : Nat)) : Int))])) =
     some (Blk.fix (D.st [D.arr IntKind.u8 (240 : Nat) (selL (240 : Nat) (fun (m : Nat) => decide (m < (4 : Nat) * (↑x : Int).toNat + (0 : Nat))) fw z240), D.val (Value.int IntKind.i64 (↑(n + (6 : Nat)) : Int))])) ∧
     sm (some (Blk.fix (D.arr IntKind.u8 (4 : Nat) (tuL n fw z)))) ∧ True) ∧
     true = true) ∧
     (↑(↑x : Int).toNat : Int) = (↑x : Int) ∧ (0 : Nat) ≤ (4 : Nat)) ∧
     ∀ (x_1 : Nat × Nat),
     (↑x_1.fst : Int) = (↑x : Int) ∧ x_1.snd ≤ (4 : Nat) →
     true = true ∧
     True ∧
     match decide ((↑x_1.snd : Int) < (4 : Int)) with
     | true =>
      True ∧
      True ∧
      True ∧
      True ∧
      True ∧
      True ∧
      True ∧
      True ∧
      (Sk.st [Sk.arr (240 : Nat), Sk.one] = Sk.st [Sk.arr (240 : Nat), Sk.one] ∧ (0 : Nat) < (2 : Nat)) ∧
      ((0 : Int) ≤ IntKind.i64.wrap ((↑x : Int) - IntKind.i64.wrap ((↑key.length : Int).tdiv (4 : Int))) ∧
      IntKind.i64.wrap ((↑x : Int) - IntKind.i64.wrap ((↑key.length : Int).tdiv (4 : Int))) < (↑(60 : Nat) : Int) ∧ (240 : Nat) = (240 : Nat) ∧ (4 : Nat) = (4 : Nat) ∧ (4 : Nat) ≠ (0 : Nat)) ∧
      ((0 : Int) ≤ (↑x_1.snd : Int) ∧ (↑x_1.snd : Int) < (↑(4 : Nat) : Int) ∧ (4 : Nat) = (4 : Nat) ∧ (1 : Nat) = (1 : Nat)) ∧
      ((1 : Nat) ≠ (0 : Nat) ∧ (1 : Nat) = (1 : Nat) ∧ false = false) ∧
      True ∧
      ((0 : Int) ≤ (↑x_1.snd : Int) ∧ (↑x_1.snd : Int) < (↑(4 : Nat) : Int) ∧ (4 : Nat) = (4 : Nat) ∧ (1 : Nat) = (1 : Nat)) ∧
      ((1 : Nat) ≠ (0 : Nat) ∧ (1 : Nat) = (1 : Nat) ∧ false = false) ∧
      True ∧
      (Sk.st [Sk.arr (240 : Nat), Sk.one] = Sk.st [Sk.arr (240 : Nat), Sk.one] ∧ (0 : Nat) < (2 : Nat)) ∧
      ((0 : Int) ≤ (↑x : Int) ∧ (↑x : Int) < (↑(60 : Nat) : Int) ∧ (240 : Nat) = (240 : Nat) ∧ (4 : Nat) = (4 : Nat) ∧ (4 : Nat) ≠ (0 : Nat)) ∧
      ((0 : Int) ≤ (↑x_1.snd : Int) ∧ (↑x_1.snd : Int) < (↑(4 : Nat) : Int) ∧ (4 : Nat) = (4 : Nat) ∧ (1 : Nat) = (1 : Nat)) ∧
      (((0 : Nat) < (2 : Nat) ∧ (↑x : Int).toNat * (4 : Nat) + (↑x_1.snd : Int).toNat < (240 : Nat) ∧ ([] : List Nat) = [] ∧ true = true) ∧ (1 : Nat) ≠ (0 : Nat) ∧ (1 : Nat) = (1 : Nat) ∧ false = false) ∧
      True ∧
      True ∧
      ((AV.d (D.val (Value.int IntKind.i64 (IntKind.i64.wrap ((↑x_1.snd : Int) + (1 : Int))))) = AV.d (D.val (Value.int IntKind.i64 (↑(IntKind.i64.wrap ((↑x_1.snd : Int) + (1 : Int))).toNat : Int))) ∧ True) ∧
      (sm
      (some
      (Blk.fix
      (D.st
      [D.arr IntKind.u8 (240 : Nat)
      (List.replicate (240 : Nat) (0 : Int)),
      D.val (Value.int IntKind.i64 (0 : Int))]))) ∧
      some
      (Blk.fix
      (D.st
      [D.arr IntKind.u8 (240 : Nat)
      ((selL (240 : Nat) (fun (m : Nat) => decide (m < (4 : Nat) * x_1.fst + x_1.snd)) fw z240).set ((↑x : Int).toNat * (4 : Nat) + (↑x_1.snd : Int).toNat)
      (ixor IntKind.u8
      ((selL (240 : Nat) (fun (m : Nat) => decide (m < (4 : Nat) * x_1.fst + x_1.snd)) fw z240).getD
      ((IntKind.i64.wrap ((↑x : Int) - IntKind.i64.wrap ((↑key.length : Int).tdiv (4 : Int)))).toNat * (4 : Nat) + (↑x_1.snd : Int).toNat) (0 : Int))
      ((tuL n fw z).getD (↑x_1.snd : Int).toNat (0 : Int)))),
      D.val (Value.int IntKind.i64 (↑(n + (6 : Nat)) : Int))])) =
      some
      (Blk.fix
      (D.st
      [D.arr IntKind.u8 (240 : Nat) (selL (240 : Nat) (fun (m : Nat) => decide (m < (4 : Nat) * (↑x : Int).toNat + (IntKind.i64.wrap ((↑x_1.snd : Int) + (1 : Int))).toNat)) fw z240),
      D.val (Value.int IntKind.i64 (↑(n + (6 : Nat)) : Int))])) ∧
      sm (some (Blk.fix (D.arr IntKind.u8 (4 : Nat) (tuL n fw z)))) ∧ True) ∧
      true = true) ∧
      ((↑(↑x : Int).toNat : Int) = (↑x : Int) ∧ (IntKind.i64.wrap ((↑x_1.snd : Int) + (1 : Int))).toNat ≤ (4 : Nat)) ∧ (4 : Nat) - (IntKind.i64.wrap ((↑x_1.snd : Int) + (1 : Int))).toNat < (4 : Nat) - x_1.snd
     | false =>
      True ∧
      True ∧
      ((AV.d (D.val (Value.int IntKind.i64 (IntKind.i64.wrap ((↑x : Int) + (1 : Int))))) = AV.d (D.val (Value.int IntKind.i64 (↑(IntKind.i64.wrap ((↑x : Int) + (1 : Int))).toNat : Int))) ∧ True) ∧
      (sm
      (some
      (Blk.fix
      (D.st
      [D.arr IntKind.u8 (240 : Nat)
      (List.replicate (240 : Nat) (0 : Int)),
      D.val (Value.int IntKind.i64 (0 : Int))]))) ∧
      some (Blk.fix (D.st [D.arr IntKind.u8 (240 : Nat) (selL (240 : Nat) (fun (m : Nat) => decide (m < (4 : Nat) * x_1.fst + x_1.snd)) fw z240), D.val (Value.int IntKind.i64 (↑(n + (6 : Nat)) : Int))])) =
      some (Blk.fix (D.st [D.arr IntKind.u8 (240 : Nat) (selL (240 : Nat) (fun (m : Nat) => decide (m < (4 : Nat) * (IntKind.i64.wrap ((↑x : Int) + (1 : Int))).toNat)) fw z240), D.val (Value.int IntKind.i64 (↑(n + (6 : Nat)) : Int))])) ∧
      True) ∧
      true = true) ∧
      (IntKind.i64.wrap ((↑x : Int) + (1 : Int))).toNat ≤ (4 : Nat) * (n + (7 : Nat)) ∧ (4 : Nat) * (n + (7 : Nat)) - (IntKind.i64.wrap ((↑x : Int) + (1 : Int))).toNat < (4 : Nat) * (n + (7 : Nat)) - x
  | false =>
   ((241 : Nat) ≠ (0 : Nat) ∧ (241 : Nat) = (241 : Nat) ∧ true = true) ∧
   (Sk.st [Sk.arr (240 : Nat), Sk.one] = Sk.st [Sk.arr (240 : Nat), Sk.one] ∧ (241 : Nat) ≠ (0 : Nat) ∧ (241 : Nat) = (241 : Nat) ∧ false = false) ∧
   True ∧ (((241 : Nat) ≠ (0 : Nat) ∧ (241 : Nat) = (241 : Nat) ∧ true = true) ∧ false = false ∧ True) ∧ D.tup [D.st [D.arr IntKind.u8 (240 : Nat) (selL (240 : Nat) (fun (m : Nat) => decide (m < (4 : Nat) * x)) fw z240), D.val (Value.int IntKind.i64 (↑(n + (6 : Nat)) : Int))], D.val (Value.int IntKind.i64 (0 : Int))] = F) := by kernel_rfl
set_option maxRecDepth 100000 in
theorem vc20  (key : List Int) (n : Nat) (fw : List Int) (F : D)  :
    (owedNew c20 (inv20 n fw) Try.f20 [.str key] F) = (
 True ∧
 True ∧
 True ∧
 True ∧
 True ∧
 True ∧
 match (↑key.length : Int) != (16 : Int) with
 | true =>
  True ∧
  True ∧
  True ∧
  True ∧
  True ∧
  match (↑key.length : Int) != (24 : Int) with
  | true =>
   True ∧
   True ∧
   True ∧
   True ∧
   match (↑key.length : Int) != (32 : Int) with
   | true => True ∧ True ∧ False
   | false =>
    (0 : Nat) = (0 : Nat) ∧
    (True ∧ false = false ∧ ((1 : Nat) < (3 : Nat) ∧ Sk.arr (256 : Nat) = Sk.arr (256 : Nat)) ∧ True) ∧
    True ∧
    True ∧
    true = true ∧
    true = true ∧
    True ∧
    (Sk.st [Sk.one, Sk.arr (256 : Nat), Sk.arr (256 : Nat)] = Sk.st [Sk.one, Sk.arr (256 : Nat), Sk.arr (256 : Nat)] ∧ (1 : Nat) < (3 : Nat)) ∧
    ((256 : Nat) ≠ (0 : Nat) ∧ (256 : Nat) = (256 : Nat) ∧ true = true) ∧
    (∃ (l : List Int), [D.arr IntKind.u8 (256 : Nat) boxP] = [D.arr IntKind.u8 (256 : Nat) l] ∧ okb l ∧ l.length = (256 : Nat)) ∧
    True ∧
    (Sk.st [Sk.one, Sk.arr (256 : Nat), Sk.arr (256 : Nat)] = Sk.st [Sk.one, Sk.arr (256 : Nat), Sk.arr (256 : Nat)] ∧ (2 : Nat) < (3 : Nat)) ∧
    (((2 : Nat) < (3 : Nat) ∧ Sk.arr (256 : Nat) = Sk.arr (256 : Nat)) ∧ (256 : Nat) ≠ (0 : Nat) ∧ (256 : Nat) = (256 : Nat) ∧ false = false) ∧
    True ∧
    True ∧
    (4 : Int) ≠ (0 : Int) ∧
    True ∧
    True ∧
    True ∧
    (((AV.d (D.val (Value.int IntKind.i64 (0 : Int))) = AV.d (D.val (Value.int IntKind.i64 (↑(Int.toNat (0 : Int)) : Int))) ∧ True) ∧
    (some (Blk.lnk [D.slc (4 : Nat) [], D.arr IntKind.u8 (256 : Nat) boxP, D.arr IntKind.u8 (256 : Nat) (gub boxP (256 : Nat))] (0 : Nat) (some (526 : Nat))) = some (Blk.lnk [D.slc (4 : Nat) [], D.arr IntKind.u8 (256 : Nat) boxP, D.arr IntKind.u8 (256 : Nat) boxU] (0 : Nat) (some (526 : Nat))) ∧
    some (Blk.row (39 : TypeId) (D.slc (4 : Nat) [])) = some (Blk.row (39 : TypeId) (D.slc (4 : Nat) (chunks IntKind.u8 (4 : Nat) (Int.toNat (0 : Int)) fw))) ∧ True) ∧
    true = true) ∧
    Int.toNat (0 : Int) ≤ n) ∧
    ∀ (x : Nat),
    x ≤ n →
    true = true ∧
    True ∧
    match decide ((↑x : Int) < IntKind.i64.wrap ((↑key.length : Int).tdiv (4 : Int))) with
    | true =>
     True ∧
     True ∧
     true = true ∧
     true = true ∧
     True ∧
     (Sk.st [Sk.one, Sk.arr (256 : Nat), Sk.arr (256 : Nat)] = Sk.st [Sk.one, Sk.arr (256 : Nat), Sk.arr (256 : Nat)] ∧ (0 : Nat) < (3 : Nat)) ∧
     ((1 : Nat) = (1 : Nat) ∧ false = false) ∧
     True ∧
     True ∧
     True ∧
     ((0 : Int) ≤ IntKind.i64.wrap ((4 : Int) * (↑x : Int)) ∧ IntKind.i64.wrap ((4 : Int) * (↑x : Int)) < (↑key.length : Int)) ∧
     True ∧
     True ∧
     True ∧
     True ∧
     ((0 : Int) ≤ IntKind.i64.wrap (IntKind.i64.wrap ((4 : Int) * (↑x : Int)) + (1 : Int)) ∧ IntKind.i64.wrap (IntKind.i64.wrap ((4 : Int) * (↑x : Int)) + (1 : Int)) < (↑key.length : Int)) ∧
     True ∧
     True ∧
     True ∧
     True ∧
     ((0 : Int) ≤ IntKind.i64.wrap (IntKind.i64.wrap ((4 : Int) * (↑x : Int)) + (2 : Int)) ∧ IntKind.i64.wrap (IntKind.i64.wrap ((4 : Int) * (↑x : Int)) + (2 : Int)) < (↑key.length : Int)) ∧
     True ∧
     True ∧
     True ∧
     True ∧
     ((0 : Int) ≤ IntKind.i64.wrap (IntKind.i64.wrap ((4 : Int) * (↑x : Int)) + (3 : Int)) ∧ IntKind.i64.wrap (IntKind.i64.wrap ((4 : Int) * (↑x : Int)) + (3 : Int)) < (↑key.length : Int)) ∧
     ((1 : Nat) = (1 : Nat) ∧
     false = false ∧
     ((0 : Nat) < (4 : Nat) ∧ ([] : List Nat) = [] ∧ true = true) ∧
     false = false ∧ ((1 : Nat) < (4 : Nat) ∧ ([] : List Nat) = [] ∧ true = true) ∧ false = false ∧ ((2 : Nat) < (4 : Nat) ∧ ([] : List Nat) = [] ∧ true = true) ∧ false = false ∧ ((3 : Nat) < (4 : Nat) ∧ ([] : List Nat) = [] ∧ true = true) ∧ True) ∧
     ((1 : Nat) ≤ (4096 : Nat) ∧ (4 : Nat) ≤ (256 : Nat) ∧ (4 : Nat) ≠ (0 : Nat)) ∧
     ((39 : TypeId) = (39 : TypeId) ∧
     (52 : Nat) = (52 : Nat) ∧
     true = true ∧
     (chunks IntKind.u8 (4 : Nat) x fw ++
     [D.arr IntKind.u8 (4 : Nat)
     [key.getD (IntKind.i64.wrap ((4 : Int) * (↑x : Int))).toNat (0 : Int), key.getD (IntKind.i64.wrap (IntKind.i64.wrap ((4 : Int) * (↑x : Int)) + (1 : Int))).toNat (0 : Int),
     key.getD (IntKind.i64.wrap (IntKind.i64.wrap ((4 : Int) * (↑x : Int)) + (2 : Int))).toNat (0 : Int), key.getD (IntKind.i64.wrap (IntKind.i64.wrap ((4 : Int) * (↑x : Int)) + (3 : Int))).toNat (0 : Int)]]).length ≤
     (140737488355328 : Nat) ∧
     (chunks IntKind.u8 (4 : Nat) x fw ++
     [D.arr IntKind.u8 (4 : Nat)
     [key.getD (IntKind.i64.wrap ((4 : Int) * (↑x : Int))).toNat (0 : Int), key.getD (IntKind.i64.wrap (IntKind.i64.wrap ((4 : Int) * (↑x : Int)) + (1 : Int))).toNat (0 : Int),
     key.getD (IntKind.i64.wrap (IntKind.i64.wrap ((4 : Int) * (↑x : Int)) + (2 : Int))).toNat (0 : Int), key.getD (IntKind.i64.wrap (IntKind.i64.wrap ((4 : Int) * (↑x : Int)) + (3 : Int))).toNat (0 : Int)]]).length *
     (4 : Nat) ≤
     (140737488355328 : Nat) ∧
     (4 : Nat) ≠ (0 : Nat) ∧ (4 : Nat) = (4 : Nat)) ∧
     True ∧
     (Sk.st [Sk.one, Sk.arr (256 : Nat), Sk.arr (256 : Nat)] = Sk.st [Sk.one, Sk.arr (256 : Nat), Sk.arr (256 : Nat)] ∧ (0 : Nat) < (3 : Nat)) ∧
     ((0 : Nat) = (0 : Nat) ∧ (1 : Nat) = (1 : Nat)) ∧
     True ∧
     True ∧
     ((AV.d (D.val (Value.int IntKind.i64 (IntKind.i64.wrap ((↑x : Int) + (1 : Int))))) = AV.d (D.val (Value.int IntKind.i64 (↑(IntKind.i64.wrap ((↑x : Int) + (1 : Int))).toNat : Int))) ∧ True) ∧
     (sm (some (Blk.lnk [D.slc (4 : Nat) [], D.arr IntKind.u8 (256 : Nat) boxP, D.arr IntKind.u8 (256 : Nat) boxU] (0 : Nat) (some (526 : Nat)))) ∧
     some
     (Blk.row (39 : TypeId)
     (D.slc (4 : Nat)
     (chunks IntKind.u8 (4 : Nat) x fw ++
     [D.arr IntKind.u8 (4 : Nat)
     [key.getD (IntKind.i64.wrap ((4 : Int) * (↑x : Int))).toNat (0 : Int), key.getD (IntKind.i64.wrap (IntKind.i64.wrap ((4 : Int) * (↑x : Int)) + (1 : Int))).toNat (0 : Int),
     key.getD (IntKind.i64.wrap (IntKind.i64.wrap ((4 : Int) * (↑x : Int)) + (2 : Int))).toNat (0 : Int), key.getD (IntKind.i64.wrap (IntKind.i64.wrap ((4 : Int) * (↑x : Int)) + (3 : Int))).toNat (0 : Int)]]))) =
     some (Blk.row (39 : TypeId) (D.slc (4 : Nat) (chunks IntKind.u8 (4 : Nat) (IntKind.i64.wrap ((↑x : Int) + (1 : Int))).toNat fw))) ∧
     True) ∧
     true = true) ∧
     (IntKind.i64.wrap ((↑x : Int) + (1 : Int))).toNat ≤ n ∧ n - (IntKind.i64.wrap ((↑x : Int) + (1 : Int))).toNat < n - x
    | false =>
     True ∧
     (((AV.d (D.val (Value.int IntKind.u8 (1 : Int))) = AV.d (D.val (Value.int IntKind.u8 (↑(gpw (2 : Nat) (((chunks IntKind.u8 (4 : Nat) x fw).length - (1 : Nat)) / n)) : Int))) ∧ True) ∧
     (sm (some (Blk.lnk [D.slc (4 : Nat) [], D.arr IntKind.u8 (256 : Nat) boxP, D.arr IntKind.u8 (256 : Nat) boxU] (0 : Nat) (some (526 : Nat)))) ∧
     some (Blk.row (39 : TypeId) (D.slc (4 : Nat) (chunks IntKind.u8 (4 : Nat) x fw))) = some (Blk.row (39 : TypeId) (D.slc (4 : Nat) (chunks IntKind.u8 (4 : Nat) (chunks IntKind.u8 (4 : Nat) x fw).length fw))) ∧ True) ∧
     true = true) ∧
     n ≤ (chunks IntKind.u8 (4 : Nat) x fw).length ∧ (chunks IntKind.u8 (4 : Nat) x fw).length ≤ (4 : Nat) * (n + (7 : Nat))) ∧
     ∀ (x : Nat),
     n ≤ x ∧ x ≤ (4 : Nat) * (n + (7 : Nat)) →
     true = true ∧
     true = true ∧
     True ∧
     (Sk.st [Sk.one, Sk.arr (256 : Nat), Sk.arr (256 : Nat)] = Sk.st [Sk.one, Sk.arr (256 : Nat), Sk.arr (256 : Nat)] ∧ (0 : Nat) < (3 : Nat)) ∧
     ((1 : Nat) = (1 : Nat) ∧ false = false) ∧
     True ∧
     True ∧
     True ∧
     True ∧
     True ∧
     match decide ((↑(chunks IntKind.u8 (4 : Nat) x fw).length : Int) < IntKind.i64.wrap ((4 : Int) * IntKind.i64.wrap (IntKind.i64.wrap ((↑key.length : Int).tdiv (4 : Int)) + (7 : Int)))) with
     | true =>
      true = true ∧
      True ∧
      (Sk.st [Sk.one, Sk.arr (256 : Nat), Sk.arr (256 : Nat)] = Sk.st [Sk.one, Sk.arr (256 : Nat), Sk.arr (256 : Nat)] ∧ (0 : Nat) < (3 : Nat)) ∧
      ((1 : Nat) = (1 : Nat) ∧ false = false) ∧
      True ∧
      True ∧
      true = true ∧
      True ∧
      (Sk.st [Sk.one, Sk.arr (256 : Nat), Sk.arr (256 : Nat)] = Sk.st [Sk.one, Sk.arr (256 : Nat), Sk.arr (256 : Nat)] ∧ (0 : Nat) < (3 : Nat)) ∧
      ((1 : Nat) = (1 : Nat) ∧ false = false) ∧
      True ∧
      True ∧
      True ∧
      ((0 : Int) ≤ IntKind.i64.wrap ((↑(chunks IntKind.u8 (4 : Nat) x fw).length : Int) - IntKind.i64.wrap ((↑key.length : Int).tdiv (4 : Int))) ∧
      IntKind.i64.wrap ((↑(chunks IntKind.u8 (4 : Nat) x fw).length : Int) - IntKind.i64.wrap ((↑key.length : Int).tdiv (4 : Int))) < (↑(chunks IntKind.u8 (4 : Nat) x fw).length : Int) ∧ (4 : Nat) ≠ (0 : Nat) ∧ (4 : Nat) = (4 : Nat)) ∧
      ((IntKind.i64.wrap ((↑(chunks IntKind.u8 (4 : Nat) x fw).length : Int) - IntKind.i64.wrap ((↑key.length : Int).tdiv (4 : Int)))).toNat < (chunks IntKind.u8 (4 : Nat) x fw).length ∧
      (4 : Nat) ≠ (0 : Nat) ∧
      (4 : Nat) = (4 : Nat) ∧
      D.arr IntKind.u8 (4 : Nat) (arrOf ((chunks IntKind.u8 (4 : Nat) x fw).getD (IntKind.i64.wrap ((↑(chunks IntKind.u8 (4 : Nat) x fw).length : Int) - IntKind.i64.wrap ((↑key.length : Int).tdiv (4 : Int)))).toNat (D.val (Value.bool false)))) =
      (chunks IntKind.u8 (4 : Nat) x fw).getD (IntKind.i64.wrap ((↑(chunks IntKind.u8 (4 : Nat) x fw).length : Int) - IntKind.i64.wrap ((↑key.length : Int).tdiv (4 : Int)))).toNat (D.val (Value.bool false)) ∧
      true = true) ∧
      true = true ∧
      True ∧
      (true = true ∧ Sk.st [Sk.one, Sk.arr (256 : Nat), Sk.arr (256 : Nat)] = Sk.st [Sk.one, Sk.arr (256 : Nat), Sk.arr (256 : Nat)] ∧ (0 : Nat) < (3 : Nat)) ∧
      (true = true ∧ (1 : Nat) = (1 : Nat) ∧ false = false) ∧
      True ∧
      True ∧
      (true = true ∧
      (0 : Int) ≤ IntKind.i64.wrap ((↑(chunks IntKind.u8 (4 : Nat) x fw).length : Int) - (1 : Int)) ∧
      IntKind.i64.wrap ((↑(chunks IntKind.u8 (4 : Nat) x fw).length : Int) - (1 : Int)) < (↑(chunks IntKind.u8 (4 : Nat) x fw).length : Int) ∧ (4 : Nat) ≠ (0 : Nat) ∧ (4 : Nat) = (4 : Nat)) ∧
      (true = true ∧
      (IntKind.i64.wrap ((↑(chunks IntKind.u8 (4 : Nat) x fw).length : Int) - (1 : Int))).toNat < (chunks IntKind.u8 (4 : Nat) x fw).length ∧
      (4 : Nat) ≠ (0 : Nat) ∧
      (4 : Nat) = (4 : Nat) ∧
      D.arr IntKind.u8 (4 : Nat) (arrOf ((chunks IntKind.u8 (4 : Nat) x fw).getD (IntKind.i64.wrap ((↑(chunks IntKind.u8 (4 : Nat) x fw).length : Int) - (1 : Int))).toNat (D.val (Value.bool false)))) =
      (chunks IntKind.u8 (4 : Nat) x fw).getD (IntKind.i64.wrap ((↑(chunks IntKind.u8 (4 : Nat) x fw).length : Int) - (1 : Int))).toNat (D.val (Value.bool false)) ∧
      true = true) ∧
      (True ∧ (4 : Nat) ≠ (0 : Nat)) ∧
      (True ∧ (4 : Nat) ≠ (0 : Nat)) ∧
      (true = true ∧ Sk.arr (4 : Nat) = Sk.arr (4 : Nat) ∧ (4 : Nat) ≠ (0 : Nat) ∧ (4 : Nat) = (4 : Nat) ∧ false = false) ∧
      (Sk.arr (4 : Nat) = Sk.arr (4 : Nat) ∧ (4 : Nat) ≠ (0 : Nat) ∧ (4 : Nat) = (4 : Nat) ∧ false = false) ∧
      True ∧
      True ∧
      IntKind.i64.wrap ((↑key.length : Int).tdiv (4 : Int)) ≠ (0 : Int) ∧
      True ∧
      (match (↑(chunks IntKind.u8 (4 : Nat) x fw).length : Int).tmod (IntKind.i64.wrap ((↑key.length : Int).tdiv (4 : Int))) == (0 : Int) with
      | true =>
       true = true ∧
       ((0 : Int) ≤ (1 : Int) ∧ (1 : Int) < (↑(4 : Nat) : Int) ∧ (4 : Nat) = (4 : Nat) ∧ (1 : Nat) = (1 : Nat)) ∧
       ((1 : Nat) ≠ (0 : Nat) ∧ (1 : Nat) = (1 : Nat) ∧ false = false) ∧
       True ∧
       (Sk.st [Sk.one, Sk.arr (256 : Nat), Sk.arr (256 : Nat)] = Sk.st [Sk.one, Sk.arr (256 : Nat), Sk.arr (256 : Nat)] ∧ (1 : Nat) < (3 : Nat)) ∧
       ((0 : Int) ≤ (arrOf ((chunks IntKind.u8 (4 : Nat) x fw).getD (IntKind.i64.wrap ((↑(chunks IntKind.u8 (4 : Nat) x fw).length : Int) - (1 : Int))).toNat (D.val (Value.bool false)))).getD (1 : Nat) (0 : Int) ∧
       (arrOf ((chunks IntKind.u8 (4 : Nat) x fw).getD (IntKind.i64.wrap ((↑(chunks IntKind.u8 (4 : Nat) x fw).length : Int) - (1 : Int))).toNat (D.val (Value.bool false)))).getD (1 : Nat) (0 : Int) <
       (↑(256 : Nat) : Int) ∧
       (256 : Nat) = (256 : Nat) ∧ (1 : Nat) = (1 : Nat)) ∧
       ((1 : Nat) ≠ (0 : Nat) ∧ (1 : Nat) = (1 : Nat) ∧ false = false) ∧
       True ∧
       True ∧
       true = true ∧
       ((0 : Int) ≤ (2 : Int) ∧ (2 : Int) < (↑(4 : Nat) : Int) ∧ (4 : Nat) = (4 : Nat) ∧ (1 : Nat) = (1 : Nat)) ∧
       ((1 : Nat) ≠ (0 : Nat) ∧ (1 : Nat) = (1 : Nat) ∧ false = false) ∧
       True ∧
       (Sk.st [Sk.one, Sk.arr (256 : Nat), Sk.arr (256 : Nat)] = Sk.st [Sk.one, Sk.arr (256 : Nat), Sk.arr (256 : Nat)] ∧ (1 : Nat) < (3 : Nat)) ∧
       ((0 : Int) ≤
       (arrOf ((chunks IntKind.u8 (4 : Nat) x fw).getD (IntKind.i64.wrap ((↑(chunks IntKind.u8 (4 : Nat) x fw).length : Int) - (1 : Int))).toNat (D.val (Value.bool false)))).getD (2 : Nat)
       (0 : Int) ∧
       (arrOf ((chunks IntKind.u8 (4 : Nat) x fw).getD (IntKind.i64.wrap ((↑(chunks IntKind.u8 (4 : Nat) x fw).length : Int) - (1 : Int))).toNat (D.val (Value.bool false)))).getD (2 : Nat)
       (0 : Int) <
       (↑(256 : Nat) : Int) ∧
       (256 : Nat) = (256 : Nat) ∧ (1 : Nat) = (1 : Nat)) ∧
       ((1 : Nat) ≠ (0 : Nat) ∧ (1 : Nat) = (1 : Nat) ∧ false = false) ∧
       true = true ∧
       ((0 : Int) ≤ (3 : Int) ∧ (3 : Int) < (↑(4 : Nat) : Int) ∧ (4 : Nat) = (4 : Nat) ∧ (1 : Nat) = (1 : Nat)) ∧
       ((1 : Nat) ≠ (0 : Nat) ∧ (1 : Nat) = (1 : Nat) ∧ false = false) ∧
       True ∧
       (Sk.st [Sk.one, Sk.arr (256 : Nat), Sk.arr (256 : Nat)] = Sk.st [Sk.one, Sk.arr (256 : Nat), Sk.arr (256 : Nat)] ∧ (1 : Nat) < (3 : Nat)) ∧
       ((0 : Int) ≤
       (arrOf
       ((chunks IntKind.u8 (4 : Nat) x fw).getD (IntKind.i64.wrap ((↑(chunks IntKind.u8 (4 : Nat) x fw).length : Int) - (1 : Int))).toNat
       (D.val (Value.bool false)))).getD
       (3 : Nat) (0 : Int) ∧
       (arrOf
       ((chunks IntKind.u8 (4 : Nat) x fw).getD (IntKind.i64.wrap ((↑(chunks IntKind.u8 (4 : Nat) x fw).length : Int) - (1 : Int))).toNat
       (D.val (Value.bool false)))).getD
       (3 : Nat) (0 : Int) <
       (↑(256 : Nat) : Int) ∧
       (256 : Nat) = (256 : Nat) ∧ (1 : Nat) = (1 : Nat)) ∧
       ((1 : Nat) ≠ (0 : Nat) ∧ (1 : Nat) = (1 : Nat) ∧ false = false) ∧
       true = true ∧
       ((0 : Int) ≤ (0 : Int) ∧ (0 : Int) < (↑(4 : Nat) : Int) ∧ (4 : Nat) = (4 : Nat) ∧ (1 : Nat) = (1 : Nat)) ∧
       ((1 : Nat) ≠ (0 : Nat) ∧ (1 : Nat) = (1 : Nat) ∧ false = false) ∧
       True ∧
       (Sk.st [Sk.one, Sk.arr (256 : Nat), Sk.arr (256 : Nat)] = Sk.st [Sk.one, Sk.arr (256 : Nat), Sk.arr (256 : Nat)] ∧ (1 : Nat) < (3 : Nat)) ∧
       ((0 : Int) ≤
       (arrOf
       ((chunks IntKind.u8 (4 : Nat) x fw).getD (IntKind.i64.wrap ((↑(chunks IntKind.u8 (4 : Nat) x fw).length : Int) - (1 : Int))).toNat
       (D.val (Value.bool false)))).getD
       (0 : Nat) (0 : Int) ∧
       (arrOf
       ((chunks IntKind.u8 (4 : Nat) x fw).getD (IntKind.i64.wrap ((↑(chunks IntKind.u8 (4 : Nat) x fw).length : Int) - (1 : Int))).toNat
       (D.val (Value.bool false)))).getD
       (0 : Nat) (0 : Int) <
       (↑(256 : Nat) : Int) ∧
       (256 : Nat) = (256 : Nat) ∧ (1 : Nat) = (1 : Nat)) ∧
       ((1 : Nat) ≠ (0 : Nat) ∧ (1 : Nat) = (1 : Nat) ∧ false = false) ∧
       ((1 : Nat) = (1 : Nat) ∧
       false = false ∧
       ((0 : Nat) < (4 : Nat) ∧ ([] : List Nat) = [] ∧ true = true) ∧
       false = false ∧
       ((1 : Nat) < (4 : Nat) ∧ ([] : List Nat) = [] ∧ true = true) ∧
       false = false ∧ ((2 : Nat) < (4 : Nat) ∧ ([] : List Nat) = [] ∧ true = true) ∧ false = false ∧ ((3 : Nat) < (4 : Nat) ∧ ([] : List Nat) = [] ∧ true = true) ∧ True) ∧
       (Sk.arr (4 : Nat) = Sk.arr (4 : Nat) ∧ (4 : Nat) ≠ (0 : Nat) ∧ (4 : Nat) = (4 : Nat) ∧ false = false) ∧
       True ∧
       (∃ (a : Nat),
       ∃ (b : Nat),
       [D.val (Value.int IntKind.u8 (↑(gpw (2 : Nat) ((x - (1 : Nat)) / n)) : Int)), D.val (Value.int IntKind.u8 (2 : Int))] =
       [D.val (Value.int IntKind.u8 (↑a : Int)), D.val (Value.int IntKind.u8 (↑b : Int))] ∧
       a < (256 : Nat) ∧ b < (256 : Nat)) ∧
       True ∧
       ((AV.d (D.val (Value.int IntKind.u8 (↑(gm (↑(gpw (2 : Nat) ((x - (1 : Nat)) / n)) : Int).toNat (2 : Nat)) : Int))) =
       AV.d (D.val (Value.int IntKind.u8 (↑(gpw (2 : Nat) ((↑(chunks IntKind.u8 (4 : Nat) x fw).length : Int).toNat / n)) : Int))) ∧
       True) ∧
       (sm
       (some
       (Blk.fix
       (D.arr IntKind.u8 (4 : Nat)
       (arrOf
       ((chunks IntKind.u8 (4 : Nat) x fw).getD
       (IntKind.i64.wrap
       ((↑(chunks IntKind.u8 (4 : Nat) x fw).length : Int) - IntKind.i64.wrap ((↑key.length : Int).tdiv (4 : Int)))).toNat
       (D.val (Value.bool false))))))) ∧
       some
       (Blk.fix
       (D.arr IntKind.u8 (4 : Nat)
       [ixor IntKind.u8
       (boxP.getD
       ((arrOf
       ((chunks IntKind.u8 (4 : Nat) x fw).getD
       (IntKind.i64.wrap ((↑(chunks IntKind.u8 (4 : Nat) x fw).length : Int) - (1 : Int))).toNat
       (D.val (Value.bool false)))).getD
       (1 : Nat) (0 : Int)).toNat
       (0 : Int))
       (↑(gpw (2 : Nat) ((x - (1 : Nat)) / n)) : Int),
       boxP.getD
       ((arrOf
       ((chunks IntKind.u8 (4 : Nat) x fw).getD
       (IntKind.i64.wrap ((↑(chunks IntKind.u8 (4 : Nat) x fw).length : Int) - (1 : Int))).toNat
       (D.val (Value.bool false)))).getD
       (2 : Nat) (0 : Int)).toNat
       (0 : Int),
       boxP.getD
       ((arrOf
       ((chunks IntKind.u8 (4 : Nat) x fw).getD
       (IntKind.i64.wrap ((↑(chunks IntKind.u8 (4 : Nat) x fw).length : Int) - (1 : Int))).toNat
       (D.val (Value.bool false)))).getD
       (3 : Nat) (0 : Int)).toNat
       (0 : Int),
       boxP.getD
       ((arrOf
       ((chunks IntKind.u8 (4 : Nat) x fw).getD
       (IntKind.i64.wrap ((↑(chunks IntKind.u8 (4 : Nat) x fw).length : Int) - (1 : Int))).toNat
       (D.val (Value.bool false)))).getD
       (0 : Nat) (0 : Int)).toNat
       (0 : Int)])) =
       some (Blk.fix (D.arr IntKind.u8 (4 : Nat) (tuL n fw (↑(chunks IntKind.u8 (4 : Nat) x fw).length : Int).toNat))) ∧
       sm
       (some
       (Blk.lnk [D.slc (4 : Nat) [], D.arr IntKind.u8 (256 : Nat) boxP, D.arr IntKind.u8 (256 : Nat) boxU] (0 : Nat)
       (some (526 : Nat)))) ∧
       sm (some (Blk.row (39 : TypeId) (D.slc (4 : Nat) (chunks IntKind.u8 (4 : Nat) x fw)))) ∧ True) ∧
       true = true) ∧
       (↑(↑(chunks IntKind.u8 (4 : Nat) x fw).length : Int).toNat : Int) = (↑(chunks IntKind.u8 (4 : Nat) x fw).length : Int)
      | false =>
       True ∧
       True ∧
       True ∧
       match IntKind.i64.wrap ((↑key.length : Int).tdiv (4 : Int)) == (8 : Int) with
       | true =>
        True ∧
        (8 : Int) ≠ (0 : Int) ∧
        True ∧
        True ∧
        match (↑(chunks IntKind.u8 (4 : Nat) x fw).length : Int).tmod (8 : Int) == (4 : Int) with
        | true =>
         true = true ∧
         ((0 : Int) ≤ (0 : Int) ∧ (0 : Int) < (↑(4 : Nat) : Int) ∧ (4 : Nat) = (4 : Nat) ∧ (1 : Nat) = (1 : Nat)) ∧
         ((1 : Nat) ≠ (0 : Nat) ∧ (1 : Nat) = (1 : Nat) ∧ false = false) ∧
         True ∧
         (Sk.st [Sk.one, Sk.arr (256 : Nat), Sk.arr (256 : Nat)] = Sk.st [Sk.one, Sk.arr (256 : Nat), Sk.arr (256 : Nat)] ∧ (1 : Nat) < (3 : Nat)) ∧
         ((0 : Int) ≤
         (arrOf ((chunks IntKind.u8 (4 : Nat) x fw).getD (IntKind.i64.wrap ((↑(chunks IntKind.u8 (4 : Nat) x fw).length : Int) - (1 : Int))).toNat (D.val (Value.bool false)))).getD (0 : Nat)
         (0 : Int) ∧
         (arrOf ((chunks IntKind.u8 (4 : Nat) x fw).getD (IntKind.i64.wrap ((↑(chunks IntKind.u8 (4 : Nat) x fw).length : Int) - (1 : Int))).toNat (D.val (Value.bool false)))).getD (0 : Nat)
         (0 : Int) <
         (↑(256 : Nat) : Int) ∧
         (256 : Nat) = (256 : Nat) ∧ (1 : Nat) = (1 : Nat)) ∧
         ((1 : Nat) ≠ (0 : Nat) ∧ (1 : Nat) = (1 : Nat) ∧ false = false) ∧
         true = true ∧
         ((0 : Int) ≤ (1 : Int) ∧ (1 : Int) < (↑(4 : Nat) : Int) ∧ (4 : Nat) = (4 : Nat) ∧ (1 : Nat) = (1 : Nat)) ∧
         ((1 : Nat) ≠ (0 : Nat) ∧ (1 : Nat) = (1 : Nat) ∧ false = false) ∧
         True ∧
         (Sk.st [Sk.one, Sk.arr (256 : Nat), Sk.arr (256 : Nat)] = Sk.st [Sk.one, Sk.arr (256 : Nat), Sk.arr (256 : Nat)] ∧ (1 : Nat) < (3 : Nat)) ∧
         ((0 : Int) ≤
         (arrOf
         ((chunks IntKind.u8 (4 : Nat) x fw).getD (IntKind.i64.wrap ((↑(chunks IntKind.u8 (4 : Nat) x fw).length : Int) - (1 : Int))).toNat
         (D.val (Value.bool false)))).getD
         (1 : Nat) (0 : Int) ∧
         (arrOf
         ((chunks IntKind.u8 (4 : Nat) x fw).getD (IntKind.i64.wrap ((↑(chunks IntKind.u8 (4 : Nat) x fw).length : Int) - (1 : Int))).toNat
         (D.val (Value.bool false)))).getD
         (1 : Nat) (0 : Int) <
         (↑(256 : Nat) : Int) ∧
         (256 : Nat) = (256 : Nat) ∧ (1 : Nat) = (1 : Nat)) ∧
         ((1 : Nat) ≠ (0 : Nat) ∧ (1 : Nat) = (1 : Nat) ∧ false = false) ∧
         true = true ∧
         ((0 : Int) ≤ (2 : Int) ∧ (2 : Int) < (↑(4 : Nat) : Int) ∧ (4 : Nat) = (4 : Nat) ∧ (1 : Nat) = (1 : Nat)) ∧
         ((1 : Nat) ≠ (0 : Nat) ∧ (1 : Nat) = (1 : Nat) ∧ false = false) ∧
         True ∧
         (Sk.st [Sk.one, Sk.arr (256 : Nat), Sk.arr (256 : Nat)] = Sk.st [Sk.one, Sk.arr (256 : Nat), Sk.arr (256 : Nat)] ∧ (1 : Nat) < (3 : Nat)) ∧
         ((0 : Int) ≤
         (arrOf
         ((chunks IntKind.u8 (4 : Nat) x fw).getD (IntKind.i64.wrap ((↑(chunks IntKind.u8 (4 : Nat) x fw).length : Int) - (1 : Int))).toNat
         (D.val (Value.bool false)))).getD
         (2 : Nat) (0 : Int) ∧
         (arrOf
         ((chunks IntKind.u8 (4 : Nat) x fw).getD (IntKind.i64.wrap ((↑(chunks IntKind.u8 (4 : Nat) x fw).length : Int) - (1 : Int))).toNat
         (D.val (Value.bool false)))).getD
         (2 : Nat) (0 : Int) <
         (↑(256 : Nat) : Int) ∧
         (256 : Nat) = (256 : Nat) ∧ (1 : Nat) = (1 : Nat)) ∧
         ((1 : Nat) ≠ (0 : Nat) ∧ (1 : Nat) = (1 : Nat) ∧ false = false) ∧
         true = true ∧
         ((0 : Int) ≤ (3 : Int) ∧ (3 : Int) < (↑(4 : Nat) : Int) ∧ (4 : Nat) = (4 : Nat) ∧ (1 : Nat) = (1 : Nat)) ∧
         ((1 : Nat) ≠ (0 : Nat) ∧ (1 : Nat) = (1 : Nat) ∧ false = false) ∧
         True ∧
         (Sk.st [Sk.one, Sk.arr (256 : Nat), Sk.arr (256 : Nat)] = Sk.st [Sk.one, Sk.arr (256 : Nat), Sk.arr (256 : Nat)] ∧ (1 : Nat) < (3 : Nat)) ∧
         ((0 : Int) ≤
         (arrOf
         ((chunks IntKind.u8 (4 : Nat) x fw).getD (IntKind.i64.wrap ((↑(chunks IntKind.u8 (4 : Nat) x fw).length : Int) - (1 : Int))).toNat
         (D.val (Value.bool false)))).getD
         (3 : Nat) (0 : Int) ∧
         (arrOf
         ((chunks IntKind.u8 (4 : Nat) x fw).getD (IntKind.i64.wrap ((↑(chunks IntKind.u8 (4 : Nat) x fw).length : Int) - (1 : Int))).toNat
         (D.val (Value.bool false)))).getD
         (3 : Nat) (0 : Int) <
         (↑(256 : Nat) : Int) ∧
         (256 : Nat) = (256 : Nat) ∧ (1 : Nat) = (1 : Nat)) ∧
         ((1 : Nat) ≠ (0 : Nat) ∧ (1 : Nat) = (1 : Nat) ∧ false = false) ∧
         ((1 : Nat) = (1 : Nat) ∧
         false = false ∧
         ((0 : Nat) < (4 : Nat) ∧ ([] : List Nat) = [] ∧ true = true) ∧
         false = false ∧
         ((1 : Nat) < (4 : Nat) ∧ ([] : List Nat) = [] ∧ true = true) ∧
         false = false ∧
         ((2 : Nat) < (4 : Nat) ∧ ([] : List Nat) = [] ∧ true = true) ∧ false = false ∧ ((3 : Nat) < (4 : Nat) ∧ ([] : List Nat) = [] ∧ true = true) ∧ True) ∧
         (Sk.arr (4 : Nat) = Sk.arr (4 : Nat) ∧ (4 : Nat) ≠ (0 : Nat) ∧ (4 : Nat) = (4 : Nat) ∧ false = false) ∧
         ((AV.d (D.val (Value.int IntKind.u8 (↑(gpw (2 : Nat) ((x - (1 : Nat)) / n)) : Int))) =
         AV.d (D.val (Value.int IntKind.u8 (↑(gpw (2 : Nat) ((↑(chunks IntKind.u8 (4 : Nat) x fw).length : Int).toNat / n)) : Int))) ∧
         True) ∧
         (sm
         (some
         (Blk.fix
         (D.arr IntKind.u8 (4 : Nat)
         (arrOf
         ((chunks IntKind.u8 (4 : Nat) x fw).getD
         (IntKind.i64.wrap
         ((↑(chunks IntKind.u8 (4 : Nat) x fw).length : Int) -
         IntKind.i64.wrap ((↑key.length : Int).tdiv (4 : Int)))).toNat
         (D.val (Value.bool false))))))) ∧
         some
         (Blk.fix
         (D.arr IntKind.u8 (4 : Nat)
         [boxP.getD
         ((arrOf
         ((chunks IntKind.u8 (4 : Nat) x fw).getD
         (IntKind.i64.wrap ((↑(chunks IntKind.u8 (4 : Nat) x fw).length : Int) - (1 : Int))).toNat
         (D.val (Value.bool false)))).getD
         (0 : Nat) (0 : Int)).toNat
         (0 : Int),
         boxP.getD
         ((arrOf
         ((chunks IntKind.u8 (4 : Nat) x fw).getD
         (IntKind.i64.wrap ((↑(chunks IntKind.u8 (4 : Nat) x fw).length : Int) - (1 : Int))).toNat
         (D.val (Value.bool false)))).getD
         (1 : Nat) (0 : Int)).toNat
         (0 : Int),
         boxP.getD
         ((arrOf
         ((chunks IntKind.u8 (4 : Nat) x fw).getD
         (IntKind.i64.wrap ((↑(chunks IntKind.u8 (4 : Nat) x fw).length : Int) - (1 : Int))).toNat
         (D.val (Value.bool false)))).getD
         (2 : Nat) (0 : Int)).toNat
         (0 : Int),
         boxP.getD
         ((arrOf
         ((chunks IntKind.u8 (4 : Nat) x fw).getD
         (IntKind.i64.wrap ((↑(chunks IntKind.u8 (4 : Nat) x fw).length : Int) - (1 : Int))).toNat
         (D.val (Value.bool false)))).getD
         (3 : Nat) (0 : Int)).toNat
         (0 : Int)])) =
         some (Blk.fix (D.arr IntKind.u8 (4 : Nat) (tuL n fw (↑(chunks IntKind.u8 (4 : Nat) x fw).length : Int).toNat))) ∧
         sm
         (some
         (Blk.lnk [D.slc (4 : Nat) [], D.arr IntKind.u8 (256 : Nat) boxP, D.arr IntKind.u8 (256 : Nat) boxU] (0 : Nat)
         (some (526 : Nat)))) ∧
         sm (some (Blk.row (39 : TypeId) (D.slc (4 : Nat) (chunks IntKind.u8 (4 : Nat) x fw)))) ∧ True) ∧
         true = true) ∧
         (↑(↑(chunks IntKind.u8 (4 : Nat) x fw).length : Int).toNat : Int) = (↑(chunks IntKind.u8 (4 : Nat) x fw).length : Int)
        | false =>
         ((AV.d (D.val (Value.int IntKind.u8 (↑(gpw (2 : Nat) ((x - (1 : Nat)) / n)) : Int))) =
         AV.d (D.val (Value.int IntKind.u8 (↑(gpw (2 : Nat) ((↑(chunks IntKind.u8 (4 : Nat) x fw).length : Int).toNat / n)) : Int))) ∧
         True) ∧
         (sm
         (some
         (Blk.fix
         (D.arr IntKind.u8 (4 : Nat)
         (arrOf
         ((chunks IntKind.u8 (4 : Nat) x fw).getD (IntKind.i64.wrap ((↑(chunks IntKind.u8 (4 : Nat) x fw).length : Int) - IntKind.i64.wrap ((↑key.length : Int).tdiv (4 : Int)))).toNat
         (D.val (Value.bool false))))))) ∧
         some
         (Blk.fix
         (D.arr IntKind.u8 (4 : Nat)
         (arrOf ((chunks IntKind.u8 (4 : Nat) x fw).getD (IntKind.i64.wrap ((↑(chunks IntKind.u8 (4 : Nat) x fw).length : Int) - (1 : Int))).toNat (D.val (Value.bool false)))))) =
         some (Blk.fix (D.arr IntKind.u8 (4 : Nat) (tuL n fw (↑(chunks IntKind.u8 (4 : Nat) x fw).length : Int).toNat))) ∧
         sm (some (Blk.lnk [D.slc (4 : Nat) [], D.arr IntKind.u8 (256 : Nat) boxP, D.arr IntKind.u8 (256 : Nat) boxU] (0 : Nat) (some (526 : Nat)))) ∧
         sm (some (Blk.row (39 : TypeId) (D.slc (4 : Nat) (chunks IntKind.u8 (4 : Nat) x fw)))) ∧ True) ∧
         true = true) ∧
         (↑(↑(chunks IntKind.u8 (4 : Nat) x fw).length : Int).toNat : Int) = (↑(chunks IntKind.u8 (4 : Nat) x fw).length : Int)
       | false =>
        True ∧
        ((AV.d (D.val (Value.int IntKind.u8 (↑(gpw (2 : Nat) ((x - (1 : Nat)) / n)) : Int))) =
        AV.d (D.val (Value.int IntKind.u8 (↑(gpw (2 : Nat) ((↑(chunks IntKind.u8 (4 : Nat) x fw).length : Int).toNat / n)) : Int))) ∧
        True) ∧
        (sm
        (some
        (Blk.fix
        (D.arr IntKind.u8 (4 : Nat)
        (arrOf
        ((chunks IntKind.u8 (4 : Nat) x fw).getD (IntKind.i64.wrap ((↑(chunks IntKind.u8 (4 : Nat) x fw).length : Int) - IntKind.i64.wrap ((↑key.length : Int).tdiv (4 : Int)))).toNat
        (D.val (Value.bool false))))))) ∧
        some
        (Blk.fix
        (D.arr IntKind.u8 (4 : Nat)
        (arrOf ((chunks IntKind.u8 (4 : Nat) x fw).getD (IntKind.i64.wrap ((↑(chunks IntKind.u8 (4 : Nat) x fw).length : Int) - (1 : Int))).toNat (D.val (Value.bool false)))))) =
        some (Blk.fix (D.arr IntKind.u8 (4 : Nat) (tuL n fw (↑(chunks IntKind.u8 (4 : Nat) x fw).length : Int).toNat))) ∧
        sm (some (Blk.lnk [D.slc (4 : Nat) [], D.arr IntKind.u8 (256 : Nat) boxP, D.arr IntKind.u8 (256 : Nat) boxU] (0 : Nat) (some (526 : Nat)))) ∧
        sm (some (Blk.row (39 : TypeId) (D.slc (4 : Nat) (chunks IntKind.u8 (4 : Nat) x fw)))) ∧ True) ∧
        true = true) ∧
        (↑(↑(chunks IntKind.u8 (4 : Nat) x fw).length : Int).toNat : Int) = (↑(chunks IntKind.u8 (4 : Nat) x fw).length : Int)) ∧
       ∀ (z : Nat),
       (↑z : Int) = (↑(chunks IntKind.u8 (4 : Nat) x fw).length : Int) →
       true = true ∧
       true = true ∧
       true = true ∧
       True ∧
       (Sk.st [Sk.one, Sk.arr (256 : Nat), Sk.arr (256 : Nat)] = Sk.st [Sk.one, Sk.arr (256 : Nat), Sk.arr (256 : Nat)] ∧ (0 : Nat) < (3 : Nat)) ∧
       ((1 : Nat) = (1 : Nat) ∧ false = false) ∧
       ((0 : Int) ≤ (0 : Int) ∧ (0 : Int) < (↑(4 : Nat) : Int) ∧ (4 : Nat) = (4 : Nat) ∧ (1 : Nat) = (1 : Nat)) ∧
       ((1 : Nat) ≠ (0 : Nat) ∧ (1 : Nat) = (1 : Nat) ∧ false = false) ∧
       ((0 : Int) ≤ (0 : Int) ∧ (0 : Int) < (↑(4 : Nat) : Int) ∧ (4 : Nat) = (4 : Nat) ∧ (1 : Nat) = (1 : Nat)) ∧
       ((1 : Nat) ≠ (0 : Nat) ∧ (1 : Nat) = (1 : Nat) ∧ false = false) ∧
       True ∧
       ((0 : Int) ≤ (1 : Int) ∧ (1 : Int) < (↑(4 : Nat) : Int) ∧ (4 : Nat) = (4 : Nat) ∧ (1 : Nat) = (1 : Nat)) ∧
       ((1 : Nat) ≠ (0 : Nat) ∧ (1 : Nat) = (1 : Nat) ∧ false = false) ∧
       ((0 : Int) ≤ (1 : Int) ∧ (1 : Int) < (↑(4 : Nat) : Int) ∧ (4 : Nat) = (4 : Nat) ∧ (1 : Nat) = (1 : Nat)) ∧
       ((1 : Nat) ≠ (0 : Nat) ∧ (1 : Nat) = (1 : Nat) ∧ false = false) ∧
       True ∧
       ((0 : Int) ≤ (2 : Int) ∧ (2 : Int) < (↑(4 : Nat) : Int) ∧ (4 : Nat) = (4 : Nat) ∧ (1 : Nat) = (1 : Nat)) ∧
       ((1 : Nat) ≠ (0 : Nat) ∧ (1 : Nat) = (1 : Nat) ∧ false = false) ∧
       ((0 : Int) ≤ (2 : Int) ∧ (2 : Int) < (↑(4 : Nat) : Int) ∧ (4 : Nat) = (4 : Nat) ∧ (1 : Nat) = (1 : Nat)) ∧
       ((1 : Nat) ≠ (0 : Nat) ∧ (1 : Nat) = (1 : Nat) ∧ false = false) ∧
       True ∧
       ((0 : Int) ≤ (3 : Int) ∧ (3 : Int) < (↑(4 : Nat) : Int) ∧ (4 : Nat) = (4 : Nat) ∧ (1 : Nat) = (1 : Nat)) ∧
       ((1 : Nat) ≠ (0 : Nat) ∧ (1 : Nat) = (1 : Nat) ∧ false = false) ∧
       ((0 : Int) ≤ (3 : Int) ∧ (3 : Int) < (↑(4 : Nat) : Int) ∧ (4 : Nat) = (4 : Nat) ∧ (1 : Nat) = (1 : Nat)) ∧
       ((1 : Nat) ≠ (0 : Nat) ∧ (1 : Nat) = (1 : Nat) ∧ false = false) ∧
       True ∧
       ((1 : Nat) = (1 : Nat) ∧
       false = false ∧
       ((0 : Nat) < (4 : Nat) ∧ ([] : List Nat) = [] ∧ true = true) ∧
       false = false ∧
       ((1 : Nat) < (4 : Nat) ∧ ([] : List Nat) = [] ∧ true = true) ∧
       false = false ∧ ((2 : Nat) < (4 : Nat) ∧ ([] : List Nat) = [] ∧ true = true) ∧ false = false ∧ ((3 : Nat) < (4 : Nat) ∧ ([] : List Nat) = [] ∧ true = true) ∧ True) ∧
       ((1 : Nat) ≤ (4096 : Nat) ∧ (4 : Nat) ≤ (256 : Nat) ∧ (4 : Nat) ≠ (0 : Nat)) ∧
       ((39 : TypeId) = (39 : TypeId) ∧
       (52 : Nat) = (52 : Nat) ∧
       true = true ∧
       (chunks IntKind.u8 (4 : Nat) x fw ++
       [D.arr IntKind.u8 (4 : Nat)
       [ixor IntKind.u8
       ((arrOf
       ((chunks IntKind.u8 (4 : Nat) x fw).getD
       (IntKind.i64.wrap
       ((↑(chunks IntKind.u8 (4 : Nat) x fw).length : Int) - IntKind.i64.wrap ((↑key.length : Int).tdiv (4 : Int)))).toNat
       (D.val (Value.bool false)))).getD
       (0 : Nat) (0 : Int))
       ((tuL n fw z).getD (0 : Nat) (0 : Int)),
       ixor IntKind.u8
       ((arrOf
       ((chunks IntKind.u8 (4 : Nat) x fw).getD
       (IntKind.i64.wrap
       ((↑(chunks IntKind.u8 (4 : Nat) x fw).length : Int) - IntKind.i64.wrap ((↑key.length : Int).tdiv (4 : Int)))).toNat
       (D.val (Value.bool false)))).getD
       (1 : Nat) (0 : Int))
       ((tuL n fw z).getD (1 : Nat) (0 : Int)),
       ixor IntKind.u8
       ((arrOf
       ((chunks IntKind.u8 (4 : Nat) x fw).getD
       (IntKind.i64.wrap
       ((↑(chunks IntKind.u8 (4 : Nat) x fw).length : Int) - IntKind.i64.wrap ((↑key.length : Int).tdiv (4 : Int)))).toNat
       (D.val (Value.bool false)))).getD
       (2 : Nat) (0 : Int))
       ((tuL n fw z).getD (2 : Nat) (0 : Int)),
       ixor IntKind.u8
       ((arrOf
       ((chunks IntKind.u8 (4 : Nat) x fw).getD
       (IntKind.i64.wrap
       ((↑(chunks IntKind.u8 (4 : Nat) x fw).length : Int) - IntKind.i64.wrap ((↑key.length : Int).tdiv (4 : Int)))).toNat
       (D.val (Value.bool false)))).getD
       (3 : Nat) (0 : Int))
       ((tuL n fw z).getD (3 : Nat) (0 : Int))]]).length ≤
       (140737488355328 : Nat) ∧
       (chunks IntKind.u8 (4 : Nat) x fw ++
       [D.arr IntKind.u8 (4 : Nat)
       [ixor IntKind.u8
       ((arrOf
       ((chunks IntKind.u8 (4 : Nat) x fw).getD
       (IntKind.i64.wrap
       ((↑(chunks IntKind.u8 (4 : Nat) x fw).length : Int) - IntKind.i64.wrap ((↑key.length : Int).tdiv (4 : Int)))).toNat
       (D.val (Value.bool false)))).getD
       (0 : Nat) (0 : Int))
       ((tuL n fw z).getD (0 : Nat) (0 : Int)),
       ixor IntKind.u8
       ((arrOf
       ((chunks IntKind.u8 (4 : Nat) x fw).getD
       (IntKind.i64.wrap
       ((↑(chunks IntKind.u8 (4 : Nat) x fw).length : Int) - IntKind.i64.wrap ((↑key.length : Int).tdiv (4 : Int)))).toNat
       (D.val (Value.bool false)))).getD
       (1 : Nat) (0 : Int))
       ((tuL n fw z).getD (1 : Nat) (0 : Int)),
       ixor IntKind.u8
       ((arrOf
       ((chunks IntKind.u8 (4 : Nat) x fw).getD
       (IntKind.i64.wrap
       ((↑(chunks IntKind.u8 (4 : Nat) x fw).length : Int) - IntKind.i64.wrap ((↑key.length : Int).tdiv (4 : Int)))).toNat
       (D.val (Value.bool false)))).getD
       (2 : Nat) (0 : Int))
       ((tuL n fw z).getD (2 : Nat) (0 : Int)),
       ixor IntKind.u8
       ((arrOf
       ((chunks IntKind.u8 (4 : Nat) x fw).getD
       (IntKind.i64.wrap
       ((↑(chunks IntKind.u8 (4 : Nat) x fw).length : Int) - IntKind.i64.wrap ((↑key.length : Int).tdiv (4 : Int)))).toNat
       (D.val (Value.bool false)))).getD
       (3 : Nat) (0 : Int))
       ((tuL n fw z).getD (3 : Nat) (0 : Int))]]).length *
       (4 : Nat) ≤
       (140737488355328 : Nat) ∧
       (4 : Nat) ≠ (0 : Nat) ∧ (4 : Nat) = (4 : Nat)) ∧
       True ∧
       (Sk.st [Sk.one, Sk.arr (256 : Nat), Sk.arr (256 : Nat)] = Sk.st [Sk.one, Sk.arr (256 : Nat), Sk.arr (256 : Nat)] ∧ (0 : Nat) < (3 : Nat)) ∧
       ((0 : Nat) = (0 : Nat) ∧ (1 : Nat) = (1 : Nat)) ∧
       ((AV.d (D.val (Value.int IntKind.u8 (↑(gpw (2 : Nat) (z / n)) : Int))) =
       AV.d
       (D.val
       (Value.int IntKind.u8
       (↑(gpw (2 : Nat)
       (((chunks IntKind.u8 (4 : Nat) x fw ++
       [D.arr IntKind.u8 (4 : Nat)
       [ixor IntKind.u8
       ((arrOf
       ((chunks IntKind.u8 (4 : Nat) x fw).getD
       (IntKind.i64.wrap
       ((↑(chunks IntKind.u8 (4 : Nat) x fw).length : Int) -
       IntKind.i64.wrap ((↑key.length : Int).tdiv (4 : Int)))).toNat
       (D.val (Value.bool false)))).getD
       (0 : Nat) (0 : Int))
       ((tuL n fw z).getD (0 : Nat) (0 : Int)),
       ixor IntKind.u8
       ((arrOf
       ((chunks IntKind.u8 (4 : Nat) x fw).getD
       (IntKind.i64.wrap
       ((↑(chunks IntKind.u8 (4 : Nat) x fw).length : Int) -
       IntKind.i64.wrap ((↑key.length : Int).tdiv (4 : Int)))).toNat
       (D.val (Value.bool false)))).getD
       (1 : Nat) (0 : Int))
       ((tuL n fw z).getD (1 : Nat) (0 : Int)),
       ixor IntKind.u8
       ((arrOf
       ((chunks IntKind.u8 (4 : Nat) x fw).getD
       (IntKind.i64.wrap
       ((↑(chunks IntKind.u8 (4 : Nat) x fw).length : Int) -
       IntKind.i64.wrap ((↑key.length : Int).tdiv (4 : Int)))).toNat
       (D.val (Value.bool false)))).getD
       (2 : Nat) (0 : Int))
       ((tuL n fw z).getD (2 : Nat) (0 : Int)),
       ixor IntKind.u8
       ((arrOf
       ((chunks IntKind.u8 (4 : Nat) x fw).getD
       (IntKind.i64.wrap
       ((↑(chunks IntKind.u8 (4 : Nat) x fw).length : Int) -
       IntKind.i64.wrap ((↑key.length : Int).tdiv (4 : Int)))).toNat
       (D.val (Value.bool false)))).getD
       (3 : Nat) (0 : Int))
       ((tuL n fw z).getD (3 : Nat) (0 : Int))]]).length -
       (1 : Nat)) /
       n)) :
       Int))) ∧
       True) ∧
       (sm (some (Blk.lnk [D.slc (4 : Nat) [], D.arr IntKind.u8 (256 : Nat) boxP, D.arr IntKind.u8 (256 : Nat) boxU] (0 : Nat) (some (526 : Nat)))) ∧
       some
       (Blk.row (39 : TypeId)
       (D.slc (4 : Nat)
       (chunks IntKind.u8 (4 : Nat) x fw ++
       [D.arr IntKind.u8 (4 : Nat)
       [ixor IntKind.u8
       ((arrOf
       ((chunks IntKind.u8 (4 : Nat) x fw).getD
       (IntKind.i64.wrap
       ((↑(chunks IntKind.u8 (4 : Nat) x fw).length : Int) -
       IntKind.i64.wrap ((↑key.length : Int).tdiv (4 : Int)))).toNat
       (D.val (Value.bool false)))).getD
       (0 : Nat) (0 : Int))
       ((tuL n fw z).getD (0 : Nat) (0 : Int)),
       ixor IntKind.u8
       ((arrOf
       ((chunks IntKind.u8 (4 : Nat) x fw).getD
       (IntKind.i64.wrap
       ((↑(chunks IntKind.u8 (4 : Nat) x fw).length : Int) -
       IntKind.i64.wrap ((↑key.length : Int).tdiv (4 : Int)))).toNat
       (D.val (Value.bool false)))).getD
       (1 : Nat) (0 : Int))
       ((tuL n fw z).getD (1 : Nat) (0 : Int)),
       ixor IntKind.u8
       ((arrOf
       ((chunks IntKind.u8 (4 : Nat) x fw).getD
       (IntKind.i64.wrap
       ((↑(chunks IntKind.u8 (4 : Nat) x fw).length : Int) -
       IntKind.i64.wrap ((↑key.length : Int).tdiv (4 : Int)))).toNat
       (D.val (Value.bool false)))).getD
       (2 : Nat) (0 : Int))
       ((tuL n fw z).getD (2 : Nat) (0 : Int)),
       ixor IntKind.u8
       ((arrOf
       ((chunks IntKind.u8 (4 : Nat) x fw).getD
       (IntKind.i64.wrap
       ((↑(chunks IntKind.u8 (4 : Nat) x fw).length : Int) -
       IntKind.i64.wrap ((↑key.length : Int).tdiv (4 : Int)))).toNat
       (D.val (Value.bool false)))).getD
       (3 : Nat) (0 : Int))
       ((tuL n fw z).getD (3 : Nat) (0 : Int))]]))) =
       some
       (Blk.row (39 : TypeId)
       (D.slc (4 : Nat)
       (chunks IntKind.u8 (4 : Nat)
       (chunks IntKind.u8 (4 : Nat) x fw ++
       [D.arr IntKind.u8 (4 : Nat)
       [ixor IntKind.u8
       ((arrOf
       ((chunks IntKind.u8 (4 : Nat) x fw).getD
       (IntKind.i64.wrap
       ((↑(chunks IntKind.u8 (4 : Nat) x fw).length : Int) -
       IntKind.i64.wrap ((↑key.length : Int).tdiv (4 : Int)))).toNat
       (D.val (Value.bool false)))).getD
       (0 : Nat) (0 : Int))
       ((tuL n fw z).getD (0 : Nat) (0 : Int)),
       ixor IntKind.u8
       ((arrOf
       ((chunks IntKind.u8 (4 : Nat) x fw).getD
       (IntKind.i64.wrap
       ((↑(chunks IntKind.u8 (4 : Nat) x fw).length : Int) -
       IntKind.i64.wrap ((↑key.length : Int).tdiv (4 : Int)))).toNat
       (D.val (Value.bool false)))).getD
       (1 : Nat) (0 : Int))
       ((tuL n fw z).getD (1 : Nat) (0 : Int)),
       ixor IntKind.u8
       ((arrOf
       ((chunks IntKind.u8 (4 : Nat) x fw).getD
       (IntKind.i64.wrap
       ((↑(chunks IntKind.u8 (4 : Nat) x fw).length : Int) -
       IntKind.i64.wrap ((↑key.length : Int).tdiv (4 : Int)))).toNat
       (D.val (Value.bool false)))).getD
       (2 : Nat) (0 : Int))
       ((tuL n fw z).getD (2 : Nat) (0 : Int)),
       ixor IntKind.u8
       ((arrOf
       ((chunks IntKind.u8 (4 : Nat) x fw).getD
       (IntKind.i64.wrap
       ((↑(chunks IntKind.u8 (4 : Nat) x fw).length : Int) -
       IntKind.i64.wrap ((↑key.length : Int).tdiv (4 : Int)))).toNat
       (D.val (Value.bool false)))).getD
       (3 : Nat) (0 : Int))
       ((tuL n fw z).getD (3 : Nat) (0 : Int))]]).length
       fw))) ∧
       True) ∧
       true = true) ∧
       (n ≤
       (chunks IntKind.u8 (4 : Nat) x fw ++
       [D.arr IntKind.u8 (4 : Nat)
       [ixor IntKind.u8
       ((arrOf
       ((chunks IntKind.u8 (4 : Nat) x fw).getD
       (IntKind.i64.wrap
       ((↑(chunks IntKind.u8 (4 : Nat) x fw).length : Int) - IntKind.i64.wrap ((↑key.length : Int).tdiv (4 : Int)))).toNat
       (D.val (Value.bool false)))).getD
       (0 : Nat) (0 : Int))
       ((tuL n fw z).getD (0 : Nat) (0 : Int)),
       ixor IntKind.u8
       ((arrOf
       ((chunks IntKind.u8 (4 : Nat) x fw).getD
       (IntKind.i64.wrap
       ((↑(chunks IntKind.u8 (4 : Nat) x fw).length : Int) - IntKind.i64.wrap ((↑key.length : Int).tdiv (4 : Int)))).toNat
       (D.val (Value.bool false)))).getD
       (1 : Nat) (0 : Int))
       ((tuL n fw z).getD (1 : Nat) (0 : Int)),
       ixor IntKind.u8
       ((arrOf
       ((chunks IntKind.u8 (4 : Nat) x fw).getD
       (IntKind.i64.wrap
       ((↑(chunks IntKind.u8 (4 : Nat) x fw).length : Int) - IntKind.i64.wrap ((↑key.length : Int).tdiv (4 : Int)))).toNat
       (D.val (Value.bool false)))).getD
       (2 : Nat) (0 : Int))
       ((tuL n fw z).getD (2 : Nat) (0 : Int)),
       ixor IntKind.u8
       ((arrOf
       ((chunks IntKind.u8 (4 : Nat) x fw).getD
       (IntKind.i64.wrap
       ((↑(chunks IntKind.u8 (4 : Nat) x fw).length : Int) - IntKind.i64.wrap ((↑key.length : Int).tdiv (4 : Int)))).toNat
       (D.val (Value.bool false)))).getD
       (3 : Nat) (0 : Int))
       ((tuL n fw z).getD (3 : Nat) (0 : Int))]]).length ∧
       (chunks IntKind.u8 (4 : Nat) x fw ++
       [D.arr IntKind.u8 (4 : Nat)
       [ixor IntKind.u8
       ((arrOf
       ((chunks IntKind.u8 (4 : Nat) x fw).getD
       (IntKind.i64.wrap
       ((↑(chunks IntKind.u8 (4 : Nat) x fw).length : Int) - IntKind.i64.wrap ((↑key.length : Int).tdiv (4 : Int)))).toNat
       (D.val (Value.bool false)))).getD
       (0 : Nat) (0 : Int))
       ((tuL n fw z).getD (0 : Nat) (0 : Int)),
       ixor IntKind.u8
       ((arrOf
       ((chunks IntKind.u8 (4 : Nat) x fw).getD
       (IntKind.i64.wrap
       ((↑(chunks IntKind.u8 (4 : Nat) x fw).length : Int) - IntKind.i64.wrap ((↑key.length : Int).tdiv (4 : Int)))).toNat
       (D.val (Value.bool false)))).getD
       (1 : Nat) (0 : Int))
       ((tuL n fw z).getD (1 : Nat) (0 : Int)),
       ixor IntKind.u8
       ((arrOf
       ((chunks IntKind.u8 (4 : Nat) x fw).getD
       (IntKind.i64.wrap
       ((↑(chunks IntKind.u8 (4 : Nat) x fw).length : Int) - IntKind.i64.wrap ((↑key.length : Int).tdiv (4 : Int)))).toNat
       (D.val (Value.bool false)))).getD
       (2 : Nat) (0 : Int))
       ((tuL n fw z).getD (2 : Nat) (0 : Int)),
       ixor IntKind.u8
       ((arrOf
       ((chunks IntKind.u8 (4 : Nat) x fw).getD
       (IntKind.i64.wrap
       ((↑(chunks IntKind.u8 (4 : Nat) x fw).length : Int) - IntKind.i64.wrap ((↑key.length : Int).tdiv (4 : Int)))).toNat
       (D.val (Value.bool false)))).getD
       (3 : Nat) (0 : Int))
       ((tuL n fw z).getD (3 : Nat) (0 : Int))]]).length ≤
       (4 : Nat) * (n + (7 : Nat))) ∧
       (4 : Nat) * (n + (7 : Nat)) -
       (chunks IntKind.u8 (4 : Nat) x fw ++
       [D.arr IntKind.u8 (4 : Nat)
       [ixor IntKind.u8
       ((arrOf
       ((chunks IntKind.u8 (4 : Nat) x fw).getD
       (IntKind.i64.wrap
       ((↑(chunks IntKind.u8 (4 : Nat) x fw).length : Int) - IntKind.i64.wrap ((↑key.length : Int).tdiv (4 : Int)))).toNat
       (D.val (Value.bool false)))).getD
       (0 : Nat) (0 : Int))
       ((tuL n fw z).getD (0 : Nat) (0 : Int)),
       ixor IntKind.u8
       ((arrOf
       ((chunks IntKind.u8 (4 : Nat) x fw).getD
       (IntKind.i64.wrap
       ((↑(chunks IntKind.u8 (4 : Nat) x fw).length : Int) - IntKind.i64.wrap ((↑key.length : Int).tdiv (4 : Int)))).toNat
       (D.val (Value.bool false)))).getD
       (1 : Nat) (0 : Int))
       ((tuL n fw z).getD (1 : Nat) (0 : Int)),
       ixor IntKind.u8
       ((arrOf
       ((chunks IntKind.u8 (4 : Nat) x fw).getD
       (IntKind.i64.wrap
       ((↑(chunks IntKind.u8 (4 : Nat) x fw).length : Int) - IntKind.i64.wrap ((↑key.length : Int).tdiv (4 : Int)))).toNat
       (D.val (Value.bool false)))).getD
       (2 : Nat) (0 : Int))
       ((tuL n fw z).getD (2 : Nat) (0 : Int)),
       ixor IntKind.u8
       ((arrOf
       ((chunks IntKind.u8 (4 : Nat) x fw).getD
       (IntKind.i64.wrap
       ((↑(chunks IntKind.u8 (4 : Nat) x fw).length : Int) - IntKind.i64.wrap ((↑key.length : Int).tdiv (4 : Int)))).toNat
       (D.val (Value.bool false)))).getD
       (3 : Nat) (0 : Int))
       ((tuL n fw z).getD (3 : Nat) (0 : Int))]]).length <
       (4 : Nat) * (n + (7 : Nat)) - x
     | false => true = true ∧ True ∧ True ∧ (false = false ∧ True) ∧ True ∧ D.tup [D.st [D.slc (4 : Nat) (chunks IntKind.u8 (4 : Nat) x fw), D.arr IntKind.u8 (256 : Nat) boxP, D.arr IntKind.u8 (256 : Nat) boxU], D.val (Value.int IntKind.i64 (0 : Int))] = F
  | false =>
   True ∧
   (0 : Nat) = (0 : Nat) ∧
   (True ∧ false = false ∧ ((1 : Nat) < (3 : Nat) ∧ Sk.arr (256 : Nat) = Sk.arr (256 : Nat)) ∧ True) ∧
   True ∧
   True ∧
   true = true ∧
   true = true ∧
   True ∧
   (Sk.st [Sk.one, Sk.arr (256 : Nat), Sk.arr (256 : Nat)] = Sk.st [Sk.one, Sk.arr (256 : Nat), Sk.arr (256 : Nat)] ∧ (1 : Nat) < (3 : Nat)) ∧
   ((256 : Nat) ≠ (0 : Nat) ∧ (256 : Nat) = (256 : Nat) ∧ true = true) ∧
   (∃ (l : List Int), [D.arr IntKind.u8 (256 : Nat) boxP] = [D.arr IntKind.u8 (256 : Nat) l] ∧ okb l ∧ l.length = (256 : Nat)) ∧
   True ∧
   (Sk.st [Sk.one, Sk.arr (256 : Nat), Sk.arr (256 : Nat)] = Sk.st [Sk.one, Sk.arr (256 : Nat), Sk.arr (256 : Nat)] ∧ (2 : Nat) < (3 : Nat)) ∧
   (((2 : Nat) < (3 : Nat) ∧ Sk.arr (256 : Nat) = Sk.arr (256 : Nat)) ∧ (256 : Nat) ≠ (0 : Nat) ∧ (256 : Nat) = (256 : Nat) ∧ false = false) ∧
   True ∧
   True ∧
   (4 : Int) ≠ (0 : Int) ∧
   True ∧
   True ∧
   True ∧
   (((AV.d (D.val (Value.int IntKind.i64 (0 : Int))) = AV.d (D.val (Value.int IntKind.i64 (↑(Int.toNat (0 : Int)) : Int))) ∧ True) ∧
   (some (Blk.lnk [D.slc (4 : Nat) [], D.arr IntKind.u8 (256 : Nat) boxP, D.arr IntKind.u8 (256 : Nat) (gub boxP (256 : Nat))] (0 : Nat) (some (526 : Nat))) = some (Blk.lnk [D.slc (4 : Nat) [], D.arr IntKind.u8 (256 : Nat) boxP, D.arr IntKind.u8 (256 : Nat) boxU] (0 : Nat) (some (526 : Nat))) ∧
   some (Blk.row (39 : TypeId) (D.slc (4 : Nat) [])) = some (Blk.row (39 : TypeId) (D.slc (4 : Nat) (chunks IntKind.u8 (4 : Nat) (Int.toNat (0 : Int)) fw))) ∧ True) ∧
   true = true) ∧
   Int.toNat (0 : Int) ≤ n) ∧
   ∀ (x : Nat),
   x ≤ n →
   true = true ∧
   True ∧
   match decide ((↑x : Int) < IntKind.i64.wrap ((↑key.length : Int).tdiv (4 : Int))) with
   | true =>
    True ∧
    True ∧
    true = true ∧
    true = true ∧
    True ∧
    (Sk.st [Sk.one, Sk.arr (256 : Nat), Sk.arr (256 : Nat)] = Sk.st [Sk.one, Sk.arr (256 : Nat), Sk.arr (256 : Nat)] ∧ (0 : Nat) < (3 : Nat)) ∧
    ((1 : Nat) = (1 : Nat) ∧ false = false) ∧
    True ∧
    True ∧
    True ∧
    ((0 : Int) ≤ IntKind.i64.wrap ((4 : Int) * (↑x : Int)) ∧ IntKind.i64.wrap ((4 : Int) * (↑x : Int)) < (↑key.length : Int)) ∧
    True ∧
    True ∧
    True ∧
    True ∧
    ((0 : Int) ≤ IntKind.i64.wrap (IntKind.i64.wrap ((4 : Int) * (↑x : Int)) + (1 : Int)) ∧ IntKind.i64.wrap (IntKind.i64.wrap ((4 : Int) * (↑x : Int)) + (1 : Int)) < (↑key.length : Int)) ∧
    True ∧
    True ∧
    True ∧
    True ∧
    ((0 : Int) ≤ IntKind.i64.wrap (IntKind.i64.wrap ((4 : Int) * (↑x : Int)) + (2 : Int)) ∧ IntKind.i64.wrap (IntKind.i64.wrap ((4 : Int) * (↑x : Int)) + (2 : Int)) < (↑key.length : Int)) ∧
    True ∧
    True ∧
    True ∧
    True ∧
    ((0 : Int) ≤ IntKind.i64.wrap (IntKind.i64.wrap ((4 : Int) * (↑x : Int)) + (3 : Int)) ∧ IntKind.i64.wrap (IntKind.i64.wrap ((4 : Int) * (↑x : Int)) + (3 : Int)) < (↑key.length : Int)) ∧
    ((1 : Nat) = (1 : Nat) ∧
    false = false ∧
    ((0 : Nat) < (4 : Nat) ∧ ([] : List Nat) = [] ∧ true = true) ∧ false = false ∧ ((1 : Nat) < (4 : Nat) ∧ ([] : List Nat) = [] ∧ true = true) ∧ false = false ∧ ((2 : Nat) < (4 : Nat) ∧ ([] : List Nat) = [] ∧ true = true) ∧ false = false ∧ ((3 : Nat) < (4 : Nat) ∧ ([] : List Nat) = [] ∧ true = true) ∧ True) ∧
    ((1 : Nat) ≤ (4096 : Nat) ∧ (4 : Nat) ≤ (256 : Nat) ∧ (4 : Nat) ≠ (0 : Nat)) ∧
    ((39 : TypeId) = (39 : TypeId) ∧
    (52 : Nat) = (52 : Nat) ∧
    true = true ∧
    (chunks IntKind.u8 (4 : Nat) x fw ++
    [D.arr IntKind.u8 (4 : Nat)
    [key.getD (IntKind.i64.wrap ((4 : Int) * (↑x : Int))).toNat (0 : Int), key.getD (IntKind.i64.wrap (IntKind.i64.wrap ((4 : Int) * (↑x : Int)) + (1 : Int))).toNat (0 : Int),
    key.getD (IntKind.i64.wrap (IntKind.i64.wrap ((4 : Int) * (↑x : Int)) + (2 : Int))).toNat (0 : Int), key.getD (IntKind.i64.wrap (IntKind.i64.wrap ((4 : Int) * (↑x : Int)) + (3 : Int))).toNat (0 : Int)]]).length ≤
    (140737488355328 : Nat) ∧
    (chunks IntKind.u8 (4 : Nat) x fw ++
    [D.arr IntKind.u8 (4 : Nat)
    [key.getD (IntKind.i64.wrap ((4 : Int) * (↑x : Int))).toNat (0 : Int), key.getD (IntKind.i64.wrap (IntKind.i64.wrap ((4 : Int) * (↑x : Int)) + (1 : Int))).toNat (0 : Int),
    key.getD (IntKind.i64.wrap (IntKind.i64.wrap ((4 : Int) * (↑x : Int)) + (2 : Int))).toNat (0 : Int), key.getD (IntKind.i64.wrap (IntKind.i64.wrap ((4 : Int) * (↑x : Int)) + (3 : Int))).toNat (0 : Int)]]).length *
    (4 : Nat) ≤
    (140737488355328 : Nat) ∧
    (4 : Nat) ≠ (0 : Nat) ∧ (4 : Nat) = (4 : Nat)) ∧
    True ∧
    (Sk.st [Sk.one, Sk.arr (256 : Nat), Sk.arr (256 : Nat)] = Sk.st [Sk.one, Sk.arr (256 : Nat), Sk.arr (256 : Nat)] ∧ (0 : Nat) < (3 : Nat)) ∧
    ((0 : Nat) = (0 : Nat) ∧ (1 : Nat) = (1 : Nat)) ∧
    True ∧
    True ∧
    ((AV.d (D.val (Value.int IntKind.i64 (IntKind.i64.wrap ((↑x : Int) + (1 : Int))))) = AV.d (D.val (Value.int IntKind.i64 (↑(IntKind.i64.wrap ((↑x : Int) + (1 : Int))).toNat : Int))) ∧ True) ∧
    (sm (some (Blk.lnk [D.slc (4 : Nat) [], D.arr IntKind.u8 (256 : Nat) boxP, D.arr IntKind.u8 (256 : Nat) boxU] (0 : Nat) (some (526 : Nat)))) ∧
    some
    (Blk.row (39 : TypeId)
    (D.slc (4 : Nat)
    (chunks IntKind.u8 (4 : Nat) x fw ++
    [D.arr IntKind.u8 (4 : Nat)
    [key.getD (IntKind.i64.wrap ((4 : Int) * (↑x : Int))).toNat (0 : Int), key.getD (IntKind.i64.wrap (IntKind.i64.wrap ((4 : Int) * (↑x : Int)) + (1 : Int))).toNat (0 : Int),
    key.getD (IntKind.i64.wrap (IntKind.i64.wrap ((4 : Int) * (↑x : Int)) + (2 : Int))).toNat (0 : Int), key.getD (IntKind.i64.wrap (IntKind.i64.wrap ((4 : Int) * (↑x : Int)) + (3 : Int))).toNat (0 : Int)]]))) =
    some (Blk.row (39 : TypeId) (D.slc (4 : Nat) (chunks IntKind.u8 (4 : Nat) (IntKind.i64.wrap ((↑x : Int) + (1 : Int))).toNat fw))) ∧
    True) ∧
    true = true) ∧
    (IntKind.i64.wrap ((↑x : Int) + (1 : Int))).toNat ≤ n ∧ n - (IntKind.i64.wrap ((↑x : Int) + (1 : Int))).toNat < n - x
   | false =>
    True ∧
    (((AV.d (D.val (Value.int IntKind.u8 (1 : Int))) = AV.d (D.val (Value.int IntKind.u8 (↑(gpw (2 : Nat) (((chunks IntKind.u8 (4 : Nat) x fw).length - (1 : Nat)) / n)) : Int))) ∧ True) ∧
    (sm (some (Blk.lnk [D.slc (4 : Nat) [], D.arr IntKind.u8 (256 : Nat) boxP, D.arr IntKind.u8 (256 : Nat) boxU] (0 : Nat) (some (526 : Nat)))) ∧
    some (Blk.row (39 : TypeId) (D.slc (4 : Nat) (chunks IntKind.u8 (4 : Nat) x fw))) = some (Blk.row (39 : TypeId) (D.slc (4 : Nat) (chunks IntKind.u8 (4 : Nat) (chunks IntKind.u8 (4 : Nat) x fw).length fw))) ∧ True) ∧
    true = true) ∧
    n ≤ (chunks IntKind.u8 (4 : Nat) x fw).length ∧ (chunks IntKind.u8 (4 : Nat) x fw).length ≤ (4 : Nat) * (n + (7 : Nat))) ∧
    ∀ (x : Nat),
    n ≤ x ∧ x ≤ (4 : Nat) * (n + (7 : Nat)) →
    true = true ∧
    true = true ∧
    True ∧
    (Sk.st [Sk.one, Sk.arr (256 : Nat), Sk.arr (256 : Nat)] = Sk.st [Sk.one, Sk.arr (256 : Nat), Sk.arr (256 : Nat)] ∧ (0 : Nat) < (3 : Nat)) ∧
    ((1 : Nat) = (1 : Nat) ∧ false = false) ∧
    True ∧
    True ∧
    True ∧
    True ∧
    True ∧
    match decide ((↑(chunks IntKind.u8 (4 : Nat) x fw).length : Int) < IntKind.i64.wrap ((4 : Int) * IntKind.i64.wrap (IntKind.i64.wrap ((↑key.length : Int).tdiv (4 : Int)) + (7 : Int)))) with
    | true =>
     true = true ∧
     True ∧
     (Sk.st [Sk.one, Sk.arr (256 : Nat), Sk.arr (256 : Nat)] = Sk.st [Sk.one, Sk.arr (256 : Nat), Sk.arr (256 : Nat)] ∧ (0 : Nat) < (3 : Nat)) ∧
     ((1 : Nat) = (1 : Nat) ∧ false = false) ∧
     True ∧
     True ∧
     true = true ∧
     True ∧
     (Sk.st [Sk.one, Sk.arr (256 : Nat), Sk.arr (256 : Nat)] = Sk.st [Sk.one, Sk.arr (256 : Nat), Sk.arr (256 : Nat)] ∧ (0 : Nat) < (3 : Nat)) ∧
     ((1 : Nat) = (1 : Nat) ∧ false = false) ∧
     True ∧
     True ∧
     True ∧
     ((0 : Int) ≤ IntKind.i64.wrap ((↑(chunks IntKind.u8 (4 : Nat) x fw).length : Int) - IntKind.i64.wrap ((↑key.length : Int).tdiv (4 : Int))) ∧
     IntKind.i64.wrap ((↑(chunks IntKind.u8 (4 : Nat) x fw).length : Int) - IntKind.i64.wrap ((↑key.length : Int).tdiv (4 : Int))) < (↑(chunks IntKind.u8 (4 : Nat) x fw).length : Int) ∧ (4 : Nat) ≠ (0 : Nat) ∧ (4 : Nat) = (4 : Nat)) ∧
     ((IntKind.i64.wrap ((↑(chunks IntKind.u8 (4 : Nat) x fw).length : Int) - IntKind.i64.wrap ((↑key.length : Int).tdiv (4 : Int)))).toNat < (chunks IntKind.u8 (4 : Nat) x fw).length ∧
     (4 : Nat) ≠ (0 : Nat) ∧
     (4 : Nat) = (4 : Nat) ∧
     D.arr IntKind.u8 (4 : Nat) (arrOf ((chunks IntKind.u8 (4 : Nat) x fw).getD (IntKind.i64.wrap ((↑(chunks IntKind.u8 (4 : Nat) x fw).length : Int) - IntKind.i64.wrap ((↑key.length : Int).tdiv (4 : Int)))).toNat (D.val (Value.bool false)))) =
     (chunks IntKind.u8 (4 : Nat) x fw).getD (IntKind.i64.wrap ((↑(chunks IntKind.u8 (4 : Nat) x fw).length : Int) - IntKind.i64.wrap ((↑key.length : Int).tdiv (4 : Int)))).toNat (D.val (Value.bool false)) ∧
     true = true) ∧
     true = true ∧
     True ∧
     (true = true ∧ Sk.st [Sk.one, Sk.arr (256 : Nat), Sk.arr (256 : Nat)] = Sk.st [Sk.one, Sk.arr (256 : Nat), Sk.arr (256 : Nat)] ∧ (0 : Nat) < (3 : Nat)) ∧
     (true = true ∧ (1 : Nat) = (1 : Nat) ∧ false = false) ∧
     True ∧
     True ∧
     (true = true ∧
     (0 : Int) ≤ IntKind.i64.wrap ((↑(chunks IntKind.u8 (4 : Nat) x fw).length : Int) - (1 : Int)) ∧
     IntKind.i64.wrap ((↑(chunks IntKind.u8 (4 : Nat) x fw).length : Int) - (1 : Int)) < (↑(chunks IntKind.u8 (4 : Nat) x fw).length : Int) ∧ (4 : Nat) ≠ (0 : Nat) ∧ (4 : Nat) = (4 : Nat)) ∧
     (true = true ∧
     (IntKind.i64.wrap ((↑(chunks IntKind.u8 (4 : Nat) x fw).length : Int) - (1 : Int))).toNat < (chunks IntKind.u8 (4 : Nat) x fw).length ∧
     (4 : Nat) ≠ (0 : Nat) ∧
     (4 : Nat) = (4 : Nat) ∧
     D.arr IntKind.u8 (4 : Nat) (arrOf ((chunks IntKind.u8 (4 : Nat) x fw).getD (IntKind.i64.wrap ((↑(chunks IntKind.u8 (4 : Nat) x fw).length : Int) - (1 : Int))).toNat (D.val (Value.bool false)))) =
     (chunks IntKind.u8 (4 : Nat) x fw).getD (IntKind.i64.wrap ((↑(chunks IntKind.u8 (4 : Nat) x fw).length : Int) - (1 : Int))).toNat (D.val (Value.bool false)) ∧
     true = true) ∧
     (True ∧ (4 : Nat) ≠ (0 : Nat)) ∧
     (True ∧ (4 : Nat) ≠ (0 : Nat)) ∧
     (true = true ∧ Sk.arr (4 : Nat) = Sk.arr (4 : Nat) ∧ (4 : Nat) ≠ (0 : Nat) ∧ (4 : Nat) = (4 : Nat) ∧ false = false) ∧
     (Sk.arr (4 : Nat) = Sk.arr (4 : Nat) ∧ (4 : Nat) ≠ (0 : Nat) ∧ (4 : Nat) = (4 : Nat) ∧ false = false) ∧
     True ∧
     True ∧
     IntKind.i64.wrap ((↑key.length : Int).tdiv (4 : Int)) ≠ (0 : Int) ∧
     True ∧
     (match (↑(chunks IntKind.u8 (4 : Nat) x fw).length : Int).tmod (IntKind.i64.wrap ((↑key.length : Int).tdiv (4 : Int))) == (0 : Int) with
     | true =>
      true = true ∧
      ((0 : Int) ≤ (1 : Int) ∧ (1 : Int) < (↑(4 : Nat) : Int) ∧ (4 : Nat) = (4 : Nat) ∧ (1 : Nat) = (1 : Nat)) ∧
      ((1 : Nat) ≠ (0 : Nat) ∧ (1 : Nat) = (1 : Nat) ∧ false = false) ∧
      True ∧
      (Sk.st [Sk.one, Sk.arr (256 : Nat), Sk.arr (256 : Nat)] = Sk.st [Sk.one, Sk.arr (256 : Nat), Sk.arr (256 : Nat)] ∧ (1 : Nat) < (3 : Nat)) ∧
      ((0 : Int) ≤ (arrOf ((chunks IntKind.u8 (4 : Nat) x fw).getD (IntKind.i64.wrap ((↑(chunks IntKind.u8 (4 : Nat) x fw).length : Int) - (1 : Int))).toNat (D.val (Value.bool false)))).getD (1 : Nat) (0 : Int) ∧
      (arrOf ((chunks IntKind.u8 (4 : Nat) x fw).getD (IntKind.i64.wrap ((↑(chunks IntKind.u8 (4 : Nat) x fw).length : Int) - (1 : Int))).toNat (D.val (Value.bool false)))).getD (1 : Nat) (0 : Int) <
      (↑(256 : Nat) : Int) ∧
      (256 : Nat) = (256 : Nat) ∧ (1 : Nat) = (1 : Nat)) ∧
      ((1 : Nat) ≠ (0 : Nat) ∧ (1 : Nat) = (1 : Nat) ∧ false = false) ∧
      True ∧
      True ∧
      true = true ∧
      ((0 : Int) ≤ (2 : Int) ∧ (2 : Int) < (↑(4 : Nat) : Int) ∧ (4 : Nat) = (4 : Nat) ∧ (1 : Nat) = (1 : Nat)) ∧
      ((1 : Nat) ≠ (0 : Nat) ∧ (1 : Nat) = (1 : Nat) ∧ false = false) ∧
      True ∧
      (Sk.st [Sk.one, Sk.arr (256 : Nat), Sk.arr (256 : Nat)] = Sk.st [Sk.one, Sk.arr (256 : Nat), Sk.arr (256 : Nat)] ∧ (1 : Nat) < (3 : Nat)) ∧
      ((0 : Int) ≤
      (arrOf ((chunks IntKind.u8 (4 : Nat) x fw).getD (IntKind.i64.wrap ((↑(chunks IntKind.u8 (4 : Nat) x fw).length : Int) - (1 : Int))).toNat (D.val (Value.bool false)))).getD (2 : Nat)
      (0 : Int) ∧
      (arrOf ((chunks IntKind.u8 (4 : Nat) x fw).getD (IntKind.i64.wrap ((↑(chunks IntKind.u8 (4 : Nat) x fw).length : Int) - (1 : Int))).toNat (D.val (Value.bool false)))).getD (2 : Nat)
      (0 : Int) <
      (↑(256 : Nat) : Int) ∧
      (256 : Nat) = (256 : Nat) ∧ (1 : Nat) = (1 : Nat)) ∧
      ((1 : Nat) ≠ (0 : Nat) ∧ (1 : Nat) = (1 : Nat) ∧ false = false) ∧
      true = true ∧
      ((0 : Int) ≤ (3 : Int) ∧ (3 : Int) < (↑(4 : Nat) : Int) ∧ (4 : Nat) = (4 : Nat) ∧ (1 : Nat) = (1 : Nat)) ∧
      ((1 : Nat) ≠ (0 : Nat) ∧ (1 : Nat) = (1 : Nat) ∧ false = false) ∧
      True ∧
      (Sk.st [Sk.one, Sk.arr (256 : Nat), Sk.arr (256 : Nat)] = Sk.st [Sk.one, Sk.arr (256 : Nat), Sk.arr (256 : Nat)] ∧ (1 : Nat) < (3 : Nat)) ∧
      ((0 : Int) ≤
      (arrOf ((chunks IntKind.u8 (4 : Nat) x fw).getD (IntKind.i64.wrap ((↑(chunks IntKind.u8 (4 : Nat) x fw).length : Int) - (1 : Int))).toNat (D.val (Value.bool false)))).getD
      (3 : Nat) (0 : Int) ∧
      (arrOf ((chunks IntKind.u8 (4 : Nat) x fw).getD (IntKind.i64.wrap ((↑(chunks IntKind.u8 (4 : Nat) x fw).length : Int) - (1 : Int))).toNat (D.val (Value.bool false)))).getD
      (3 : Nat) (0 : Int) <
      (↑(256 : Nat) : Int) ∧
      (256 : Nat) = (256 : Nat) ∧ (1 : Nat) = (1 : Nat)) ∧
      ((1 : Nat) ≠ (0 : Nat) ∧ (1 : Nat) = (1 : Nat) ∧ false = false) ∧
      true = true ∧
      ((0 : Int) ≤ (0 : Int) ∧ (0 : Int) < (↑(4 : Nat) : Int) ∧ (4 : Nat) = (4 : Nat) ∧ (1 : Nat) = (1 : Nat)) ∧
      ((1 : Nat) ≠ (0 : Nat) ∧ (1 : Nat) = (1 : Nat) ∧ false = false) ∧
      True ∧
      (Sk.st [Sk.one, Sk.arr (256 : Nat), Sk.arr (256 : Nat)] = Sk.st [Sk.one, Sk.arr (256 : Nat), Sk.arr (256 : Nat)] ∧ (1 : Nat) < (3 : Nat)) ∧
      ((0 : Int) ≤
      (arrOf
      ((chunks IntKind.u8 (4 : Nat) x fw).getD (IntKind.i64.wrap ((↑(chunks IntKind.u8 (4 : Nat) x fw).length : Int) - (1 : Int))).toNat
      (D.val (Value.bool false)))).getD
      (0 : Nat) (0 : Int) ∧
      (arrOf
      ((chunks IntKind.u8 (4 : Nat) x fw).getD (IntKind.i64.wrap ((↑(chunks IntKind.u8 (4 : Nat) x fw).length : Int) - (1 : Int))).toNat
      (D.val (Value.bool false)))).getD
      (0 : Nat) (0 : Int) <
      (↑(256 : Nat) : Int) ∧
      (256 : Nat) = (256 : Nat) ∧ (1 : Nat) = (1 : Nat)) ∧
      ((1 : Nat) ≠ (0 : Nat) ∧ (1 : Nat) = (1 : Nat) ∧ false = false) ∧
      ((1 : Nat) = (1 : Nat) ∧
      false = false ∧
      ((0 : Nat) < (4 : Nat) ∧ ([] : List Nat) = [] ∧ true = true) ∧
      false = false ∧
      ((1 : Nat) < (4 : Nat) ∧ ([] : List Nat) = [] ∧ true = true) ∧
      false = false ∧ ((2 : Nat) < (4 : Nat) ∧ ([] : List Nat) = [] ∧ true = true) ∧ false = false ∧ ((3 : Nat) < (4 : Nat) ∧ ([] : List Nat) = [] ∧ true = true) ∧ True) ∧
      (Sk.arr (4 : Nat) = Sk.arr (4 : Nat) ∧ (4 : Nat) ≠ (0 : Nat) ∧ (4 : Nat) = (4 : Nat) ∧ false = false) ∧
      True ∧
      (∃ (a : Nat),
      ∃ (b : Nat),
      [D.val (Value.int IntKind.u8 (↑(gpw (2 : Nat) ((x - (1 : Nat)) / n)) : Int)), D.val (Value.int IntKind.u8 (2 : Int))] =
      [D.val (Value.int IntKind.u8 (↑a : Int)), D.val (Value.int IntKind.u8 (↑b : Int))] ∧
      a < (256 : Nat) ∧ b < (256 : Nat)) ∧
      True ∧
      ((AV.d (D.val (Value.int IntKind.u8 (↑(gm (↑(gpw (2 : Nat) ((x - (1 : Nat)) / n)) : Int).toNat (2 : Nat)) : Int))) =
      AV.d (D.val (Value.int IntKind.u8 (↑(gpw (2 : Nat) ((↑(chunks IntKind.u8 (4 : Nat) x fw).length : Int).toNat / n)) : Int))) ∧
      True) ∧
      (sm
      (some
      (Blk.fix
      (D.arr IntKind.u8 (4 : Nat)
      (arrOf
      ((chunks IntKind.u8 (4 : Nat) x fw).getD
      (IntKind.i64.wrap ((↑(chunks IntKind.u8 (4 : Nat) x fw).length : Int) - IntKind.i64.wrap ((↑key.length : Int).tdiv (4 : Int)))).toNat
      (D.val (Value.bool false))))))) ∧
      some
      (Blk.fix
      (D.arr IntKind.u8 (4 : Nat)
      [ixor IntKind.u8
      (boxP.getD
      ((arrOf
      ((chunks IntKind.u8 (4 : Nat) x fw).getD
      (IntKind.i64.wrap ((↑(chunks IntKind.u8 (4 : Nat) x fw).length : Int) - (1 : Int))).toNat
      (D.val (Value.bool false)))).getD
      (1 : Nat) (0 : Int)).toNat
      (0 : Int))
      (↑(gpw (2 : Nat) ((x - (1 : Nat)) / n)) : Int),
      boxP.getD
      ((arrOf
      ((chunks IntKind.u8 (4 : Nat) x fw).getD
      (IntKind.i64.wrap ((↑(chunks IntKind.u8 (4 : Nat) x fw).length : Int) - (1 : Int))).toNat
      (D.val (Value.bool false)))).getD
      (2 : Nat) (0 : Int)).toNat
      (0 : Int),
      boxP.getD
      ((arrOf
      ((chunks IntKind.u8 (4 : Nat) x fw).getD
      (IntKind.i64.wrap ((↑(chunks IntKind.u8 (4 : Nat) x fw).length : Int) - (1 : Int))).toNat
      (D.val (Value.bool false)))).getD
      (3 : Nat) (0 : Int)).toNat
      (0 : Int),
      boxP.getD
      ((arrOf
      ((chunks IntKind.u8 (4 : Nat) x fw).getD
      (IntKind.i64.wrap ((↑(chunks IntKind.u8 (4 : Nat) x fw).length : Int) - (1 : Int))).toNat
      (D.val (Value.bool false)))).getD
      (0 : Nat) (0 : Int)).toNat
      (0 : Int)])) =
      some (Blk.fix (D.arr IntKind.u8 (4 : Nat) (tuL n fw (↑(chunks IntKind.u8 (4 : Nat) x fw).length : Int).toNat))) ∧
      sm (some (Blk.lnk [D.slc (4 : Nat) [], D.arr IntKind.u8 (256 : Nat) boxP, D.arr IntKind.u8 (256 : Nat) boxU] (0 : Nat) (some (526 : Nat)))) ∧
      sm (some (Blk.row (39 : TypeId) (D.slc (4 : Nat) (chunks IntKind.u8 (4 : Nat) x fw)))) ∧ True) ∧
      true = true) ∧
      (↑(↑(chunks IntKind.u8 (4 : Nat) x fw).length : Int).toNat : Int) = (↑(chunks IntKind.u8 (4 : Nat) x fw).length : Int)
     | false =>
      True ∧
      True ∧
      True ∧
      match IntKind.i64.wrap ((↑key.length : Int).tdiv (4 : Int)) == (8 : Int) with
      | true =>
       True ∧
       (8 : Int) ≠ (0 : Int) ∧
       True ∧
       True ∧
       match (↑(chunks IntKind.u8 (4 : Nat) x fw).length : Int).tmod (8 : Int) == (4 : Int) with
       | true =>
        true = true ∧
        ((0 : Int) ≤ (0 : Int) ∧ (0 : Int) < (↑(4 : Nat) : Int) ∧ (4 : Nat) = (4 : Nat) ∧ (1 : Nat) = (1 : Nat)) ∧
        ((1 : Nat) ≠ (0 : Nat) ∧ (1 : Nat) = (1 : Nat) ∧ false = false) ∧
        True ∧
        (Sk.st [Sk.one, Sk.arr (256 : Nat), Sk.arr (256 : Nat)] = Sk.st [Sk.one, Sk.arr (256 : Nat), Sk.arr (256 : Nat)] ∧ (1 : Nat) < (3 : Nat)) ∧
        ((0 : Int) ≤
        (arrOf ((chunks IntKind.u8 (4 : Nat) x fw).getD (IntKind.i64.wrap ((↑(chunks IntKind.u8 (4 : Nat) x fw).length : Int) - (1 : Int))).toNat (D.val (Value.bool false)))).getD (0 : Nat)
        (0 : Int) ∧
        (arrOf ((chunks IntKind.u8 (4 : Nat) x fw).getD (IntKind.i64.wrap ((↑(chunks IntKind.u8 (4 : Nat) x fw).length : Int) - (1 : Int))).toNat (D.val (Value.bool false)))).getD (0 : Nat)
        (0 : Int) <
        (↑(256 : Nat) : Int) ∧
        (256 : Nat) = (256 : Nat) ∧ (1 : Nat) = (1 : Nat)) ∧
        ((1 : Nat) ≠ (0 : Nat) ∧ (1 : Nat) = (1 : Nat) ∧ false = false) ∧
        true = true ∧
        ((0 : Int) ≤ (1 : Int) ∧ (1 : Int) < (↑(4 : Nat) : Int) ∧ (4 : Nat) = (4 : Nat) ∧ (1 : Nat) = (1 : Nat)) ∧
        ((1 : Nat) ≠ (0 : Nat) ∧ (1 : Nat) = (1 : Nat) ∧ false = false) ∧
        True ∧
        (Sk.st [Sk.one, Sk.arr (256 : Nat), Sk.arr (256 : Nat)] = Sk.st [Sk.one, Sk.arr (256 : Nat), Sk.arr (256 : Nat)] ∧ (1 : Nat) < (3 : Nat)) ∧
        ((0 : Int) ≤
        (arrOf ((chunks IntKind.u8 (4 : Nat) x fw).getD (IntKind.i64.wrap ((↑(chunks IntKind.u8 (4 : Nat) x fw).length : Int) - (1 : Int))).toNat (D.val (Value.bool false)))).getD
        (1 : Nat) (0 : Int) ∧
        (arrOf ((chunks IntKind.u8 (4 : Nat) x fw).getD (IntKind.i64.wrap ((↑(chunks IntKind.u8 (4 : Nat) x fw).length : Int) - (1 : Int))).toNat (D.val (Value.bool false)))).getD
        (1 : Nat) (0 : Int) <
        (↑(256 : Nat) : Int) ∧
        (256 : Nat) = (256 : Nat) ∧ (1 : Nat) = (1 : Nat)) ∧
        ((1 : Nat) ≠ (0 : Nat) ∧ (1 : Nat) = (1 : Nat) ∧ false = false) ∧
        true = true ∧
        ((0 : Int) ≤ (2 : Int) ∧ (2 : Int) < (↑(4 : Nat) : Int) ∧ (4 : Nat) = (4 : Nat) ∧ (1 : Nat) = (1 : Nat)) ∧
        ((1 : Nat) ≠ (0 : Nat) ∧ (1 : Nat) = (1 : Nat) ∧ false = false) ∧
        True ∧
        (Sk.st [Sk.one, Sk.arr (256 : Nat), Sk.arr (256 : Nat)] = Sk.st [Sk.one, Sk.arr (256 : Nat), Sk.arr (256 : Nat)] ∧ (1 : Nat) < (3 : Nat)) ∧
        ((0 : Int) ≤
        (arrOf
        ((chunks IntKind.u8 (4 : Nat) x fw).getD (IntKind.i64.wrap ((↑(chunks IntKind.u8 (4 : Nat) x fw).length : Int) - (1 : Int))).toNat
        (D.val (Value.bool false)))).getD
        (2 : Nat) (0 : Int) ∧
        (arrOf
        ((chunks IntKind.u8 (4 : Nat) x fw).getD (IntKind.i64.wrap ((↑(chunks IntKind.u8 (4 : Nat) x fw).length : Int) - (1 : Int))).toNat
        (D.val (Value.bool false)))).getD
        (2 : Nat) (0 : Int) <
        (↑(256 : Nat) : Int) ∧
        (256 : Nat) = (256 : Nat) ∧ (1 : Nat) = (1 : Nat)) ∧
        ((1 : Nat) ≠ (0 : Nat) ∧ (1 : Nat) = (1 : Nat) ∧ false = false) ∧
        true = true ∧
        ((0 : Int) ≤ (3 : Int) ∧ (3 : Int) < (↑(4 : Nat) : Int) ∧ (4 : Nat) = (4 : Nat) ∧ (1 : Nat) = (1 : Nat)) ∧
        ((1 : Nat) ≠ (0 : Nat) ∧ (1 : Nat) = (1 : Nat) ∧ false = false) ∧
        True ∧
        (Sk.st [Sk.one, Sk.arr (256 : Nat), Sk.arr (256 : Nat)] = Sk.st [Sk.one, Sk.arr (256 : Nat), Sk.arr (256 : Nat)] ∧ (1 : Nat) < (3 : Nat)) ∧
        ((0 : Int) ≤
        (arrOf
        ((chunks IntKind.u8 (4 : Nat) x fw).getD (IntKind.i64.wrap ((↑(chunks IntKind.u8 (4 : Nat) x fw).length : Int) - (1 : Int))).toNat
        (D.val (Value.bool false)))).getD
        (3 : Nat) (0 : Int) ∧
        (arrOf
        ((chunks IntKind.u8 (4 : Nat) x fw).getD (IntKind.i64.wrap ((↑(chunks IntKind.u8 (4 : Nat) x fw).length : Int) - (1 : Int))).toNat
        (D.val (Value.bool false)))).getD
        (3 : Nat) (0 : Int) <
        (↑(256 : Nat) : Int) ∧
        (256 : Nat) = (256 : Nat) ∧ (1 : Nat) = (1 : Nat)) ∧
        ((1 : Nat) ≠ (0 : Nat) ∧ (1 : Nat) = (1 : Nat) ∧ false = false) ∧
        ((1 : Nat) = (1 : Nat) ∧
        false = false ∧
        ((0 : Nat) < (4 : Nat) ∧ ([] : List Nat) = [] ∧ true = true) ∧
        false = false ∧
        ((1 : Nat) < (4 : Nat) ∧ ([] : List Nat) = [] ∧ true = true) ∧
        false = false ∧
        ((2 : Nat) < (4 : Nat) ∧ ([] : List Nat) = [] ∧ true = true) ∧ false = false ∧ ((3 : Nat) < (4 : Nat) ∧ ([] : List Nat) = [] ∧ true = true) ∧ True) ∧
        (Sk.arr (4 : Nat) = Sk.arr (4 : Nat) ∧ (4 : Nat) ≠ (0 : Nat) ∧ (4 : Nat) = (4 : Nat) ∧ false = false) ∧
        ((AV.d (D.val (Value.int IntKind.u8 (↑(gpw (2 : Nat) ((x - (1 : Nat)) / n)) : Int))) =
        AV.d (D.val (Value.int IntKind.u8 (↑(gpw (2 : Nat) ((↑(chunks IntKind.u8 (4 : Nat) x fw).length : Int).toNat / n)) : Int))) ∧
        True) ∧
        (sm
        (some
        (Blk.fix
        (D.arr IntKind.u8 (4 : Nat)
        (arrOf
        ((chunks IntKind.u8 (4 : Nat) x fw).getD
        (IntKind.i64.wrap
        ((↑(chunks IntKind.u8 (4 : Nat) x fw).length : Int) - IntKind.i64.wrap ((↑key.length : Int).tdiv (4 : Int)))).toNat
        (D.val (Value.bool false))))))) ∧
        some
        (Blk.fix
        (D.arr IntKind.u8 (4 : Nat)
        [boxP.getD
        ((arrOf
        ((chunks IntKind.u8 (4 : Nat) x fw).getD
        (IntKind.i64.wrap ((↑(chunks IntKind.u8 (4 : Nat) x fw).length : Int) - (1 : Int))).toNat
        (D.val (Value.bool false)))).getD
        (0 : Nat) (0 : Int)).toNat
        (0 : Int),
        boxP.getD
        ((arrOf
        ((chunks IntKind.u8 (4 : Nat) x fw).getD
        (IntKind.i64.wrap ((↑(chunks IntKind.u8 (4 : Nat) x fw).length : Int) - (1 : Int))).toNat
        (D.val (Value.bool false)))).getD
        (1 : Nat) (0 : Int)).toNat
        (0 : Int),
        boxP.getD
        ((arrOf
        ((chunks IntKind.u8 (4 : Nat) x fw).getD
        (IntKind.i64.wrap ((↑(chunks IntKind.u8 (4 : Nat) x fw).length : Int) - (1 : Int))).toNat
        (D.val (Value.bool false)))).getD
        (2 : Nat) (0 : Int)).toNat
        (0 : Int),
        boxP.getD
        ((arrOf
        ((chunks IntKind.u8 (4 : Nat) x fw).getD
        (IntKind.i64.wrap ((↑(chunks IntKind.u8 (4 : Nat) x fw).length : Int) - (1 : Int))).toNat
        (D.val (Value.bool false)))).getD
        (3 : Nat) (0 : Int)).toNat
        (0 : Int)])) =
        some (Blk.fix (D.arr IntKind.u8 (4 : Nat) (tuL n fw (↑(chunks IntKind.u8 (4 : Nat) x fw).length : Int).toNat))) ∧
        sm
        (some
        (Blk.lnk [D.slc (4 : Nat) [], D.arr IntKind.u8 (256 : Nat) boxP, D.arr IntKind.u8 (256 : Nat) boxU] (0 : Nat)
        (some (526 : Nat)))) ∧
        sm (some (Blk.row (39 : TypeId) (D.slc (4 : Nat) (chunks IntKind.u8 (4 : Nat) x fw)))) ∧ True) ∧
        true = true) ∧
        (↑(↑(chunks IntKind.u8 (4 : Nat) x fw).length : Int).toNat : Int) = (↑(chunks IntKind.u8 (4 : Nat) x fw).length : Int)
       | false =>
        ((AV.d (D.val (Value.int IntKind.u8 (↑(gpw (2 : Nat) ((x - (1 : Nat)) / n)) : Int))) =
        AV.d (D.val (Value.int IntKind.u8 (↑(gpw (2 : Nat) ((↑(chunks IntKind.u8 (4 : Nat) x fw).length : Int).toNat / n)) : Int))) ∧
        True) ∧
        (sm
        (some
        (Blk.fix
        (D.arr IntKind.u8 (4 : Nat)
        (arrOf
        ((chunks IntKind.u8 (4 : Nat) x fw).getD (IntKind.i64.wrap ((↑(chunks IntKind.u8 (4 : Nat) x fw).length : Int) - IntKind.i64.wrap ((↑key.length : Int).tdiv (4 : Int)))).toNat
        (D.val (Value.bool false))))))) ∧
        some
        (Blk.fix
        (D.arr IntKind.u8 (4 : Nat)
        (arrOf ((chunks IntKind.u8 (4 : Nat) x fw).getD (IntKind.i64.wrap ((↑(chunks IntKind.u8 (4 : Nat) x fw).length : Int) - (1 : Int))).toNat (D.val (Value.bool false)))))) =
        some (Blk.fix (D.arr IntKind.u8 (4 : Nat) (tuL n fw (↑(chunks IntKind.u8 (4 : Nat) x fw).length : Int).toNat))) ∧
        sm (some (Blk.lnk [D.slc (4 : Nat) [], D.arr IntKind.u8 (256 : Nat) boxP, D.arr IntKind.u8 (256 : Nat) boxU] (0 : Nat) (some (526 : Nat)))) ∧
        sm (some (Blk.row (39 : TypeId) (D.slc (4 : Nat) (chunks IntKind.u8 (4 : Nat) x fw)))) ∧ True) ∧
        true = true) ∧
        (↑(↑(chunks IntKind.u8 (4 : Nat) x fw).length : Int).toNat : Int) = (↑(chunks IntKind.u8 (4 : Nat) x fw).length : Int)
      | false =>
       True ∧
       ((AV.d (D.val (Value.int IntKind.u8 (↑(gpw (2 : Nat) ((x - (1 : Nat)) / n)) : Int))) = AV.d (D.val (Value.int IntKind.u8 (↑(gpw (2 : Nat) ((↑(chunks IntKind.u8 (4 : Nat) x fw).length : Int).toNat / n)) : Int))) ∧
       True) ∧
       (sm
       (some
       (Blk.fix
       (D.arr IntKind.u8 (4 : Nat)
       (arrOf
       ((chunks IntKind.u8 (4 : Nat) x fw).getD (IntKind.i64.wrap ((↑(chunks IntKind.u8 (4 : Nat) x fw).length : Int) - IntKind.i64.wrap ((↑key.length : Int).tdiv (4 : Int)))).toNat
       (D.val (Value.bool false))))))) ∧
       some
       (Blk.fix
       (D.arr IntKind.u8 (4 : Nat) (arrOf ((chunks IntKind.u8 (4 : Nat) x fw).getD (IntKind.i64.wrap ((↑(chunks IntKind.u8 (4 : Nat) x fw).length : Int) - (1 : Int))).toNat (D.val (Value.bool false)))))) =
       some (Blk.fix (D.arr IntKind.u8 (4 : Nat) (tuL n fw (↑(chunks IntKind.u8 (4 : Nat) x fw).length : Int).toNat))) ∧
       sm (some (Blk.lnk [D.slc (4 : Nat) [], D.arr IntKind.u8 (256 : Nat) boxP, D.arr IntKind.u8 (256 : Nat) boxU] (0 : Nat) (some (526 : Nat)))) ∧
       sm (some (Blk.row (39 : TypeId) (D.slc (4 : Nat) (chunks IntKind.u8 (4 : Nat) x fw)))) ∧ True) ∧
       true = true) ∧
       (↑(↑(chunks IntKind.u8 (4 : Nat) x fw).length : Int).toNat : Int) = (↑(chunks IntKind.u8 (4 : Nat) x fw).length : Int)) ∧
      ∀ (z : Nat),
      (↑z : Int) = (↑(chunks IntKind.u8 (4 : Nat) x fw).length : Int) →
      true = true ∧
      true = true ∧
      true = true ∧
      True ∧
      (Sk.st [Sk.one, Sk.arr (256 : Nat), Sk.arr (256 : Nat)] = Sk.st [Sk.one, Sk.arr (256 : Nat), Sk.arr (256 : Nat)] ∧ (0 : Nat) < (3 : Nat)) ∧
      ((1 : Nat) = (1 : Nat) ∧ false = false) ∧
      ((0 : Int) ≤ (0 : Int) ∧ (0 : Int) < (↑(4 : Nat) : Int) ∧ (4 : Nat) = (4 : Nat) ∧ (1 : Nat) = (1 : Nat)) ∧
      ((1 : Nat) ≠ (0 : Nat) ∧ (1 : Nat) = (1 : Nat) ∧ false = false) ∧
      ((0 : Int) ≤ (0 : Int) ∧ (0 : Int) < (↑(4 : Nat) : Int) ∧ (4 : Nat) = (4 : Nat) ∧ (1 : Nat) = (1 : Nat)) ∧
      ((1 : Nat) ≠ (0 : Nat) ∧ (1 : Nat) = (1 : Nat) ∧ false = false) ∧
      True ∧
      ((0 : Int) ≤ (1 : Int) ∧ (1 : Int) < (↑(4 : Nat) : Int) ∧ (4 : Nat) = (4 : Nat) ∧ (1 : Nat) = (1 : Nat)) ∧
      ((1 : Nat) ≠ (0 : Nat) ∧ (1 : Nat) = (1 : Nat) ∧ false = false) ∧
      ((0 : Int) ≤ (1 : Int) ∧ (1 : Int) < (↑(4 : Nat) : Int) ∧ (4 : Nat) = (4 : Nat) ∧ (1 : Nat) = (1 : Nat)) ∧
      ((1 : Nat) ≠ (0 : Nat) ∧ (1 : Nat) = (1 : Nat) ∧ false = false) ∧
      True ∧
      ((0 : Int) ≤ (2 : Int) ∧ (2 : Int) < (↑(4 : Nat) : Int) ∧ (4 : Nat) = (4 : Nat) ∧ (1 : Nat) = (1 : Nat)) ∧
      ((1 : Nat) ≠ (0 : Nat) ∧ (1 : Nat) = (1 : Nat) ∧ false = false) ∧
      ((0 : Int) ≤ (2 : Int) ∧ (2 : Int) < (↑(4 : Nat) : Int) ∧ (4 : Nat) = (4 : Nat) ∧ (1 : Nat) = (1 : Nat)) ∧
      ((1 : Nat) ≠ (0 : Nat) ∧ (1 : Nat) = (1 : Nat) ∧ false = false) ∧
      True ∧
      ((0 : Int) ≤ (3 : Int) ∧ (3 : Int) < (↑(4 : Nat) : Int) ∧ (4 : Nat) = (4 : Nat) ∧ (1 : Nat) = (1 : Nat)) ∧
      ((1 : Nat) ≠ (0 : Nat) ∧ (1 : Nat) = (1 : Nat) ∧ false = false) ∧
      ((0 : Int) ≤ (3 : Int) ∧ (3 : Int) < (↑(4 : Nat) : Int) ∧ (4 : Nat) = (4 : Nat) ∧ (1 : Nat) = (1 : Nat)) ∧
      ((1 : Nat) ≠ (0 : Nat) ∧ (1 : Nat) = (1 : Nat) ∧ false = false) ∧
      True ∧
      ((1 : Nat) = (1 : Nat) ∧
      false = false ∧
      ((0 : Nat) < (4 : Nat) ∧ ([] : List Nat) = [] ∧ true = true) ∧
      false = false ∧
      ((1 : Nat) < (4 : Nat) ∧ ([] : List Nat) = [] ∧ true = true) ∧
      false = false ∧ ((2 : Nat) < (4 : Nat) ∧ ([] : List Nat) = [] ∧ true = true) ∧ false = false ∧ ((3 : Nat) < (4 : Nat) ∧ ([] : List Nat) = [] ∧ true = true) ∧ True) ∧
      ((1 : Nat) ≤ (4096 : Nat) ∧ (4 : Nat) ≤ (256 : Nat) ∧ (4 : Nat) ≠ (0 : Nat)) ∧
      ((39 : TypeId) = (39 : TypeId) ∧
      (52 : Nat) = (52 : Nat) ∧
      true = true ∧
      (chunks IntKind.u8 (4 : Nat) x fw ++
      [D.arr IntKind.u8 (4 : Nat)
      [ixor IntKind.u8
      ((arrOf
      ((chunks IntKind.u8 (4 : Nat) x fw).getD
      (IntKind.i64.wrap ((↑(chunks IntKind.u8 (4 : Nat) x fw).length : Int) - IntKind.i64.wrap ((↑key.length : Int).tdiv (4 : Int)))).toNat
      (D.val (Value.bool false)))).getD
      (0 : Nat) (0 : Int))
      ((tuL n fw z).getD (0 : Nat) (0 : Int)),
      ixor IntKind.u8
      ((arrOf
      ((chunks IntKind.u8 (4 : Nat) x fw).getD
      (IntKind.i64.wrap ((↑(chunks IntKind.u8 (4 : Nat) x fw).length : Int) - IntKind.i64.wrap ((↑key.length : Int).tdiv (4 : Int)))).toNat
      (D.val (Value.bool false)))).getD
      (1 : Nat) (0 : Int))
      ((tuL n fw z).getD (1 : Nat) (0 : Int)),
      ixor IntKind.u8
      ((arrOf
      ((chunks IntKind.u8 (4 : Nat) x fw).getD
      (IntKind.i64.wrap ((↑(chunks IntKind.u8 (4 : Nat) x fw).length : Int) - IntKind.i64.wrap ((↑key.length : Int).tdiv (4 : Int)))).toNat
      (D.val (Value.bool false)))).getD
      (2 : Nat) (0 : Int))
      ((tuL n fw z).getD (2 : Nat) (0 : Int)),
      ixor IntKind.u8
      ((arrOf
      ((chunks IntKind.u8 (4 : Nat) x fw).getD
      (IntKind.i64.wrap ((↑(chunks IntKind.u8 (4 : Nat) x fw).length : Int) - IntKind.i64.wrap ((↑key.length : Int).tdiv (4 : Int)))).toNat
      (D.val (Value.bool false)))).getD
      (3 : Nat) (0 : Int))
      ((tuL n fw z).getD (3 : Nat) (0 : Int))]]).length ≤
      (140737488355328 : Nat) ∧
      (chunks IntKind.u8 (4 : Nat) x fw ++
      [D.arr IntKind.u8 (4 : Nat)
      [ixor IntKind.u8
      ((arrOf
      ((chunks IntKind.u8 (4 : Nat) x fw).getD
      (IntKind.i64.wrap
      ((↑(chunks IntKind.u8 (4 : Nat) x fw).length : Int) - IntKind.i64.wrap ((↑key.length : Int).tdiv (4 : Int)))).toNat
      (D.val (Value.bool false)))).getD
      (0 : Nat) (0 : Int))
      ((tuL n fw z).getD (0 : Nat) (0 : Int)),
      ixor IntKind.u8
      ((arrOf
      ((chunks IntKind.u8 (4 : Nat) x fw).getD
      (IntKind.i64.wrap
      ((↑(chunks IntKind.u8 (4 : Nat) x fw).length : Int) - IntKind.i64.wrap ((↑key.length : Int).tdiv (4 : Int)))).toNat
      (D.val (Value.bool false)))).getD
      (1 : Nat) (0 : Int))
      ((tuL n fw z).getD (1 : Nat) (0 : Int)),
      ixor IntKind.u8
      ((arrOf
      ((chunks IntKind.u8 (4 : Nat) x fw).getD
      (IntKind.i64.wrap
      ((↑(chunks IntKind.u8 (4 : Nat) x fw).length : Int) - IntKind.i64.wrap ((↑key.length : Int).tdiv (4 : Int)))).toNat
      (D.val (Value.bool false)))).getD
      (2 : Nat) (0 : Int))
      ((tuL n fw z).getD (2 : Nat) (0 : Int)),
      ixor IntKind.u8
      ((arrOf
      ((chunks IntKind.u8 (4 : Nat) x fw).getD
      (IntKind.i64.wrap
      ((↑(chunks IntKind.u8 (4 : Nat) x fw).length : Int) - IntKind.i64.wrap ((↑key.length : Int).tdiv (4 : Int)))).toNat
      (D.val (Value.bool false)))).getD
      (3 : Nat) (0 : Int))
      ((tuL n fw z).getD (3 : Nat) (0 : Int))]]).length *
      (4 : Nat) ≤
      (140737488355328 : Nat) ∧
      (4 : Nat) ≠ (0 : Nat) ∧ (4 : Nat) = (4 : Nat)) ∧
      True ∧
      (Sk.st [Sk.one, Sk.arr (256 : Nat), Sk.arr (256 : Nat)] = Sk.st [Sk.one, Sk.arr (256 : Nat), Sk.arr (256 : Nat)] ∧ (0 : Nat) < (3 : Nat)) ∧
      ((0 : Nat) = (0 : Nat) ∧ (1 : Nat) = (1 : Nat)) ∧
      ((AV.d (D.val (Value.int IntKind.u8 (↑(gpw (2 : Nat) (z / n)) : Int))) =
      AV.d
      (D.val
      (Value.int IntKind.u8
      (↑(gpw (2 : Nat)
      (((chunks IntKind.u8 (4 : Nat) x fw ++
      [D.arr IntKind.u8 (4 : Nat)
      [ixor IntKind.u8
      ((arrOf
      ((chunks IntKind.u8 (4 : Nat) x fw).getD
      (IntKind.i64.wrap
      ((↑(chunks IntKind.u8 (4 : Nat) x fw).length : Int) -
      IntKind.i64.wrap ((↑key.length : Int).tdiv (4 : Int)))).toNat
      (D.val (Value.bool false)))).getD
      (0 : Nat) (0 : Int))
      ((tuL n fw z).getD (0 : Nat) (0 : Int)),
      ixor IntKind.u8
      ((arrOf
      ((chunks IntKind.u8 (4 : Nat) x fw).getD
      (IntKind.i64.wrap
      ((↑(chunks IntKind.u8 (4 : Nat) x fw).length : Int) -
      IntKind.i64.wrap ((↑key.length : Int).tdiv (4 : Int)))).toNat
      (D.val (Value.bool false)))).getD
      (1 : Nat) (0 : Int))
      ((tuL n fw z).getD (1 : Nat) (0 : Int)),
      ixor IntKind.u8
      ((arrOf
      ((chunks IntKind.u8 (4 : Nat) x fw).getD
      (IntKind.i64.wrap
      ((↑(chunks IntKind.u8 (4 : Nat) x fw).length : Int) -
      IntKind.i64.wrap ((↑key.length : Int).tdiv (4 : Int)))).toNat
      (D.val (Value.bool false)))).getD
      (2 : Nat) (0 : Int))
      ((tuL n fw z).getD (2 : Nat) (0 : Int)),
      ixor IntKind.u8
      ((arrOf
      ((chunks IntKind.u8 (4 : Nat) x fw).getD
      (IntKind.i64.wrap
      ((↑(chunks IntKind.u8 (4 : Nat) x fw).length : Int) -
      IntKind.i64.wrap ((↑key.length : Int).tdiv (4 : Int)))).toNat
      (D.val (Value.bool false)))).getD
      (3 : Nat) (0 : Int))
      ((tuL n fw z).getD (3 : Nat) (0 : Int))]]).length -
      (1 : Nat)) /
      n)) :
      Int))) ∧
      True) ∧
      (sm (some (Blk.lnk [D.slc (4 : Nat) [], D.arr IntKind.u8 (256 : Nat) boxP, D.arr IntKind.u8 (256 : Nat) boxU] (0 : Nat) (some (526 : Nat)))) ∧
      some
      (Blk.row (39 : TypeId)
      (D.slc (4 : Nat)
      (chunks IntKind.u8 (4 : Nat) x fw ++
      [D.arr IntKind.u8 (4 : Nat)
      [ixor IntKind.u8
      ((arrOf
      ((chunks IntKind.u8 (4 : Nat) x fw).getD
      (IntKind.i64.wrap
      ((↑(chunks IntKind.u8 (4 : Nat) x fw).length : Int) - IntKind.i64.wrap ((↑key.length : Int).tdiv (4 : Int)))).toNat
      (D.val (Value.bool false)))).getD
      (0 : Nat) (0 : Int))
      ((tuL n fw z).getD (0 : Nat) (0 : Int)),
      ixor IntKind.u8
      ((arrOf
      ((chunks IntKind.u8 (4 : Nat) x fw).getD
      (IntKind.i64.wrap
      ((↑(chunks IntKind.u8 (4 : Nat) x fw).length : Int) - IntKind.i64.wrap ((↑key.length : Int).tdiv (4 : Int)))).toNat
      (D.val (Value.bool false)))).getD
      (1 : Nat) (0 : Int))
      ((tuL n fw z).getD (1 : Nat) (0 : Int)),
      ixor IntKind.u8
      ((arrOf
      ((chunks IntKind.u8 (4 : Nat) x fw).getD
      (IntKind.i64.wrap
      ((↑(chunks IntKind.u8 (4 : Nat) x fw).length : Int) - IntKind.i64.wrap ((↑key.length : Int).tdiv (4 : Int)))).toNat
      (D.val (Value.bool false)))).getD
      (2 : Nat) (0 : Int))
      ((tuL n fw z).getD (2 : Nat) (0 : Int)),
      ixor IntKind.u8
      ((arrOf
      ((chunks IntKind.u8 (4 : Nat) x fw).getD
      (IntKind.i64.wrap
      ((↑(chunks IntKind.u8 (4 : Nat) x fw).length : Int) - IntKind.i64.wrap ((↑key.length : Int).tdiv (4 : Int)))).toNat
      (D.val (Value.bool false)))).getD
      (3 : Nat) (0 : Int))
      ((tuL n fw z).getD (3 : Nat) (0 : Int))]]))) =
      some
      (Blk.row (39 : TypeId)
      (D.slc (4 : Nat)
      (chunks IntKind.u8 (4 : Nat)
      (chunks IntKind.u8 (4 : Nat) x fw ++
      [D.arr IntKind.u8 (4 : Nat)
      [ixor IntKind.u8
      ((arrOf
      ((chunks IntKind.u8 (4 : Nat) x fw).getD
      (IntKind.i64.wrap
      ((↑(chunks IntKind.u8 (4 : Nat) x fw).length : Int) -
      IntKind.i64.wrap ((↑key.length : Int).tdiv (4 : Int)))).toNat
      (D.val (Value.bool false)))).getD
      (0 : Nat) (0 : Int))
      ((tuL n fw z).getD (0 : Nat) (0 : Int)),
      ixor IntKind.u8
      ((arrOf
      ((chunks IntKind.u8 (4 : Nat) x fw).getD
      (IntKind.i64.wrap
      ((↑(chunks IntKind.u8 (4 : Nat) x fw).length : Int) -
      IntKind.i64.wrap ((↑key.length : Int).tdiv (4 : Int)))).toNat
      (D.val (Value.bool false)))).getD
      (1 : Nat) (0 : Int))
      ((tuL n fw z).getD (1 : Nat) (0 : Int)),
      ixor IntKind.u8
      ((arrOf
      ((chunks IntKind.u8 (4 : Nat) x fw).getD
      (IntKind.i64.wrap
      ((↑(chunks IntKind.u8 (4 : Nat) x fw).length : Int) -
      IntKind.i64.wrap ((↑key.length : Int).tdiv (4 : Int)))).toNat
      (D.val (Value.bool false)))).getD
      (2 : Nat) (0 : Int))
      ((tuL n fw z).getD (2 : Nat) (0 : Int)),
      ixor IntKind.u8
      ((arrOf
      ((chunks IntKind.u8 (4 : Nat) x fw).getD
      (IntKind.i64.wrap
      ((↑(chunks IntKind.u8 (4 : Nat) x fw).length : Int) -
      IntKind.i64.wrap ((↑key.length : Int).tdiv (4 : Int)))).toNat
      (D.val (Value.bool false)))).getD
      (3 : Nat) (0 : Int))
      ((tuL n fw z).getD (3 : Nat) (0 : Int))]]).length
      fw))) ∧
      True) ∧
      true = true) ∧
      (n ≤
      (chunks IntKind.u8 (4 : Nat) x fw ++
      [D.arr IntKind.u8 (4 : Nat)
      [ixor IntKind.u8
      ((arrOf
      ((chunks IntKind.u8 (4 : Nat) x fw).getD
      (IntKind.i64.wrap
      ((↑(chunks IntKind.u8 (4 : Nat) x fw).length : Int) - IntKind.i64.wrap ((↑key.length : Int).tdiv (4 : Int)))).toNat
      (D.val (Value.bool false)))).getD
      (0 : Nat) (0 : Int))
      ((tuL n fw z).getD (0 : Nat) (0 : Int)),
      ixor IntKind.u8
      ((arrOf
      ((chunks IntKind.u8 (4 : Nat) x fw).getD
      (IntKind.i64.wrap
      ((↑(chunks IntKind.u8 (4 : Nat) x fw).length : Int) - IntKind.i64.wrap ((↑key.length : Int).tdiv (4 : Int)))).toNat
      (D.val (Value.bool false)))).getD
      (1 : Nat) (0 : Int))
      ((tuL n fw z).getD (1 : Nat) (0 : Int)),
      ixor IntKind.u8
      ((arrOf
      ((chunks IntKind.u8 (4 : Nat) x fw).getD
      (IntKind.i64.wrap
      ((↑(chunks IntKind.u8 (4 : Nat) x fw).length : Int) - IntKind.i64.wrap ((↑key.length : Int).tdiv (4 : Int)))).toNat
      (D.val (Value.bool false)))).getD
      (2 : Nat) (0 : Int))
      ((tuL n fw z).getD (2 : Nat) (0 : Int)),
      ixor IntKind.u8
      ((arrOf
      ((chunks IntKind.u8 (4 : Nat) x fw).getD
      (IntKind.i64.wrap
      ((↑(chunks IntKind.u8 (4 : Nat) x fw).length : Int) - IntKind.i64.wrap ((↑key.length : Int).tdiv (4 : Int)))).toNat
      (D.val (Value.bool false)))).getD
      (3 : Nat) (0 : Int))
      ((tuL n fw z).getD (3 : Nat) (0 : Int))]]).length ∧
      (chunks IntKind.u8 (4 : Nat) x fw ++
      [D.arr IntKind.u8 (4 : Nat)
      [ixor IntKind.u8
      ((arrOf
      ((chunks IntKind.u8 (4 : Nat) x fw).getD
      (IntKind.i64.wrap
      ((↑(chunks IntKind.u8 (4 : Nat) x fw).length : Int) - IntKind.i64.wrap ((↑key.length : Int).tdiv (4 : Int)))).toNat
      (D.val (Value.bool false)))).getD
      (0 : Nat) (0 : Int))
      ((tuL n fw z).getD (0 : Nat) (0 : Int)),
      ixor IntKind.u8
      ((arrOf
      ((chunks IntKind.u8 (4 : Nat) x fw).getD
      (IntKind.i64.wrap
      ((↑(chunks IntKind.u8 (4 : Nat) x fw).length : Int) - IntKind.i64.wrap ((↑key.length : Int).tdiv (4 : Int)))).toNat
      (D.val (Value.bool false)))).getD
      (1 : Nat) (0 : Int))
      ((tuL n fw z).getD (1 : Nat) (0 : Int)),
      ixor IntKind.u8
      ((arrOf
      ((chunks IntKind.u8 (4 : Nat) x fw).getD
      (IntKind.i64.wrap
      ((↑(chunks IntKind.u8 (4 : Nat) x fw).length : Int) - IntKind.i64.wrap ((↑key.length : Int).tdiv (4 : Int)))).toNat
      (D.val (Value.bool false)))).getD
      (2 : Nat) (0 : Int))
      ((tuL n fw z).getD (2 : Nat) (0 : Int)),
      ixor IntKind.u8
      ((arrOf
      ((chunks IntKind.u8 (4 : Nat) x fw).getD
      (IntKind.i64.wrap
      ((↑(chunks IntKind.u8 (4 : Nat) x fw).length : Int) - IntKind.i64.wrap ((↑key.length : Int).tdiv (4 : Int)))).toNat
      (D.val (Value.bool false)))).getD
      (3 : Nat) (0 : Int))
      ((tuL n fw z).getD (3 : Nat) (0 : Int))]]).length ≤
      (4 : Nat) * (n + (7 : Nat))) ∧
      (4 : Nat) * (n + (7 : Nat)) -
      (chunks IntKind.u8 (4 : Nat) x fw ++
      [D.arr IntKind.u8 (4 : Nat)
      [ixor IntKind.u8
      ((arrOf
      ((chunks IntKind.u8 (4 : Nat) x fw).getD
      (IntKind.i64.wrap
      ((↑(chunks IntKind.u8 (4 : Nat) x fw).length : Int) - IntKind.i64.wrap ((↑key.length : Int).tdiv (4 : Int)))).toNat
      (D.val (Value.bool false)))).getD
      (0 : Nat) (0 : Int))
      ((tuL n fw z).getD (0 : Nat) (0 : Int)),
      ixor IntKind.u8
      ((arrOf
      ((chunks IntKind.u8 (4 : Nat) x fw).getD
      (IntKind.i64.wrap
      ((↑(chunks IntKind.u8 (4 : Nat) x fw).length : Int) - IntKind.i64.wrap ((↑key.length : Int).tdiv (4 : Int)))).toNat
      (D.val (Value.bool false)))).getD
      (1 : Nat) (0 : Int))
      ((tuL n fw z).getD (1 : Nat) (0 : Int)),
      ixor IntKind.u8
      ((arrOf
      ((chunks IntKind.u8 (4 : Nat) x fw).getD
      (IntKind.i64.wrap
      ((↑(chunks IntKind.u8 (4 : Nat) x fw).length : Int) - IntKind.i64.wrap ((↑key.length : Int).tdiv (4 : Int)))).toNat
      (D.val (Value.bool false)))).getD
      (2 : Nat) (0 : Int))
      ((tuL n fw z).getD (2 : Nat) (0 : Int)),
      ixor IntKind.u8
      ((arrOf
      ((chunks IntKind.u8 (4 : Nat) x fw).getD
      (IntKind.i64.wrap
      ((↑(chunks IntKind.u8 (4 : Nat) x fw).length : Int) - IntKind.i64.wrap ((↑key.length : Int).tdiv (4 : Int)))).toNat
      (D.val (Value.bool false)))).getD
      (3 : Nat) (0 : Int))
      ((tuL n fw z).getD (3 : Nat) (0 : Int))]]).length <
      (4 : Nat) * (n + (7 : Nat)) - x
    | false => true = true ∧ True ∧ True ∧ (false = false ∧ True) ∧ True ∧ D.tup [D.st [D.slc (4 : Nat) (chunks IntKind.u8 (4 : Nat) x fw), D.arr IntKind.u8 (256 : Nat) boxP, D.arr IntKind.u8 (256 : Nat) boxU], D.val (Value.int IntKind.i64 (0 : Int))] = F
 | false =>
  True ∧
  True ∧
  True ∧
  (0 : Nat) = (0 : Nat) ∧
  (True ∧ false = false ∧ ((1 : Nat) < (3 : Nat) ∧ Sk.arr (256 : Nat) = Sk.arr (256 : Nat)) ∧ True) ∧
  True ∧
  True ∧
  true = true ∧
  true = true ∧
  True ∧
  (Sk.st [Sk.one, Sk.arr (256 : Nat), Sk.arr (256 : Nat)] = Sk.st [Sk.one, Sk.arr (256 : Nat), Sk.arr (256 : Nat)] ∧ (1 : Nat) < (3 : Nat)) ∧
  ((256 : Nat) ≠ (0 : Nat) ∧ (256 : Nat) = (256 : Nat) ∧ true = true) ∧
  (∃ (l : List Int), [D.arr IntKind.u8 (256 : Nat) boxP] = [D.arr IntKind.u8 (256 : Nat) l] ∧ okb l ∧ l.length = (256 : Nat)) ∧
  True ∧
  (Sk.st [Sk.one, Sk.arr (256 : Nat), Sk.arr (256 : Nat)] = Sk.st [Sk.one, Sk.arr (256 : Nat), Sk.arr (256 : Nat)] ∧ (2 : Nat) < (3 : Nat)) ∧
  (((2 : Nat) < (3 : Nat) ∧ Sk.arr (256 : Nat) = Sk.arr (256 : Nat)) ∧ (256 : Nat) ≠ (0 : Nat) ∧ (256 : Nat) = (256 : Nat) ∧ false = false) ∧
  True ∧
  True ∧
  (4 : Int) ≠ (0 : Int) ∧
  True ∧
  True ∧
  True ∧
  (((AV.d (D.val (Value.int IntKind.i64 (0 : Int))) = AV.d (D.val (Value.int IntKind.i64 (↑(Int.toNat (0 : Int)) : Int))) ∧ True) ∧
  (some (Blk.lnk [D.slc (4 : Nat) [], D.arr IntKind.u8 (256 : Nat) boxP, D.arr IntKind.u8 (256 : Nat) (gub boxP (256 : Nat))] (0 : Nat) (some (526 : Nat))) = some (Blk.lnk [D.slc (4 : Nat) [], D.arr IntKind.u8 (256 : Nat) boxP, D.arr IntKind.u8 (256 : Nat) boxU] (0 : Nat) (some (526 : Nat))) ∧
  some (Blk.row (39 : TypeId) (D.slc (4 : Nat) [])) = some (Blk.row (39 : TypeId) (D.slc (4 : Nat) (chunks IntKind.u8 (4 : Nat) (Int.toNat (0 : Int)) fw))) ∧ True) ∧
  true = true) ∧
  Int.toNat (0 : Int) ≤ n) ∧
  ∀ (x : Nat),
  x ≤ n →
  true = true ∧
  True ∧
  match decide ((↑x : Int) < IntKind.i64.wrap ((↑key.length : Int).tdiv (4 : Int))) with
  | true =>
   True ∧
   True ∧
   true = true ∧
   true = true ∧
   True ∧
   (Sk.st [Sk.one, Sk.arr (256 : Nat), Sk.arr (256 : Nat)] = Sk.st [Sk.one, Sk.arr (256 : Nat), Sk.arr (256 : Nat)] ∧ (0 : Nat) < (3 : Nat)) ∧
   ((1 : Nat) = (1 : Nat) ∧ false = false) ∧
   True ∧
   True ∧
   True ∧
   ((0 : Int) ≤ IntKind.i64.wrap ((4 : Int) * (↑x : Int)) ∧ IntKind.i64.wrap ((4 : Int) * (↑x : Int)) < (↑key.length : Int)) ∧
   True ∧
   True ∧
   True ∧
   True ∧
   ((0 : Int) ≤ IntKind.i64.wrap (IntKind.i64.wrap ((4 : Int) * (↑x : Int)) + (1 : Int)) ∧ IntKind.i64.wrap (IntKind.i64.wrap ((4 : Int) * (↑x : Int)) + (1 : Int)) < (↑key.length : Int)) ∧
   True ∧
   True ∧
   True ∧
   True ∧
   ((0 : Int) ≤ IntKind.i64.wrap (IntKind.i64.wrap ((4 : Int) * (↑x : Int)) + (2 : Int)) ∧ IntKind.i64.wrap (IntKind.i64.wrap ((4 : Int) * (↑x : Int)) + (2 : Int)) < (↑key.length : Int)) ∧
   True ∧
   True ∧
   True ∧
   True ∧
   ((0 : Int) ≤ IntKind.i64.wrap (IntKind.i64.wrap ((4 : Int) * (↑x : Int)) + (3 : Int)) ∧ IntKind.i64.wrap (IntKind.i64.wrap ((4 : Int) * (↑x : Int)) + (3 : Int)) < (↑key.length : Int)) ∧
   ((1 : Nat) = (1 : Nat) ∧
   false = false ∧ ((0 : Nat) < (4 : Nat) ∧ ([] : List Nat) = [] ∧ true = true) ∧ false = false ∧ ((1 : Nat) < (4 : Nat) ∧ ([] : List Nat) = [] ∧ true = true) ∧ false = false ∧ ((2 : Nat) < (4 : Nat) ∧ ([] : List Nat) = [] ∧ true = true) ∧ false = false ∧ ((3 : Nat) < (4 : Nat) ∧ ([] : List Nat) = [] ∧ true = true) ∧ True) ∧
   ((1 : Nat) ≤ (4096 : Nat) ∧ (4 : Nat) ≤ (256 : Nat) ∧ (4 : Nat) ≠ (0 : Nat)) ∧
   ((39 : TypeId) = (39 : TypeId) ∧
   (52 : Nat) = (52 : Nat) ∧
   true = true ∧
   (chunks IntKind.u8 (4 : Nat) x fw ++
   [D.arr IntKind.u8 (4 : Nat)
   [key.getD (IntKind.i64.wrap ((4 : Int) * (↑x : Int))).toNat (0 : Int), key.getD (IntKind.i64.wrap (IntKind.i64.wrap ((4 : Int) * (↑x : Int)) + (1 : Int))).toNat (0 : Int),
   key.getD (IntKind.i64.wrap (IntKind.i64.wrap ((4 : Int) * (↑x : Int)) + (2 : Int))).toNat (0 : Int), key.getD (IntKind.i64.wrap (IntKind.i64.wrap ((4 : Int) * (↑x : Int)) + (3 : Int))).toNat (0 : Int)]]).length ≤
   (140737488355328 : Nat) ∧
   (chunks IntKind.u8 (4 : Nat) x fw ++
   [D.arr IntKind.u8 (4 : Nat)
   [key.getD (IntKind.i64.wrap ((4 : Int) * (↑x : Int))).toNat (0 : Int), key.getD (IntKind.i64.wrap (IntKind.i64.wrap ((4 : Int) * (↑x : Int)) + (1 : Int))).toNat (0 : Int),
   key.getD (IntKind.i64.wrap (IntKind.i64.wrap ((4 : Int) * (↑x : Int)) + (2 : Int))).toNat (0 : Int), key.getD (IntKind.i64.wrap (IntKind.i64.wrap ((4 : Int) * (↑x : Int)) + (3 : Int))).toNat (0 : Int)]]).length *
   (4 : Nat) ≤
   (140737488355328 : Nat) ∧
   (4 : Nat) ≠ (0 : Nat) ∧ (4 : Nat) = (4 : Nat)) ∧
   True ∧
   (Sk.st [Sk.one, Sk.arr (256 : Nat), Sk.arr (256 : Nat)] = Sk.st [Sk.one, Sk.arr (256 : Nat), Sk.arr (256 : Nat)] ∧ (0 : Nat) < (3 : Nat)) ∧
   ((0 : Nat) = (0 : Nat) ∧ (1 : Nat) = (1 : Nat)) ∧
   True ∧
   True ∧
   ((AV.d (D.val (Value.int IntKind.i64 (IntKind.i64.wrap ((↑x : Int) + (1 : Int))))) = AV.d (D.val (Value.int IntKind.i64 (↑(IntKind.i64.wrap ((↑x : Int) + (1 : Int))).toNat : Int))) ∧ True) ∧
   (sm (some (Blk.lnk [D.slc (4 : Nat) [], D.arr IntKind.u8 (256 : Nat) boxP, D.arr IntKind.u8 (256 : Nat) boxU] (0 : Nat) (some (526 : Nat)))) ∧
   some
   (Blk.row (39 : TypeId)
   (D.slc (4 : Nat)
   (chunks IntKind.u8 (4 : Nat) x fw ++
   [D.arr IntKind.u8 (4 : Nat)
   [key.getD (IntKind.i64.wrap ((4 : Int) * (↑x : Int))).toNat (0 : Int), key.getD (IntKind.i64.wrap (IntKind.i64.wrap ((4 : Int) * (↑x : Int)) + (1 : Int))).toNat (0 : Int),
   key.getD (IntKind.i64.wrap (IntKind.i64.wrap ((4 : Int) * (↑x : Int)) + (2 : Int))).toNat (0 : Int), key.getD (IntKind.i64.wrap (IntKind.i64.wrap ((4 : Int) * (↑x : Int)) + (3 : Int))).toNat (0 : Int)]]))) =
   some (Blk.row (39 : TypeId) (D.slc (4 : Nat) (chunks IntKind.u8 (4 : Nat) (IntKind.i64.wrap ((↑x : Int) + (1 : Int))).toNat fw))) ∧
   True) ∧
   true = true) ∧
   (IntKind.i64.wrap ((↑x : Int) + (1 : Int))).toNat ≤ n ∧ n - (IntKind.i64.wrap ((↑x : Int) + (1 : Int))).toNat < n - x
  | false =>
   True ∧
   (((AV.d (D.val (Value.int IntKind.u8 (1 : Int))) = AV.d (D.val (Value.int IntKind.u8 (↑(gpw (2 : Nat) (((chunks IntKind.u8 (4 : Nat) x fw).length - (1 : Nat)) / n)) : Int))) ∧ True) ∧
   (sm (some (Blk.lnk [D.slc (4 : Nat) [], D.arr IntKind.u8 (256 : Nat) boxP, D.arr IntKind.u8 (256 : Nat) boxU] (0 : Nat) (some (526 : Nat)))) ∧
   some (Blk.row (39 : TypeId) (D.slc (4 : Nat) (chunks IntKind.u8 (4 : Nat) x fw))) = some (Blk.row (39 : TypeId) (D.slc (4 : Nat) (chunks IntKind.u8 (4 : Nat) (chunks IntKind.u8 (4 : Nat) x fw).length fw))) ∧ True) ∧
   true = true) ∧
   n ≤ (chunks IntKind.u8 (4 : Nat) x fw).length ∧ (chunks IntKind.u8 (4 : Nat) x fw).length ≤ (4 : Nat) * (n + (7 : Nat))) ∧
   ∀ (x : Nat),
   n ≤ x ∧ x ≤ (4 : Nat) * (n + (7 : Nat)) →
   true = true ∧
   true = true ∧
   True ∧
   (Sk.st [Sk.one, Sk.arr (256 : Nat), Sk.arr (256 : Nat)] = Sk.st [Sk.one, Sk.arr (256 : Nat), Sk.arr (256 : Nat)] ∧ (0 : Nat) < (3 : Nat)) ∧
   ((1 : Nat) = (1 : Nat) ∧ false = false) ∧
   True ∧
   True ∧
   True ∧
   True ∧
   True ∧
   match decide ((↑(chunks IntKind.u8 (4 : Nat) x fw).length : Int) < IntKind.i64.wrap ((4 : Int) * IntKind.i64.wrap (IntKind.i64.wrap ((↑key.length : Int).tdiv (4 : Int)) + (7 : Int)))) with
   | true =>
    true = true ∧
    True ∧
    (Sk.st [Sk.one, Sk.arr (256 : Nat), Sk.arr (256 : Nat)] = Sk.st [Sk.one, Sk.arr (256 : Nat), Sk.arr (256 : Nat)] ∧ (0 : Nat) < (3 : Nat)) ∧
    ((1 : Nat) = (1 : Nat) ∧ false = false) ∧
    True ∧
    True ∧
    true = true ∧
    True ∧
    (Sk.st [Sk.one, Sk.arr (256 : Nat), Sk.arr (256 : Nat)] = Sk.st [Sk.one, Sk.arr (256 : Nat), Sk.arr (256 : Nat)] ∧ (0 : Nat) < (3 : Nat)) ∧
    ((1 : Nat) = (1 : Nat) ∧ false = false) ∧
    True ∧
    True ∧
    True ∧
    ((0 : Int) ≤ IntKind.i64.wrap ((↑(chunks IntKind.u8 (4 : Nat) x fw).length : Int) - IntKind.i64.wrap ((↑key.length : Int).tdiv (4 : Int))) ∧
    IntKind.i64.wrap ((↑(chunks IntKind.u8 (4 : Nat) x fw).length : Int) - IntKind.i64.wrap ((↑key.length : Int).tdiv (4 : Int))) < (↑(chunks IntKind.u8 (4 : Nat) x fw).length : Int) ∧ (4 : Nat) ≠ (0 : Nat) ∧ (4 : Nat) = (4 : Nat)) ∧
    ((IntKind.i64.wrap ((↑(chunks IntKind.u8 (4 : Nat) x fw).length : Int) - IntKind.i64.wrap ((↑key.length : Int).tdiv (4 : Int)))).toNat < (chunks IntKind.u8 (4 : Nat) x fw).length ∧
    (4 : Nat) ≠ (0 : Nat) ∧
    (4 : Nat) = (4 : Nat) ∧
    D.arr IntKind.u8 (4 : Nat) (arrOf ((chunks IntKind.u8 (4 : Nat) x fw).getD (IntKind.i64.wrap ((↑(chunks IntKind.u8 (4 : Nat) x fw).length : Int) - IntKind.i64.wrap ((↑key.length : Int).tdiv (4 : Int)))).toNat (D.val (Value.bool false)))) =
    (chunks IntKind.u8 (4 : Nat) x fw).getD (IntKind.i64.wrap ((↑(chunks IntKind.u8 (4 : Nat) x fw).length : Int) - IntKind.i64.wrap ((↑key.length : Int).tdiv (4 : Int)))).toNat (D.val (Value.bool false)) ∧
    true = true) ∧
    true = true ∧
    True ∧
    (true = true ∧ Sk.st [Sk.one, Sk.arr (256 : Nat), Sk.arr (256 : Nat)] = Sk.st [Sk.one, Sk.arr (256 : Nat), Sk.arr (256 : Nat)] ∧ (0 : Nat) < (3 : Nat)) ∧
    (true = true ∧ (1 : Nat) = (1 : Nat) ∧ false = false) ∧
    True ∧
    True ∧
    (true = true ∧
    (0 : Int) ≤ IntKind.i64.wrap ((↑(chunks IntKind.u8 (4 : Nat) x fw).length : Int) - (1 : Int)) ∧
    IntKind.i64.wrap ((↑(chunks IntKind.u8 (4 : Nat) x fw).length : Int) - (1 : Int)) < (↑(chunks IntKind.u8 (4 : Nat) x fw).length : Int) ∧ (4 : Nat) ≠ (0 : Nat) ∧ (4 : Nat) = (4 : Nat)) ∧
    (true = true ∧
    (IntKind.i64.wrap ((↑(chunks IntKind.u8 (4 : Nat) x fw).length : Int) - (1 : Int))).toNat < (chunks IntKind.u8 (4 : Nat) x fw).length ∧
    (4 : Nat) ≠ (0 : Nat) ∧
    (4 : Nat) = (4 : Nat) ∧
    D.arr IntKind.u8 (4 : Nat) (arrOf ((chunks IntKind.u8 (4 : Nat) x fw).getD (IntKind.i64.wrap ((↑(chunks IntKind.u8 (4 : Nat) x fw).length : Int) - (1 : Int))).toNat (D.val (Value.bool false)))) =
    (chunks IntKind.u8 (4 : Nat) x fw).getD (IntKind.i64.wrap ((↑(chunks IntKind.u8 (4 : Nat) x fw).length : Int) - (1 : Int))).toNat (D.val (Value.bool false)) ∧
    true = true) ∧
    (True ∧ (4 : Nat) ≠ (0 : Nat)) ∧
    (True ∧ (4 : Nat) ≠ (0 : Nat)) ∧
    (true = true ∧ Sk.arr (4 : Nat) = Sk.arr (4 : Nat) ∧ (4 : Nat) ≠ (0 : Nat) ∧ (4 : Nat) = (4 : Nat) ∧ false = false) ∧
    (Sk.arr (4 : Nat) = Sk.arr (4 : Nat) ∧ (4 : Nat) ≠ (0 : Nat) ∧ (4 : Nat) = (4 : Nat) ∧ false = false) ∧
    True ∧
    True ∧
    IntKind.i64.wrap ((↑key.length : Int).tdiv (4 : Int)) ≠ (0 : Int) ∧
    True ∧
    (match (↑(chunks IntKind.u8 (4 : Nat) x fw).length : Int).tmod (IntKind.i64.wrap ((↑key.length : Int).tdiv (4 : Int))) == (0 : Int) with
    | true =>
     true = true ∧
     ((0 : Int) ≤ (1 : Int) ∧ (1 : Int) < (↑(4 : Nat) : Int) ∧ (4 : Nat) = (4 : Nat) ∧ (1 : Nat) = (1 : Nat)) ∧
     ((1 : Nat) ≠ (0 : Nat) ∧ (1 : Nat) = (1 : Nat) ∧ false = false) ∧
     True ∧
     (Sk.st [Sk.one, Sk.arr (256 : Nat), Sk.arr (256 : Nat)] = Sk.st [Sk.one, Sk.arr (256 : Nat), Sk.arr (256 : Nat)] ∧ (1 : Nat) < (3 : Nat)) ∧
     ((0 : Int) ≤ (arrOf ((chunks IntKind.u8 (4 : Nat) x fw).getD (IntKind.i64.wrap ((↑(chunks IntKind.u8 (4 : Nat) x fw).length : Int) - (1 : Int))).toNat (D.val (Value.bool false)))).getD (1 : Nat) (0 : Int) ∧
     (arrOf ((chunks IntKind.u8 (4 : Nat) x fw).getD (IntKind.i64.wrap ((↑(chunks IntKind.u8 (4 : Nat) x fw).length : Int) - (1 : Int))).toNat (D.val (Value.bool false)))).getD (1 : Nat) (0 : Int) < (↑(256 : Nat) : Int) ∧
     (256 : Nat) = (256 : Nat) ∧ (1 : Nat) = (1 : Nat)) ∧
     ((1 : Nat) ≠ (0 : Nat) ∧ (1 : Nat) = (1 : Nat) ∧ false = false) ∧
     True ∧
     True ∧
     true = true ∧
     ((0 : Int) ≤ (2 : Int) ∧ (2 : Int) < (↑(4 : Nat) : Int) ∧ (4 : Nat) = (4 : Nat) ∧ (1 : Nat) = (1 : Nat)) ∧
     ((1 : Nat) ≠ (0 : Nat) ∧ (1 : Nat) = (1 : Nat) ∧ false = false) ∧
     True ∧
     (Sk.st [Sk.one, Sk.arr (256 : Nat), Sk.arr (256 : Nat)] = Sk.st [Sk.one, Sk.arr (256 : Nat), Sk.arr (256 : Nat)] ∧ (1 : Nat) < (3 : Nat)) ∧
     ((0 : Int) ≤
     (arrOf ((chunks IntKind.u8 (4 : Nat) x fw).getD (IntKind.i64.wrap ((↑(chunks IntKind.u8 (4 : Nat) x fw).length : Int) - (1 : Int))).toNat (D.val (Value.bool false)))).getD (2 : Nat) (0 : Int) ∧
     (arrOf ((chunks IntKind.u8 (4 : Nat) x fw).getD (IntKind.i64.wrap ((↑(chunks IntKind.u8 (4 : Nat) x fw).length : Int) - (1 : Int))).toNat (D.val (Value.bool false)))).getD (2 : Nat) (0 : Int) <
     (↑(256 : Nat) : Int) ∧
     (256 : Nat) = (256 : Nat) ∧ (1 : Nat) = (1 : Nat)) ∧
     ((1 : Nat) ≠ (0 : Nat) ∧ (1 : Nat) = (1 : Nat) ∧ false = false) ∧
     true = true ∧
     ((0 : Int) ≤ (3 : Int) ∧ (3 : Int) < (↑(4 : Nat) : Int) ∧ (4 : Nat) = (4 : Nat) ∧ (1 : Nat) = (1 : Nat)) ∧
     ((1 : Nat) ≠ (0 : Nat) ∧ (1 : Nat) = (1 : Nat) ∧ false = false) ∧
     True ∧
     (Sk.st [Sk.one, Sk.arr (256 : Nat), Sk.arr (256 : Nat)] = Sk.st [Sk.one, Sk.arr (256 : Nat), Sk.arr (256 : Nat)] ∧ (1 : Nat) < (3 : Nat)) ∧
     ((0 : Int) ≤
     (arrOf ((chunks IntKind.u8 (4 : Nat) x fw).getD (IntKind.i64.wrap ((↑(chunks IntKind.u8 (4 : Nat) x fw).length : Int) - (1 : Int))).toNat (D.val (Value.bool false)))).getD (3 : Nat)
     (0 : Int) ∧
     (arrOf ((chunks IntKind.u8 (4 : Nat) x fw).getD (IntKind.i64.wrap ((↑(chunks IntKind.u8 (4 : Nat) x fw).length : Int) - (1 : Int))).toNat (D.val (Value.bool false)))).getD (3 : Nat)
     (0 : Int) <
     (↑(256 : Nat) : Int) ∧
     (256 : Nat) = (256 : Nat) ∧ (1 : Nat) = (1 : Nat)) ∧
     ((1 : Nat) ≠ (0 : Nat) ∧ (1 : Nat) = (1 : Nat) ∧ false = false) ∧
     true = true ∧
     ((0 : Int) ≤ (0 : Int) ∧ (0 : Int) < (↑(4 : Nat) : Int) ∧ (4 : Nat) = (4 : Nat) ∧ (1 : Nat) = (1 : Nat)) ∧
     ((1 : Nat) ≠ (0 : Nat) ∧ (1 : Nat) = (1 : Nat) ∧ false = false) ∧
     True ∧
     (Sk.st [Sk.one, Sk.arr (256 : Nat), Sk.arr (256 : Nat)] = Sk.st [Sk.one, Sk.arr (256 : Nat), Sk.arr (256 : Nat)] ∧ (1 : Nat) < (3 : Nat)) ∧
     ((0 : Int) ≤
     (arrOf
     ((chunks IntKind.u8 (4 : Nat) x fw).getD (IntKind.i64.wrap ((↑(chunks IntKind.u8 (4 : Nat) x fw).length : Int) - (1 : Int))).toNat (D.val (Value.bool false)))).getD
     (0 : Nat) (0 : Int) ∧
     (arrOf ((chunks IntKind.u8 (4 : Nat) x fw).getD (IntKind.i64.wrap ((↑(chunks IntKind.u8 (4 : Nat) x fw).length : Int) - (1 : Int))).toNat (D.val (Value.bool false)))).getD
     (0 : Nat) (0 : Int) <
     (↑(256 : Nat) : Int) ∧
     (256 : Nat) = (256 : Nat) ∧ (1 : Nat) = (1 : Nat)) ∧
     ((1 : Nat) ≠ (0 : Nat) ∧ (1 : Nat) = (1 : Nat) ∧ false = false) ∧
     ((1 : Nat) = (1 : Nat) ∧
     false = false ∧
     ((0 : Nat) < (4 : Nat) ∧ ([] : List Nat) = [] ∧ true = true) ∧
     false = false ∧
     ((1 : Nat) < (4 : Nat) ∧ ([] : List Nat) = [] ∧ true = true) ∧
     false = false ∧ ((2 : Nat) < (4 : Nat) ∧ ([] : List Nat) = [] ∧ true = true) ∧ false = false ∧ ((3 : Nat) < (4 : Nat) ∧ ([] : List Nat) = [] ∧ true = true) ∧ True) ∧
     (Sk.arr (4 : Nat) = Sk.arr (4 : Nat) ∧ (4 : Nat) ≠ (0 : Nat) ∧ (4 : Nat) = (4 : Nat) ∧ false = false) ∧
     True ∧
     (∃ (a : Nat),
     ∃ (b : Nat),
     [D.val (Value.int IntKind.u8 (↑(gpw (2 : Nat) ((x - (1 : Nat)) / n)) : Int)), D.val (Value.int IntKind.u8 (2 : Int))] =
     [D.val (Value.int IntKind.u8 (↑a : Int)), D.val (Value.int IntKind.u8 (↑b : Int))] ∧
     a < (256 : Nat) ∧ b < (256 : Nat)) ∧
     True ∧
     ((AV.d (D.val (Value.int IntKind.u8 (↑(gm (↑(gpw (2 : Nat) ((x - (1 : Nat)) / n)) : Int).toNat (2 : Nat)) : Int))) =
     AV.d (D.val (Value.int IntKind.u8 (↑(gpw (2 : Nat) ((↑(chunks IntKind.u8 (4 : Nat) x fw).length : Int).toNat / n)) : Int))) ∧
     True) ∧
     (sm
     (some
     (Blk.fix
     (D.arr IntKind.u8 (4 : Nat)
     (arrOf
     ((chunks IntKind.u8 (4 : Nat) x fw).getD
     (IntKind.i64.wrap ((↑(chunks IntKind.u8 (4 : Nat) x fw).length : Int) - IntKind.i64.wrap ((↑key.length : Int).tdiv (4 : Int)))).toNat
     (D.val (Value.bool false))))))) ∧
     some
     (Blk.fix
     (D.arr IntKind.u8 (4 : Nat)
     [ixor IntKind.u8
     (boxP.getD
     ((arrOf
     ((chunks IntKind.u8 (4 : Nat) x fw).getD (IntKind.i64.wrap ((↑(chunks IntKind.u8 (4 : Nat) x fw).length : Int) - (1 : Int))).toNat
     (D.val (Value.bool false)))).getD
     (1 : Nat) (0 : Int)).toNat
     (0 : Int))
     (↑(gpw (2 : Nat) ((x - (1 : Nat)) / n)) : Int),
     boxP.getD
     ((arrOf
     ((chunks IntKind.u8 (4 : Nat) x fw).getD (IntKind.i64.wrap ((↑(chunks IntKind.u8 (4 : Nat) x fw).length : Int) - (1 : Int))).toNat
     (D.val (Value.bool false)))).getD
     (2 : Nat) (0 : Int)).toNat
     (0 : Int),
     boxP.getD
     ((arrOf
     ((chunks IntKind.u8 (4 : Nat) x fw).getD (IntKind.i64.wrap ((↑(chunks IntKind.u8 (4 : Nat) x fw).length : Int) - (1 : Int))).toNat
     (D.val (Value.bool false)))).getD
     (3 : Nat) (0 : Int)).toNat
     (0 : Int),
     boxP.getD
     ((arrOf
     ((chunks IntKind.u8 (4 : Nat) x fw).getD (IntKind.i64.wrap ((↑(chunks IntKind.u8 (4 : Nat) x fw).length : Int) - (1 : Int))).toNat
     (D.val (Value.bool false)))).getD
     (0 : Nat) (0 : Int)).toNat
     (0 : Int)])) =
     some (Blk.fix (D.arr IntKind.u8 (4 : Nat) (tuL n fw (↑(chunks IntKind.u8 (4 : Nat) x fw).length : Int).toNat))) ∧
     sm (some (Blk.lnk [D.slc (4 : Nat) [], D.arr IntKind.u8 (256 : Nat) boxP, D.arr IntKind.u8 (256 : Nat) boxU] (0 : Nat) (some (526 : Nat)))) ∧
     sm (some (Blk.row (39 : TypeId) (D.slc (4 : Nat) (chunks IntKind.u8 (4 : Nat) x fw)))) ∧ True) ∧
     true = true) ∧
     (↑(↑(chunks IntKind.u8 (4 : Nat) x fw).length : Int).toNat : Int) = (↑(chunks IntKind.u8 (4 : Nat) x fw).length : Int)
    | false =>
     True ∧
     True ∧
     True ∧
     match IntKind.i64.wrap ((↑key.length : Int).tdiv (4 : Int)) == (8 : Int) with
     | true =>
      True ∧
      (8 : Int) ≠ (0 : Int) ∧
      True ∧
      True ∧
      match (↑(chunks IntKind.u8 (4 : Nat) x fw).length : Int).tmod (8 : Int) == (4 : Int) with
      | true =>
       true = true ∧
       ((0 : Int) ≤ (0 : Int) ∧ (0 : Int) < (↑(4 : Nat) : Int) ∧ (4 : Nat) = (4 : Nat) ∧ (1 : Nat) = (1 : Nat)) ∧
       ((1 : Nat) ≠ (0 : Nat) ∧ (1 : Nat) = (1 : Nat) ∧ false = false) ∧
       True ∧
       (Sk.st [Sk.one, Sk.arr (256 : Nat), Sk.arr (256 : Nat)] = Sk.st [Sk.one, Sk.arr (256 : Nat), Sk.arr (256 : Nat)] ∧ (1 : Nat) < (3 : Nat)) ∧
       ((0 : Int) ≤
       (arrOf ((chunks IntKind.u8 (4 : Nat) x fw).getD (IntKind.i64.wrap ((↑(chunks IntKind.u8 (4 : Nat) x fw).length : Int) - (1 : Int))).toNat (D.val (Value.bool false)))).getD (0 : Nat) (0 : Int) ∧
       (arrOf ((chunks IntKind.u8 (4 : Nat) x fw).getD (IntKind.i64.wrap ((↑(chunks IntKind.u8 (4 : Nat) x fw).length : Int) - (1 : Int))).toNat (D.val (Value.bool false)))).getD (0 : Nat) (0 : Int) <
       (↑(256 : Nat) : Int) ∧
       (256 : Nat) = (256 : Nat) ∧ (1 : Nat) = (1 : Nat)) ∧
       ((1 : Nat) ≠ (0 : Nat) ∧ (1 : Nat) = (1 : Nat) ∧ false = false) ∧
       true = true ∧
       ((0 : Int) ≤ (1 : Int) ∧ (1 : Int) < (↑(4 : Nat) : Int) ∧ (4 : Nat) = (4 : Nat) ∧ (1 : Nat) = (1 : Nat)) ∧
       ((1 : Nat) ≠ (0 : Nat) ∧ (1 : Nat) = (1 : Nat) ∧ false = false) ∧
       True ∧
       (Sk.st [Sk.one, Sk.arr (256 : Nat), Sk.arr (256 : Nat)] = Sk.st [Sk.one, Sk.arr (256 : Nat), Sk.arr (256 : Nat)] ∧ (1 : Nat) < (3 : Nat)) ∧
       ((0 : Int) ≤
       (arrOf ((chunks IntKind.u8 (4 : Nat) x fw).getD (IntKind.i64.wrap ((↑(chunks IntKind.u8 (4 : Nat) x fw).length : Int) - (1 : Int))).toNat (D.val (Value.bool false)))).getD (1 : Nat)
       (0 : Int) ∧
       (arrOf ((chunks IntKind.u8 (4 : Nat) x fw).getD (IntKind.i64.wrap ((↑(chunks IntKind.u8 (4 : Nat) x fw).length : Int) - (1 : Int))).toNat (D.val (Value.bool false)))).getD (1 : Nat)
       (0 : Int) <
       (↑(256 : Nat) : Int) ∧
       (256 : Nat) = (256 : Nat) ∧ (1 : Nat) = (1 : Nat)) ∧
       ((1 : Nat) ≠ (0 : Nat) ∧ (1 : Nat) = (1 : Nat) ∧ false = false) ∧
       true = true ∧
       ((0 : Int) ≤ (2 : Int) ∧ (2 : Int) < (↑(4 : Nat) : Int) ∧ (4 : Nat) = (4 : Nat) ∧ (1 : Nat) = (1 : Nat)) ∧
       ((1 : Nat) ≠ (0 : Nat) ∧ (1 : Nat) = (1 : Nat) ∧ false = false) ∧
       True ∧
       (Sk.st [Sk.one, Sk.arr (256 : Nat), Sk.arr (256 : Nat)] = Sk.st [Sk.one, Sk.arr (256 : Nat), Sk.arr (256 : Nat)] ∧ (1 : Nat) < (3 : Nat)) ∧
       ((0 : Int) ≤
       (arrOf
       ((chunks IntKind.u8 (4 : Nat) x fw).getD (IntKind.i64.wrap ((↑(chunks IntKind.u8 (4 : Nat) x fw).length : Int) - (1 : Int))).toNat (D.val (Value.bool false)))).getD
       (2 : Nat) (0 : Int) ∧
       (arrOf ((chunks IntKind.u8 (4 : Nat) x fw).getD (IntKind.i64.wrap ((↑(chunks IntKind.u8 (4 : Nat) x fw).length : Int) - (1 : Int))).toNat (D.val (Value.bool false)))).getD
       (2 : Nat) (0 : Int) <
       (↑(256 : Nat) : Int) ∧
       (256 : Nat) = (256 : Nat) ∧ (1 : Nat) = (1 : Nat)) ∧
       ((1 : Nat) ≠ (0 : Nat) ∧ (1 : Nat) = (1 : Nat) ∧ false = false) ∧
       true = true ∧
       ((0 : Int) ≤ (3 : Int) ∧ (3 : Int) < (↑(4 : Nat) : Int) ∧ (4 : Nat) = (4 : Nat) ∧ (1 : Nat) = (1 : Nat)) ∧
       ((1 : Nat) ≠ (0 : Nat) ∧ (1 : Nat) = (1 : Nat) ∧ false = false) ∧
       True ∧
       (Sk.st [Sk.one, Sk.arr (256 : Nat), Sk.arr (256 : Nat)] = Sk.st [Sk.one, Sk.arr (256 : Nat), Sk.arr (256 : Nat)] ∧ (1 : Nat) < (3 : Nat)) ∧
       ((0 : Int) ≤
       (arrOf
       ((chunks IntKind.u8 (4 : Nat) x fw).getD (IntKind.i64.wrap ((↑(chunks IntKind.u8 (4 : Nat) x fw).length : Int) - (1 : Int))).toNat
       (D.val (Value.bool false)))).getD
       (3 : Nat) (0 : Int) ∧
       (arrOf
       ((chunks IntKind.u8 (4 : Nat) x fw).getD (IntKind.i64.wrap ((↑(chunks IntKind.u8 (4 : Nat) x fw).length : Int) - (1 : Int))).toNat
       (D.val (Value.bool false)))).getD
       (3 : Nat) (0 : Int) <
       (↑(256 : Nat) : Int) ∧
       (256 : Nat) = (256 : Nat) ∧ (1 : Nat) = (1 : Nat)) ∧
       ((1 : Nat) ≠ (0 : Nat) ∧ (1 : Nat) = (1 : Nat) ∧ false = false) ∧
       ((1 : Nat) = (1 : Nat) ∧
       false = false ∧
       ((0 : Nat) < (4 : Nat) ∧ ([] : List Nat) = [] ∧ true = true) ∧
       false = false ∧
       ((1 : Nat) < (4 : Nat) ∧ ([] : List Nat) = [] ∧ true = true) ∧
       false = false ∧ ((2 : Nat) < (4 : Nat) ∧ ([] : List Nat) = [] ∧ true = true) ∧ false = false ∧ ((3 : Nat) < (4 : Nat) ∧ ([] : List Nat) = [] ∧ true = true) ∧ True) ∧
       (Sk.arr (4 : Nat) = Sk.arr (4 : Nat) ∧ (4 : Nat) ≠ (0 : Nat) ∧ (4 : Nat) = (4 : Nat) ∧ false = false) ∧
       ((AV.d (D.val (Value.int IntKind.u8 (↑(gpw (2 : Nat) ((x - (1 : Nat)) / n)) : Int))) =
       AV.d (D.val (Value.int IntKind.u8 (↑(gpw (2 : Nat) ((↑(chunks IntKind.u8 (4 : Nat) x fw).length : Int).toNat / n)) : Int))) ∧
       True) ∧
       (sm
       (some
       (Blk.fix
       (D.arr IntKind.u8 (4 : Nat)
       (arrOf
       ((chunks IntKind.u8 (4 : Nat) x fw).getD
       (IntKind.i64.wrap ((↑(chunks IntKind.u8 (4 : Nat) x fw).length : Int) - IntKind.i64.wrap ((↑key.length : Int).tdiv (4 : Int)))).toNat
       (D.val (Value.bool false))))))) ∧
       some
       (Blk.fix
       (D.arr IntKind.u8 (4 : Nat)
       [boxP.getD
       ((arrOf
       ((chunks IntKind.u8 (4 : Nat) x fw).getD
       (IntKind.i64.wrap ((↑(chunks IntKind.u8 (4 : Nat) x fw).length : Int) - (1 : Int))).toNat
       (D.val (Value.bool false)))).getD
       (0 : Nat) (0 : Int)).toNat
       (0 : Int),
       boxP.getD
       ((arrOf
       ((chunks IntKind.u8 (4 : Nat) x fw).getD
       (IntKind.i64.wrap ((↑(chunks IntKind.u8 (4 : Nat) x fw).length : Int) - (1 : Int))).toNat
       (D.val (Value.bool false)))).getD
       (1 : Nat) (0 : Int)).toNat
       (0 : Int),
       boxP.getD
       ((arrOf
       ((chunks IntKind.u8 (4 : Nat) x fw).getD
       (IntKind.i64.wrap ((↑(chunks IntKind.u8 (4 : Nat) x fw).length : Int) - (1 : Int))).toNat
       (D.val (Value.bool false)))).getD
       (2 : Nat) (0 : Int)).toNat
       (0 : Int),
       boxP.getD
       ((arrOf
       ((chunks IntKind.u8 (4 : Nat) x fw).getD
       (IntKind.i64.wrap ((↑(chunks IntKind.u8 (4 : Nat) x fw).length : Int) - (1 : Int))).toNat
       (D.val (Value.bool false)))).getD
       (3 : Nat) (0 : Int)).toNat
       (0 : Int)])) =
       some (Blk.fix (D.arr IntKind.u8 (4 : Nat) (tuL n fw (↑(chunks IntKind.u8 (4 : Nat) x fw).length : Int).toNat))) ∧
       sm (some (Blk.lnk [D.slc (4 : Nat) [], D.arr IntKind.u8 (256 : Nat) boxP, D.arr IntKind.u8 (256 : Nat) boxU] (0 : Nat) (some (526 : Nat)))) ∧
       sm (some (Blk.row (39 : TypeId) (D.slc (4 : Nat) (chunks IntKind.u8 (4 : Nat) x fw)))) ∧ True) ∧
       true = true) ∧
       (↑(↑(chunks IntKind.u8 (4 : Nat) x fw).length : Int).toNat : Int) = (↑(chunks IntKind.u8 (4 : Nat) x fw).length : Int)
      | false =>
       ((AV.d (D.val (Value.int IntKind.u8 (↑(gpw (2 : Nat) ((x - (1 : Nat)) / n)) : Int))) = AV.d (D.val (Value.int IntKind.u8 (↑(gpw (2 : Nat) ((↑(chunks IntKind.u8 (4 : Nat) x fw).length : Int).toNat / n)) : Int))) ∧
       True) ∧
       (sm
       (some
       (Blk.fix
       (D.arr IntKind.u8 (4 : Nat)
       (arrOf
       ((chunks IntKind.u8 (4 : Nat) x fw).getD (IntKind.i64.wrap ((↑(chunks IntKind.u8 (4 : Nat) x fw).length : Int) - IntKind.i64.wrap ((↑key.length : Int).tdiv (4 : Int)))).toNat
       (D.val (Value.bool false))))))) ∧
       some
       (Blk.fix
       (D.arr IntKind.u8 (4 : Nat) (arrOf ((chunks IntKind.u8 (4 : Nat) x fw).getD (IntKind.i64.wrap ((↑(chunks IntKind.u8 (4 : Nat) x fw).length : Int) - (1 : Int))).toNat (D.val (Value.bool false)))))) =
       some (Blk.fix (D.arr IntKind.u8 (4 : Nat) (tuL n fw (↑(chunks IntKind.u8 (4 : Nat) x fw).length : Int).toNat))) ∧
       sm (some (Blk.lnk [D.slc (4 : Nat) [], D.arr IntKind.u8 (256 : Nat) boxP, D.arr IntKind.u8 (256 : Nat) boxU] (0 : Nat) (some (526 : Nat)))) ∧
       sm (some (Blk.row (39 : TypeId) (D.slc (4 : Nat) (chunks IntKind.u8 (4 : Nat) x fw)))) ∧ True) ∧
       true = true) ∧
       (↑(↑(chunks IntKind.u8 (4 : Nat) x fw).length : Int).toNat : Int) = (↑(chunks IntKind.u8 (4 : Nat) x fw).length : Int)
     | false =>
      True ∧
      ((AV.d (D.val (Value.int IntKind.u8 (↑(gpw (2 : Nat) ((x - (1 : Nat)) / n)) : Int))) = AV.d (D.val (Value.int IntKind.u8 (↑(gpw (2 : Nat) ((↑(chunks IntKind.u8 (4 : Nat) x fw).length : Int).toNat / n)) : Int))) ∧ True) ∧
      (sm
      (some
      (Blk.fix
      (D.arr IntKind.u8 (4 : Nat)
      (arrOf
      ((chunks IntKind.u8 (4 : Nat) x fw).getD (IntKind.i64.wrap ((↑(chunks IntKind.u8 (4 : Nat) x fw).length : Int) - IntKind.i64.wrap ((↑key.length : Int).tdiv (4 : Int)))).toNat
      (D.val (Value.bool false))))))) ∧
      some (Blk.fix (D.arr IntKind.u8 (4 : Nat) (arrOf ((chunks IntKind.u8 (4 : Nat) x fw).getD (IntKind.i64.wrap ((↑(chunks IntKind.u8 (4 : Nat) x fw).length : Int) - (1 : Int))).toNat (D.val (Value.bool false)))))) =
      some (Blk.fix (D.arr IntKind.u8 (4 : Nat) (tuL n fw (↑(chunks IntKind.u8 (4 : Nat) x fw).length : Int).toNat))) ∧
      sm (some (Blk.lnk [D.slc (4 : Nat) [], D.arr IntKind.u8 (256 : Nat) boxP, D.arr IntKind.u8 (256 : Nat) boxU] (0 : Nat) (some (526 : Nat)))) ∧
      sm (some (Blk.row (39 : TypeId) (D.slc (4 : Nat) (chunks IntKind.u8 (4 : Nat) x fw)))) ∧ True) ∧
      true = true) ∧
      (↑(↑(chunks IntKind.u8 (4 : Nat) x fw).length : Int).toNat : Int) = (↑(chunks IntKind.u8 (4 : Nat) x fw).length : Int)) ∧
     ∀ (z : Nat),
     (↑z : Int) = (↑(chunks IntKind.u8 (4 : Nat) x fw).length : Int) →
     true = true ∧
     true = true ∧
     true = true ∧
     True ∧
     (Sk.st [Sk.one, Sk.arr (256 : Nat), Sk.arr (256 : Nat)] = Sk.st [Sk.one, Sk.arr (256 : Nat), Sk.arr (256 : Nat)] ∧ (0 : Nat) < (3 : Nat)) ∧
     ((1 : Nat) = (1 : Nat) ∧ false = false) ∧
     ((0 : Int) ≤ (0 : Int) ∧ (0 : Int) < (↑(4 : Nat) : Int) ∧ (4 : Nat) = (4 : Nat) ∧ (1 : Nat) = (1 : Nat)) ∧
     ((1 : Nat) ≠ (0 : Nat) ∧ (1 : Nat) = (1 : Nat) ∧ false = false) ∧
     ((0 : Int) ≤ (0 : Int) ∧ (0 : Int) < (↑(4 : Nat) : Int) ∧ (4 : Nat) = (4 : Nat) ∧ (1 : Nat) = (1 : Nat)) ∧
     ((1 : Nat) ≠ (0 : Nat) ∧ (1 : Nat) = (1 : Nat) ∧ false = false) ∧
     True ∧
     ((0 : Int) ≤ (1 : Int) ∧ (1 : Int) < (↑(4 : Nat) : Int) ∧ (4 : Nat) = (4 : Nat) ∧ (1 : Nat) = (1 : Nat)) ∧
     ((1 : Nat) ≠ (0 : Nat) ∧ (1 : Nat) = (1 : Nat) ∧ false = false) ∧
     ((0 : Int) ≤ (1 : Int) ∧ (1 : Int) < (↑(4 : Nat) : Int) ∧ (4 : Nat) = (4 : Nat) ∧ (1 : Nat) = (1 : Nat)) ∧
     ((1 : Nat) ≠ (0 : Nat) ∧ (1 : Nat) = (1 : Nat) ∧ false = false) ∧
     True ∧
     ((0 : Int) ≤ (2 : Int) ∧ (2 : Int) < (↑(4 : Nat) : Int) ∧ (4 : Nat) = (4 : Nat) ∧ (1 : Nat) = (1 : Nat)) ∧
     ((1 : Nat) ≠ (0 : Nat) ∧ (1 : Nat) = (1 : Nat) ∧ false = false) ∧
     ((0 : Int) ≤ (2 : Int) ∧ (2 : Int) < (↑(4 : Nat) : Int) ∧ (4 : Nat) = (4 : Nat) ∧ (1 : Nat) = (1 : Nat)) ∧
     ((1 : Nat) ≠ (0 : Nat) ∧ (1 : Nat) = (1 : Nat) ∧ false = false) ∧
     True ∧
     ((0 : Int) ≤ (3 : Int) ∧ (3 : Int) < (↑(4 : Nat) : Int) ∧ (4 : Nat) = (4 : Nat) ∧ (1 : Nat) = (1 : Nat)) ∧
     ((1 : Nat) ≠ (0 : Nat) ∧ (1 : Nat) = (1 : Nat) ∧ false = false) ∧
     ((0 : Int) ≤ (3 : Int) ∧ (3 : Int) < (↑(4 : Nat) : Int) ∧ (4 : Nat) = (4 : Nat) ∧ (1 : Nat) = (1 : Nat)) ∧
     ((1 : Nat) ≠ (0 : Nat) ∧ (1 : Nat) = (1 : Nat) ∧ false = false) ∧
     True ∧
     ((1 : Nat) = (1 : Nat) ∧
     false = false ∧
     ((0 : Nat) < (4 : Nat) ∧ ([] : List Nat) = [] ∧ true = true) ∧
     false = false ∧
     ((1 : Nat) < (4 : Nat) ∧ ([] : List Nat) = [] ∧ true = true) ∧
     false = false ∧ ((2 : Nat) < (4 : Nat) ∧ ([] : List Nat) = [] ∧ true = true) ∧ false = false ∧ ((3 : Nat) < (4 : Nat) ∧ ([] : List Nat) = [] ∧ true = true) ∧ True) ∧
     ((1 : Nat) ≤ (4096 : Nat) ∧ (4 : Nat) ≤ (256 : Nat) ∧ (4 : Nat) ≠ (0 : Nat)) ∧
     ((39 : TypeId) = (39 : TypeId) ∧
     (52 : Nat) = (52 : Nat) ∧
     true = true ∧
     (chunks IntKind.u8 (4 : Nat) x fw ++
     [D.arr IntKind.u8 (4 : Nat)
     [ixor IntKind.u8
     ((arrOf
     ((chunks IntKind.u8 (4 : Nat) x fw).getD
     (IntKind.i64.wrap ((↑(chunks IntKind.u8 (4 : Nat) x fw).length : Int) - IntKind.i64.wrap ((↑key.length : Int).tdiv (4 : Int)))).toNat
     (D.val (Value.bool false)))).getD
     (0 : Nat) (0 : Int))
     ((tuL n fw z).getD (0 : Nat) (0 : Int)),
     ixor IntKind.u8
     ((arrOf
     ((chunks IntKind.u8 (4 : Nat) x fw).getD
     (IntKind.i64.wrap ((↑(chunks IntKind.u8 (4 : Nat) x fw).length : Int) - IntKind.i64.wrap ((↑key.length : Int).tdiv (4 : Int)))).toNat
     (D.val (Value.bool false)))).getD
     (1 : Nat) (0 : Int))
     ((tuL n fw z).getD (1 : Nat) (0 : Int)),
     ixor IntKind.u8
     ((arrOf
     ((chunks IntKind.u8 (4 : Nat) x fw).getD
     (IntKind.i64.wrap ((↑(chunks IntKind.u8 (4 : Nat) x fw).length : Int) - IntKind.i64.wrap ((↑key.length : Int).tdiv (4 : Int)))).toNat
     (D.val (Value.bool false)))).getD
     (2 : Nat) (0 : Int))
     ((tuL n fw z).getD (2 : Nat) (0 : Int)),
     ixor IntKind.u8
     ((arrOf
     ((chunks IntKind.u8 (4 : Nat) x fw).getD
     (IntKind.i64.wrap ((↑(chunks IntKind.u8 (4 : Nat) x fw).length : Int) - IntKind.i64.wrap ((↑key.length : Int).tdiv (4 : Int)))).toNat
     (D.val (Value.bool false)))).getD
     (3 : Nat) (0 : Int))
     ((tuL n fw z).getD (3 : Nat) (0 : Int))]]).length ≤
     (140737488355328 : Nat) ∧
     (chunks IntKind.u8 (4 : Nat) x fw ++
     [D.arr IntKind.u8 (4 : Nat)
     [ixor IntKind.u8
     ((arrOf
     ((chunks IntKind.u8 (4 : Nat) x fw).getD
     (IntKind.i64.wrap ((↑(chunks IntKind.u8 (4 : Nat) x fw).length : Int) - IntKind.i64.wrap ((↑key.length : Int).tdiv (4 : Int)))).toNat
     (D.val (Value.bool false)))).getD
     (0 : Nat) (0 : Int))
     ((tuL n fw z).getD (0 : Nat) (0 : Int)),
     ixor IntKind.u8
     ((arrOf
     ((chunks IntKind.u8 (4 : Nat) x fw).getD
     (IntKind.i64.wrap ((↑(chunks IntKind.u8 (4 : Nat) x fw).length : Int) - IntKind.i64.wrap ((↑key.length : Int).tdiv (4 : Int)))).toNat
     (D.val (Value.bool false)))).getD
     (1 : Nat) (0 : Int))
     ((tuL n fw z).getD (1 : Nat) (0 : Int)),
     ixor IntKind.u8
     ((arrOf
     ((chunks IntKind.u8 (4 : Nat) x fw).getD
     (IntKind.i64.wrap ((↑(chunks IntKind.u8 (4 : Nat) x fw).length : Int) - IntKind.i64.wrap ((↑key.length : Int).tdiv (4 : Int)))).toNat
     (D.val (Value.bool false)))).getD
     (2 : Nat) (0 : Int))
     ((tuL n fw z).getD (2 : Nat) (0 : Int)),
     ixor IntKind.u8
     ((arrOf
     ((chunks IntKind.u8 (4 : Nat) x fw).getD
     (IntKind.i64.wrap ((↑(chunks IntKind.u8 (4 : Nat) x fw).length : Int) - IntKind.i64.wrap ((↑key.length : Int).tdiv (4 : Int)))).toNat
     (D.val (Value.bool false)))).getD
     (3 : Nat) (0 : Int))
     ((tuL n fw z).getD (3 : Nat) (0 : Int))]]).length *
     (4 : Nat) ≤
     (140737488355328 : Nat) ∧
     (4 : Nat) ≠ (0 : Nat) ∧ (4 : Nat) = (4 : Nat)) ∧
     True ∧
     (Sk.st [Sk.one, Sk.arr (256 : Nat), Sk.arr (256 : Nat)] = Sk.st [Sk.one, Sk.arr (256 : Nat), Sk.arr (256 : Nat)] ∧ (0 : Nat) < (3 : Nat)) ∧
     ((0 : Nat) = (0 : Nat) ∧ (1 : Nat) = (1 : Nat)) ∧
     ((AV.d (D.val (Value.int IntKind.u8 (↑(gpw (2 : Nat) (z / n)) : Int))) =
     AV.d
     (D.val
     (Value.int IntKind.u8
     (↑(gpw (2 : Nat)
     (((chunks IntKind.u8 (4 : Nat) x fw ++
     [D.arr IntKind.u8 (4 : Nat)
     [ixor IntKind.u8
     ((arrOf
     ((chunks IntKind.u8 (4 : Nat) x fw).getD
     (IntKind.i64.wrap
     ((↑(chunks IntKind.u8 (4 : Nat) x fw).length : Int) - IntKind.i64.wrap ((↑key.length : Int).tdiv (4 : Int)))).toNat
     (D.val (Value.bool false)))).getD
     (0 : Nat) (0 : Int))
     ((tuL n fw z).getD (0 : Nat) (0 : Int)),
     ixor IntKind.u8
     ((arrOf
     ((chunks IntKind.u8 (4 : Nat) x fw).getD
     (IntKind.i64.wrap
     ((↑(chunks IntKind.u8 (4 : Nat) x fw).length : Int) - IntKind.i64.wrap ((↑key.length : Int).tdiv (4 : Int)))).toNat
     (D.val (Value.bool false)))).getD
     (1 : Nat) (0 : Int))
     ((tuL n fw z).getD (1 : Nat) (0 : Int)),
     ixor IntKind.u8
     ((arrOf
     ((chunks IntKind.u8 (4 : Nat) x fw).getD
     (IntKind.i64.wrap
     ((↑(chunks IntKind.u8 (4 : Nat) x fw).length : Int) - IntKind.i64.wrap ((↑key.length : Int).tdiv (4 : Int)))).toNat
     (D.val (Value.bool false)))).getD
     (2 : Nat) (0 : Int))
     ((tuL n fw z).getD (2 : Nat) (0 : Int)),
     ixor IntKind.u8
     ((arrOf
     ((chunks IntKind.u8 (4 : Nat) x fw).getD
     (IntKind.i64.wrap
     ((↑(chunks IntKind.u8 (4 : Nat) x fw).length : Int) - IntKind.i64.wrap ((↑key.length : Int).tdiv (4 : Int)))).toNat
     (D.val (Value.bool false)))).getD
     (3 : Nat) (0 : Int))
     ((tuL n fw z).getD (3 : Nat) (0 : Int))]]).length -
     (1 : Nat)) /
     n)) :
     Int))) ∧
     True) ∧
     (sm (some (Blk.lnk [D.slc (4 : Nat) [], D.arr IntKind.u8 (256 : Nat) boxP, D.arr IntKind.u8 (256 : Nat) boxU] (0 : Nat) (some (526 : Nat)))) ∧
     some
     (Blk.row (39 : TypeId)
     (D.slc (4 : Nat)
     (chunks IntKind.u8 (4 : Nat) x fw ++
     [D.arr IntKind.u8 (4 : Nat)
     [ixor IntKind.u8
     ((arrOf
     ((chunks IntKind.u8 (4 : Nat) x fw).getD
     (IntKind.i64.wrap
     ((↑(chunks IntKind.u8 (4 : Nat) x fw).length : Int) - IntKind.i64.wrap ((↑key.length : Int).tdiv (4 : Int)))).toNat
     (D.val (Value.bool false)))).getD
     (0 : Nat) (0 : Int))
     ((tuL n fw z).getD (0 : Nat) (0 : Int)),
     ixor IntKind.u8
     ((arrOf
     ((chunks IntKind.u8 (4 : Nat) x fw).getD
     (IntKind.i64.wrap
     ((↑(chunks IntKind.u8 (4 : Nat) x fw).length : Int) - IntKind.i64.wrap ((↑key.length : Int).tdiv (4 : Int)))).toNat
     (D.val (Value.bool false)))).getD
     (1 : Nat) (0 : Int))
     ((tuL n fw z).getD (1 : Nat) (0 : Int)),
     ixor IntKind.u8
     ((arrOf
     ((chunks IntKind.u8 (4 : Nat) x fw).getD
     (IntKind.i64.wrap
     ((↑(chunks IntKind.u8 (4 : Nat) x fw).length : Int) - IntKind.i64.wrap ((↑key.length : Int).tdiv (4 : Int)))).toNat
     (D.val (Value.bool false)))).getD
     (2 : Nat) (0 : Int))
     ((tuL n fw z).getD (2 : Nat) (0 : Int)),
     ixor IntKind.u8
     ((arrOf
     ((chunks IntKind.u8 (4 : Nat) x fw).getD
     (IntKind.i64.wrap
     ((↑(chunks IntKind.u8 (4 : Nat) x fw).length : Int) - IntKind.i64.wrap ((↑key.length : Int).tdiv (4 : Int)))).toNat
     (D.val (Value.bool false)))).getD
     (3 : Nat) (0 : Int))
     ((tuL n fw z).getD (3 : Nat) (0 : Int))]]))) =
     some
     (Blk.row (39 : TypeId)
     (D.slc (4 : Nat)
     (chunks IntKind.u8 (4 : Nat)
     (chunks IntKind.u8 (4 : Nat) x fw ++
     [D.arr IntKind.u8 (4 : Nat)
     [ixor IntKind.u8
     ((arrOf
     ((chunks IntKind.u8 (4 : Nat) x fw).getD
     (IntKind.i64.wrap
     ((↑(chunks IntKind.u8 (4 : Nat) x fw).length : Int) - IntKind.i64.wrap ((↑key.length : Int).tdiv (4 : Int)))).toNat
     (D.val (Value.bool false)))).getD
     (0 : Nat) (0 : Int))
     ((tuL n fw z).getD (0 : Nat) (0 : Int)),
     ixor IntKind.u8
     ((arrOf
     ((chunks IntKind.u8 (4 : Nat) x fw).getD
     (IntKind.i64.wrap
     ((↑(chunks IntKind.u8 (4 : Nat) x fw).length : Int) - IntKind.i64.wrap ((↑key.length : Int).tdiv (4 : Int)))).toNat
     (D.val (Value.bool false)))).getD
     (1 : Nat) (0 : Int))
     ((tuL n fw z).getD (1 : Nat) (0 : Int)),
     ixor IntKind.u8
     ((arrOf
     ((chunks IntKind.u8 (4 : Nat) x fw).getD
     (IntKind.i64.wrap
     ((↑(chunks IntKind.u8 (4 : Nat) x fw).length : Int) - IntKind.i64.wrap ((↑key.length : Int).tdiv (4 : Int)))).toNat
     (D.val (Value.bool false)))).getD
     (2 : Nat) (0 : Int))
     ((tuL n fw z).getD (2 : Nat) (0 : Int)),
     ixor IntKind.u8
     ((arrOf
     ((chunks IntKind.u8 (4 : Nat) x fw).getD
     (IntKind.i64.wrap
     ((↑(chunks IntKind.u8 (4 : Nat) x fw).length : Int) - IntKind.i64.wrap ((↑key.length : Int).tdiv (4 : Int)))).toNat
     (D.val (Value.bool false)))).getD
     (3 : Nat) (0 : Int))
     ((tuL n fw z).getD (3 : Nat) (0 : Int))]]).length
     fw))) ∧
     True) ∧
     true = true) ∧
     (n ≤
     (chunks IntKind.u8 (4 : Nat) x fw ++
     [D.arr IntKind.u8 (4 : Nat)
     [ixor IntKind.u8
     ((arrOf
     ((chunks IntKind.u8 (4 : Nat) x fw).getD
     (IntKind.i64.wrap ((↑(chunks IntKind.u8 (4 : Nat) x fw).length : Int) - IntKind.i64.wrap ((↑key.length : Int).tdiv (4 : Int)))).toNat
     (D.val (Value.bool false)))).getD
     (0 : Nat) (0 : Int))
     ((tuL n fw z).getD (0 : Nat) (0 : Int)),
     ixor IntKind.u8
     ((arrOf
     ((chunks IntKind.u8 (4 : Nat) x fw).getD
     (IntKind.i64.wrap ((↑(chunks IntKind.u8 (4 : Nat) x fw).length : Int) - IntKind.i64.wrap ((↑key.length : Int).tdiv (4 : Int)))).toNat
     (D.val (Value.bool false)))).getD
     (1 : Nat) (0 : Int))
     ((tuL n fw z).getD (1 : Nat) (0 : Int)),
     ixor IntKind.u8
     ((arrOf
     ((chunks IntKind.u8 (4 : Nat) x fw).getD
     (IntKind.i64.wrap ((↑(chunks IntKind.u8 (4 : Nat) x fw).length : Int) - IntKind.i64.wrap ((↑key.length : Int).tdiv (4 : Int)))).toNat
     (D.val (Value.bool false)))).getD
     (2 : Nat) (0 : Int))
     ((tuL n fw z).getD (2 : Nat) (0 : Int)),
     ixor IntKind.u8
     ((arrOf
     ((chunks IntKind.u8 (4 : Nat) x fw).getD
     (IntKind.i64.wrap ((↑(chunks IntKind.u8 (4 : Nat) x fw).length : Int) - IntKind.i64.wrap ((↑key.length : Int).tdiv (4 : Int)))).toNat
     (D.val (Value.bool false)))).getD
     (3 : Nat) (0 : Int))
     ((tuL n fw z).getD (3 : Nat) (0 : Int))]]).length ∧
     (chunks IntKind.u8 (4 : Nat) x fw ++
     [D.arr IntKind.u8 (4 : Nat)
     [ixor IntKind.u8
     ((arrOf
     ((chunks IntKind.u8 (4 : Nat) x fw).getD
     (IntKind.i64.wrap ((↑(chunks IntKind.u8 (4 : Nat) x fw).length : Int) - IntKind.i64.wrap ((↑key.length : Int).tdiv (4 : Int)))).toNat
     (D.val (Value.bool false)))).getD
     (0 : Nat) (0 : Int))
     ((tuL n fw z).getD (0 : Nat) (0 : Int)),
     ixor IntKind.u8
     ((arrOf
     ((chunks IntKind.u8 (4 : Nat) x fw).getD
     (IntKind.i64.wrap ((↑(chunks IntKind.u8 (4 : Nat) x fw).length : Int) - IntKind.i64.wrap ((↑key.length : Int).tdiv (4 : Int)))).toNat
     (D.val (Value.bool false)))).getD
     (1 : Nat) (0 : Int))
     ((tuL n fw z).getD (1 : Nat) (0 : Int)),
     ixor IntKind.u8
     ((arrOf
     ((chunks IntKind.u8 (4 : Nat) x fw).getD
     (IntKind.i64.wrap ((↑(chunks IntKind.u8 (4 : Nat) x fw).length : Int) - IntKind.i64.wrap ((↑key.length : Int).tdiv (4 : Int)))).toNat
     (D.val (Value.bool false)))).getD
     (2 : Nat) (0 : Int))
     ((tuL n fw z).getD (2 : Nat) (0 : Int)),
     ixor IntKind.u8
     ((arrOf
     ((chunks IntKind.u8 (4 : Nat) x fw).getD
     (IntKind.i64.wrap ((↑(chunks IntKind.u8 (4 : Nat) x fw).length : Int) - IntKind.i64.wrap ((↑key.length : Int).tdiv (4 : Int)))).toNat
     (D.val (Value.bool false)))).getD
     (3 : Nat) (0 : Int))
     ((tuL n fw z).getD (3 : Nat) (0 : Int))]]).length ≤
     (4 : Nat) * (n + (7 : Nat))) ∧
     (4 : Nat) * (n + (7 : Nat)) -
     (chunks IntKind.u8 (4 : Nat) x fw ++
     [D.arr IntKind.u8 (4 : Nat)
     [ixor IntKind.u8
     ((arrOf
     ((chunks IntKind.u8 (4 : Nat) x fw).getD
     (IntKind.i64.wrap ((↑(chunks IntKind.u8 (4 : Nat) x fw).length : Int) - IntKind.i64.wrap ((↑key.length : Int).tdiv (4 : Int)))).toNat
     (D.val (Value.bool false)))).getD
     (0 : Nat) (0 : Int))
     ((tuL n fw z).getD (0 : Nat) (0 : Int)),
     ixor IntKind.u8
     ((arrOf
     ((chunks IntKind.u8 (4 : Nat) x fw).getD
     (IntKind.i64.wrap ((↑(chunks IntKind.u8 (4 : Nat) x fw).length : Int) - IntKind.i64.wrap ((↑key.length : Int).tdiv (4 : Int)))).toNat
     (D.val (Value.bool false)))).getD
     (1 : Nat) (0 : Int))
     ((tuL n fw z).getD (1 : Nat) (0 : Int)),
     ixor IntKind.u8
     ((arrOf
     ((chunks IntKind.u8 (4 : Nat) x fw).getD
     (IntKind.i64.wrap ((↑(chunks IntKind.u8 (4 : Nat) x fw).length : Int) - IntKind.i64.wrap ((↑key.length : Int).tdiv (4 : Int)))).toNat
     (D.val (Value.bool false)))).getD
     (2 : Nat) (0 : Int))
     ((tuL n fw z).getD (2 : Nat) (0 : Int)),
     ixor IntKind.u8
     ((arrOf
     ((chunks IntKind.u8 (4 : Nat) x fw).getD
     (IntKind.i64.wrap ((↑(chunks IntKind.u8 (4 : Nat) x fw).length : Int) - IntKind.i64.wrap ((↑key.length : Int).tdiv (4 : Int)))).toNat
     (D.val (Value.bool false)))).getD
     (3 : Nat) (0 : Int))
     ((tuL n fw z).getD (3 : Nat) (0 : Int))]]).length <
     (4 : Nat) * (n + (7 : Nat)) - x
   | false => true = true ∧ True ∧ True ∧ (false = false ∧ True) ∧ True ∧ D.tup [D.st [D.slc (4 : Nat) (chunks IntKind.u8 (4 : Nat) x fw), D.arr IntKind.u8 (256 : Nat) boxP, D.arr IntKind.u8 (256 : Nat) boxU], D.val (Value.int IntKind.i64 (0 : Int))] = F) := by kernel_rfl
set_option maxRecDepth 100000 in
theorem vc20b  (key : List Int) (F : D)  :
    (owed c20 (fun _ => none) Try.f20 [.str key] F) = (
 True ∧
 True ∧
 True ∧
 True ∧
 True ∧
 True ∧
 match (↑key.length : Int) != (16 : Int) with
 | true =>
  True ∧
  True ∧
  True ∧
  True ∧
  True ∧
  match (↑key.length : Int) != (24 : Int) with
  | true =>
   True ∧
   True ∧
   True ∧
   True ∧
   match (↑key.length : Int) != (32 : Int) with
   | true => True ∧ True ∧ (false = false ∧ false = false ∧ True) ∧ D.tup [D.val (Value.pointer none), D.val (Value.int IntKind.i64 (1 : Int))] = F
   | false =>
    (0 : Nat) = (0 : Nat) ∧
    (True ∧ false = false ∧ ((1 : Nat) < (3 : Nat) ∧ Sk.arr (256 : Nat) = Sk.arr (256 : Nat)) ∧ True) ∧
    True ∧
    True ∧
    true = true ∧
    true = true ∧
    True ∧
    (Sk.st [Sk.one, Sk.arr (256 : Nat), Sk.arr (256 : Nat)] = Sk.st [Sk.one, Sk.arr (256 : Nat), Sk.arr (256 : Nat)] ∧ (1 : Nat) < (3 : Nat)) ∧
    ((256 : Nat) ≠ (0 : Nat) ∧ (256 : Nat) = (256 : Nat) ∧ true = true) ∧
    (∃ (l : List Int), [D.arr IntKind.u8 (256 : Nat) boxP] = [D.arr IntKind.u8 (256 : Nat) l] ∧ okb l ∧ l.length = (256 : Nat)) ∧
    True ∧
    (Sk.st [Sk.one, Sk.arr (256 : Nat), Sk.arr (256 : Nat)] = Sk.st [Sk.one, Sk.arr (256 : Nat), Sk.arr (256 : Nat)] ∧ (2 : Nat) < (3 : Nat)) ∧
    (((2 : Nat) < (3 : Nat) ∧ Sk.arr (256 : Nat) = Sk.arr (256 : Nat)) ∧ (256 : Nat) ≠ (0 : Nat) ∧ (256 : Nat) = (256 : Nat) ∧ false = false) ∧ True ∧ True ∧ (4 : Int) ≠ (0 : Int) ∧ True ∧ True ∧ True ∧ False
  | false =>
   True ∧
   (0 : Nat) = (0 : Nat) ∧
   (True ∧ false = false ∧ ((1 : Nat) < (3 : Nat) ∧ Sk.arr (256 : Nat) = Sk.arr (256 : Nat)) ∧ True) ∧
   True ∧
   True ∧
   true = true ∧
   true = true ∧
   True ∧
   (Sk.st [Sk.one, Sk.arr (256 : Nat), Sk.arr (256 : Nat)] = Sk.st [Sk.one, Sk.arr (256 : Nat), Sk.arr (256 : Nat)] ∧ (1 : Nat) < (3 : Nat)) ∧
   ((256 : Nat) ≠ (0 : Nat) ∧ (256 : Nat) = (256 : Nat) ∧ true = true) ∧
   (∃ (l : List Int), [D.arr IntKind.u8 (256 : Nat) boxP] = [D.arr IntKind.u8 (256 : Nat) l] ∧ okb l ∧ l.length = (256 : Nat)) ∧
   True ∧
   (Sk.st [Sk.one, Sk.arr (256 : Nat), Sk.arr (256 : Nat)] = Sk.st [Sk.one, Sk.arr (256 : Nat), Sk.arr (256 : Nat)] ∧ (2 : Nat) < (3 : Nat)) ∧ (((2 : Nat) < (3 : Nat) ∧ Sk.arr (256 : Nat) = Sk.arr (256 : Nat)) ∧ (256 : Nat) ≠ (0 : Nat) ∧ (256 : Nat) = (256 : Nat) ∧ false = false) ∧ True ∧ True ∧ (4 : Int) ≠ (0 : Int) ∧ True ∧ True ∧ True ∧ False
 | false =>
  True ∧
  True ∧
  True ∧
  (0 : Nat) = (0 : Nat) ∧
  (True ∧ false = false ∧ ((1 : Nat) < (3 : Nat) ∧ Sk.arr (256 : Nat) = Sk.arr (256 : Nat)) ∧ True) ∧
  True ∧
  True ∧
  true = true ∧
  true = true ∧
  True ∧
  (Sk.st [Sk.one, Sk.arr (256 : Nat), Sk.arr (256 : Nat)] = Sk.st [Sk.one, Sk.arr (256 : Nat), Sk.arr (256 : Nat)] ∧ (1 : Nat) < (3 : Nat)) ∧
  ((256 : Nat) ≠ (0 : Nat) ∧ (256 : Nat) = (256 : Nat) ∧ true = true) ∧
  (∃ (l : List Int), [D.arr IntKind.u8 (256 : Nat) boxP] = [D.arr IntKind.u8 (256 : Nat) l] ∧ okb l ∧ l.length = (256 : Nat)) ∧
  True ∧ (Sk.st [Sk.one, Sk.arr (256 : Nat), Sk.arr (256 : Nat)] = Sk.st [Sk.one, Sk.arr (256 : Nat), Sk.arr (256 : Nat)] ∧ (2 : Nat) < (3 : Nat)) ∧ (((2 : Nat) < (3 : Nat) ∧ Sk.arr (256 : Nat) = Sk.arr (256 : Nat)) ∧ (256 : Nat) ≠ (0 : Nat) ∧ (256 : Nat) = (256 : Nat) ∧ false = false) ∧ True ∧ True ∧ (4 : Int) ≠ (0 : Int) ∧ True ∧ True ∧ True ∧ False) := by kernel_rfl
end Go.Proofs.Ytnadggcfdakpoaa
namespace Go.Proofs.Ytnadggcfdakpoaa
open Go Go.Vg
theorem fwS_len (n : Nat) (key : List Int) : ∀ i, (fwS n key i).length = 240
 | 0 => List.length_replicate
 | i + 1 => by rw [fwS]; simp
theorem fwS_get {n : Nat} {key : List Int} {i m : Nat} (h : m < 240) : (fwS n key (i + 1)).getD m 0 = if m / 4 = i then (wdL n key i (fwS n key i)).getD (m % 4) 0 else (fwS n key i).getD m 0 := map_getD _ h
theorem fwS_stable {n : Nat} {key : List Int} {i m : Nat} (h : m < 4 * i) (h2 : m < 240) : ∀ k, (fwS n key (i + k)).getD m 0 = (fwS n key i).getD m 0
 | 0 => rfl
 | k + 1 => by
  rw [show i + (k + 1) = (i + k) + 1 by omega, fwS_get h2, if_neg (by omega), fwS_stable h h2 k]
theorem colL_congr {w v : List Int} {i : Nat} (h : ∀ k, k < 4 → w.getD (4 * i + k) 0 = v.getD (4 * i + k) 0) : colL w i = colL v i := by
 have h0 := h 0 (by omega)
 rw [Nat.add_zero] at h0
 unfold colL
 rw [h0, h 1 (by omega), h 2 (by omega), h 3 (by omega)]
theorem tuL_congr {n i : Nat} {w v : List Int} (h : prL w i = prL v i) : tuL n w i = tuL n v i := by
 unfold tuL
 rw [h]
theorem wdL_congr {n i : Nat} {key w v : List Int} (hn : 1 ≤ n) (h : ∀ m, m < 4 * i → w.getD m 0 = v.getD m 0) : wdL n key i w = wdL n key i v := by
 unfold wdL
 split
 ·rfl
 ·rename_i hi
  have hp : prL w i = prL v i := colL_congr fun k hk => h _ (by omega)
  rw [tuL_congr hp]
  refine List.map_congr_left fun j hj => ?_
  rw [h _ (by have := List.mem_range.1 hj; omega)]
theorem fw_word {n : Nat} {key : List Int} {i j : Nat} (hn : 1 ≤ n) (hn8 : n ≤ 8) (hi : i < 4 * (n + 7)) (hj : j < 4) : (fwL n key).getD (4 * i + j) 0 = (wdL n key i (fwL n key)).getD j 0 := by
 have e : fwL n key = fwS n key (i + (4 * (n + 7) - i)) := by rw [show i + (4 * (n + 7) - i) = 4 * (n + 7) by omega]; rfl
 have e1 : fwL n key = fwS n key ((i + 1) + (4 * (n + 7) - (i + 1))) := by rw [show (i + 1) + (4 * (n + 7) - (i + 1)) = 4 * (n + 7) by omega]; rfl
 have h1 : (fwL n key).getD (4 * i + j) 0 = (fwS n key (i + 1)).getD (4 * i + j) 0 := by rw [e1]; exact fwS_stable (by omega) (by omega) _
 rw [h1, fwS_get (by omega), if_pos (by omega), show (4 * i + j) % 4 = j by omega, wdL_congr hn (v := fwL n key)]
 intro m hm
 rw [e]
 exact (fwS_stable hm (by omega) _).symm
theorem s4L_ok (l : List Int) : isB 4 (s4L l) := isB_map fun i _ => by
 have := gbx_lt (l.getD i 0).toNat
 show 0 ≤ ((_ : Nat) : Int) ∧ ((_ : Nat) : Int) < 256
 omega
theorem gpw_i (k : Nat) : 0 ≤ ((gpw 2 k : Nat) : Int) ∧ ((gpw 2 k : Nat) : Int) < 256 := by
 have := gpw_lt (a := 2) (by decide) k
 omega
theorem tuL_ok {w : List Int} (hw : okb w) (n i : Nat) : isB 4 (tuL n w i) := by
 unfold tuL
 split
 ·refine ⟨fun x hx => ?_, by rw [List.length_set]; exact (s4L_ok _).2⟩
  rcases List.mem_or_eq_of_mem_set hx with hx | rfl
  ·exact (s4L_ok _).1 x hx
  ·exact ixor_ok (okb_g (s4L_ok _).1 0) (gpw_i _)
 ·split
  ·exact s4L_ok _
  ·exact ⟨colL_ok hw _, rfl⟩
theorem fwS_ok {n : Nat} {key : List Int} (hk : okb key) : ∀ i, okb (fwS n key i)
 | 0 => fun x hx => by rw [List.eq_of_mem_replicate hx]; omega
 | i + 1 => by
  have ih := fwS_ok (n := n) hk i
  refine (isB_map fun m _ => ?_).1
  split
  ·refine okb_g ?_ _
   unfold wdL
   split
   ·exact colL_ok hk _
   ·exact (isB_map fun j _ => ixor_ok (okb_g ih _) (okb_g (tuL_ok ih _ _).1 _)).1
  ·exact okb_g ih _
theorem fw_ok {key : List Int} (hk : okb key) (n : Nat) : isB 240 (fwL n key) := ⟨fwS_ok hk _, fwS_len _ _ _⟩
theorem fw_zero {n : Nat} {key : List Int} {m : Nat} (hm : 16 * (n + 7) ≤ m) (h : m < 240) : ∀ i, i ≤ 4 * (n + 7) → (fwS n key i).getD m 0 = 0
 | 0, _ => by
  unfold fwS z240
  rw [List.getD_eq_getElem?_getD, List.getElem?_replicate, if_pos h]
  rfl
 | i + 1, hi => by rw [fwS_get h, if_neg (by omega), fw_zero hm h i (by omega)]
theorem m3 {a b c : Bool} {Z R : Prop} : (a = true → b = true → c = true → Z) → (¬ (a = true ∧ b = true ∧ c = true) → R) → (match a with | true => (match b with | true => (match c with | true => Z | false => R) | false => R) | false => R) := by
 intro hz hr
 cases a <;> cases b <;> cases c <;> first | exact hz rfl rfl rfl | exact hr (by simp)
theorem keyc {a b : List Int} {r : D} (h : a = b) : some (Blk.fix (.st [b240 a, r])) = some (Blk.fix (.st [b240 b, r])) := by rw [h]
theorem z240_len : z240.length = 240 := List.length_replicate
theorem z240_get (m : Nat) : z240.getD m 0 = 0 := by
 unfold z240
 rw [List.getD_eq_getElem?_getD, List.getElem?_replicate]
 split <;> rfl
theorem getD_app {a b : List Int} {m : Nat} : (a ++ b).getD m 0 = if m < a.length then a.getD m 0 else b.getD (m - a.length) 0 := by
 rw [List.getD_eq_getElem?_getD, List.getD_eq_getElem?_getD, List.getD_eq_getElem?_getD]
 split
 ·rename_i h
  rw [List.getElem?_append_left h]
 ·rename_i h
  rw [List.getElem?_append_right (by omega)]
theorem getD_take {a : List Int} {k m : Nat} (h : m < k) : (a.take k).getD m 0 = a.getD m 0 := by
 rw [List.getD_eq_getElem?_getD, List.getElem?_take, if_pos h, List.getD_eq_getElem?_getD]
theorem getD_drop {a : List Int} {k m : Nat} : (a.drop k).getD m 0 = a.getD (k + m) 0 := by
 rw [List.getD_eq_getElem?_getD, List.getElem?_drop, List.getD_eq_getElem?_getD]
theorem copy_word {fw key : List Int} {i : Nat} (hi : i < 60) (hk : 4 * i + 4 ≤ key.length) (hw : ∀ j, j < 4 → fw.getD (4 * i + j) 0 = key.getD (4 * i + j) 0) :
  List.take (4 * i) (selL 240 (fun m => decide (m < 4 * i)) fw z240) ++ List.take 4 (List.drop (4 * i) key) ++ List.drop (4 * i + 4) (selL 240 (fun m => decide (m < 4 * i)) fw z240) = selL 240 (fun m => decide (m < 4 * (i + 1))) fw z240 := by
 have l1 : (List.take (4 * i) (selL 240 (fun m => decide (m < 4 * i)) fw z240)).length = 4 * i := by rw [List.length_take, sel_len]; omega
 have l2 : (List.take 4 (List.drop (4 * i) key)).length = 4 := by rw [List.length_take, List.length_drop]; omega
 have l3 : (List.drop (4 * i + 4) (selL 240 (fun m => decide (m < 4 * i)) fw z240)).length = 240 - (4 * i + 4) := by rw [List.length_drop, sel_len]
 refine ext_getD (n := 240) (by rw [List.length_append, List.length_append, l1, l2, l3]; omega) (sel_len _ _ _ _) fun m hm => ?_
 rw [getD_app, List.length_append, l1, l2, getD_app, l1, sel_get hm]
 by_cases h1 : m < 4 * i
 ·rw [if_pos (by omega), if_pos h1, getD_take h1, sel_get hm, decide_eq_true h1, decide_eq_true (by omega)]
 ·by_cases h2 : m < 4 * i + 4
  ·have := hw (m - 4 * i) (by omega)
   rw [show 4 * i + (m - 4 * i) = m by omega] at this
   rw [if_pos h2, if_neg h1, getD_take (by omega), getD_drop, decide_eq_true (by omega), show 4 * i + (m - 4 * i) = m by omega, if_pos rfl, this]
  ·rw [if_neg h2, getD_drop, sel_get (by omega), decide_eq_false (by omega), decide_eq_false (by omega)]
   simp only [Bool.false_eq_true, if_false, z240_get]
attribute [local irreducible] selL s4L adK eaL shL usL trL adR mxR fwS fwL
theorem prev_word {fw : List Int} {i : Nat} (hi : i < 60) (h1 : 1 ≤ i) : List.take 4 (List.drop ((i - 1) * 4) (selL 240 (fun m => decide (m < 4 * i)) fw z240)) = prL fw i := by
 refine ext_getD (n := 4) (by rw [List.length_take, List.length_drop, sel_len]; omega) rfl fun j hj => ?_
 rw [getD_take hj, getD_drop, sel_get (by omega), decide_eq_true (by omega), if_pos rfl, show (i - 1) * 4 + j = 4 * (i - 1) + j by omega]
 unfold prL colL
 match j, hj with
 | 0, _ => rfl
 | 1, _ => rfl
 | 2, _ => rfl
 | 3, _ => rfl
 | k + 4, h => omega
theorem wi_n {n : Nat} (h : n < 1000000) (c : Nat) (hc : c < 1000) : IntKind.i64.wrap ((n : Int) + (c : Int)) = ((n + c : Nat) : Int) := by
 rw [show (n : Int) + (c : Int) = ((n + c : Nat) : Int) by omega, wNi (by omega)]
set_option maxHeartbeats 2000000 in
theorem m19 : Meets Try.prog 19 sp19 := by
 refine meets_of_owed (C := c19) ⟨tab_ok, lkS_ok ⟨m77, m78, trivial⟩⟩ (by kernel_rfl) (by kernel_rfl : Try.prog.funcs[19]? = some Try.f19) (by kernel_rfl) (by kernel_rfl) (by kernel_rfl) _ ?_
 rintro _ ⟨key, rfl, hk, hl⟩
 refine ⟨fun _ => rfl, inv19 (key.length / 4) (fwL (key.length / 4) key), ?_⟩
 show owed c19 (inv19 (key.length / 4) (fwL (key.length / 4) key)) Try.f19 [.ints .u8 key] (.tup [keyD (kexW key) (kexR key), i64 (kexE key)])
 rw [vc19]
 simp (decide := true) only [eq_self, true_and, and_true, ne_eq, not_false_eq_true, Int.toNat_natCast]
 refine m3 ?_ ?_
 ·intro h1 h2 h3
  have h1 := bne_iff_ne.1 h1
  have h2 := bne_iff_ne.1 h2
  have h3 := bne_iff_ne.1 h3
  have hN : ¬ okN key := by
   unfold okN
   omega
  unfold kexW kexR kexE
  rw [if_neg hN, if_neg hN, if_neg hN]
  rfl
 ·intro hb
  have hN : okN key := by
   unfold okN
   refine Classical.byContradiction fun hc => hb ⟨bne_iff_ne.2 (by omega), bne_iff_ne.2 (by omega), bne_iff_ne.2 (by omega)⟩
  unfold kexW kexR kexE
  rw [if_pos hN, if_pos hN, if_pos hN]
  have hn48 : key.length / 4 = 4 ∨ key.length / 4 = 6 ∨ key.length / 4 = 8 := by unfold okN at hN; omega
  have hlen : key.length = 4 * (key.length / 4) := by unfold okN at hN; omega
  rw [td4, wNi (n := key.length / 4) (by omega)]
  generalize hne : key.length / 4 = n at hn48 hlen ⊢
  have hfw := fw_ok hk n
  have hwd : ∀ i j, i < 4 * (n + 7) → j < 4 → (fwL n key).getD (4 * i + j) 0 = (wdL n key i (fwL n key)).getD j 0 := fun i j hi hj => fw_word (by omega) (by omega) hi hj
  have hz : ∀ m, 16 * (n + 7) ≤ m → m < 240 → (fwL n key).getD m 0 = 0 := fun m h1 h2 => by unfold fwL; exact fw_zero h1 h2 _ (Nat.le_refl _)
  generalize fwL n key = fw at hfw hwd hz ⊢
  have w6 : IntKind.i64.wrap ((n : Int) + 6) = ((n + 6 : Nat) : Int) := wi_n (by omega) 6 (by omega)
  have w7 : IntKind.i64.wrap (((n + 6 : Nat) : Int) + 1) = ((n + 7 : Nat) : Int) := wi_n (by omega) 1 (by omega)
  have w28 : IntKind.i64.wrap (4 * ((n + 7 : Nat) : Int)) = ((4 * (n + 7) : Nat) : Int) := by rw [show 4 * ((n + 7 : Nat) : Int) = ((4 * (n + 7) : Nat) : Int) by omega, wNi (by omega)]
  simp only [w6, w7, w28]
  refine ⟨by and_intros <;> first | exact True.intro | omega | rfl | exact keyc (sel_none z240_len fun i _ => decide_eq_false (by omega)), ?_⟩
  intro i hi
  split
  ·rename_i h
   have h : i < 4 * (n + 7) := by have := of_decide_eq_true h; omega
   split
   ·rename_i h2
    have h2 : i < n := by have := of_decide_eq_true h2; omega
    have w4 : IntKind.i64.wrap (4 * (i : Int)) = ((4 * i : Nat) : Int) := by rw [show 4 * (i : Int) = ((4 * i : Nat) : Int) by omega, wNi (by omega)]
    have wk : ∀ j, j < 4 → fw.getD (4 * i + j) 0 = key.getD (4 * i + j) 0 := by
     intro j hj
     rw [hwd i j h hj]
     unfold wdL
     rw [if_pos h2]
     unfold colL
     match j, hj with
     | 0, _ => rfl
     | 1, _ => rfl
     | 2, _ => rfl
     | 3, _ => rfl
     | k + 4, h => omega
    have hcw := copy_word (by omega) (by omega) wk
    have em : (List.drop (4 * i) key).length.min 4 = 4 := by rw [List.length_drop]; show min _ _ = _; omega
    rw [w4, sq (by omega)]
    simp only [Int.toNat_natCast, List.take_length, show Int.toNat 0 = 0 from rfl, Nat.add_zero, Nat.sub_zero, em, Nat.mul_comm i 4, hcw]
    and_intros <;> first | exact True.intro | omega | rfl
   ·rename_i h2
    have h2 : n ≤ i := by have := of_decide_eq_false h2; omega
    have hp := prev_word (fw := fw) (i := i) (by omega) (by omega)
    have w1 : IntKind.i64.wrap ((i : Int) - 1) = ((i - 1 : Nat) : Int) := by rw [show (i : Int) - 1 = ((i - 1 : Nat) : Int) by omega, wNi (by omega)]
    have wn : IntKind.i64.wrap ((i : Int) - (n : Int)) = ((i - n : Nat) : Int) := by rw [show (i : Int) - (n : Int) = ((i - n : Nat) : Int) by omega, wNi (by omega)]
    have tmn : (i : Int).tmod (n : Int) = ((i % n : Nat) : Int) := rfl
    have tdn : (i : Int).tdiv (n : Int) = ((i / n : Nat) : Int) := rfl
    have tm8 : (i : Int).tmod 8 = ((i % 8 : Nat) : Int) := rfl
    simp only [w1, wn, tmn, tdn, tm8, Int.toNat_natCast, hp]
    have hdp : 1 ≤ i / n := Nat.div_pos h2 (by omega)
    have hdl : i / n ≤ i := Nat.div_le_self _ _
    have wd1 : IntKind.i64.wrap ((i / n : Nat) : Int) = ((i / n : Nat) : Int) := wNi (by omega)
    have wd2 : IntKind.i64.wrap (((i / n : Nat) : Int) - 1) = ((i / n - 1 : Nat) : Int) := by rw [show ((i / n : Nat) : Int) - 1 = ((i / n - 1 : Nat) : Int) by omega, wNi (by omega)]
    have wd3 : IntKind.u64.wrap ((i / n - 1 : Nat) : Int) = ((i / n - 1 : Nat) : Int) := wrapN .u64 (by rw [kbu]; omega)
    simp only [wd1, wd2, wd3, Int.toNat_natCast]
    refine ⟨by and_intros <;> omega, by omega, ?_, ?_⟩
    ·split
     ·rename_i h5
      have h5 : i % n = 0 := by have := eq_of_beq h5; omega
      have et : tuL n fw i = (s4L (trn (prL fw i))).set 0 (ixor .u8 ((s4L (trn (prL fw i))).getD 0 0) ((gpw 2 (i / n - 1) : Nat) : Int)) := by unfold tuL; rw [if_pos h5]
      rw [et]
      have hpo : okb (trn (prL fw i)) := by
       have hpp := colL_ok hfw.1 (i - 1)
       intro x hx
       simp only [trn, List.mem_cons, List.not_mem_nil, or_false] at hx
       rcases hx with rfl | rfl | rfl | rfl <;> exact okb_g hpp _
      and_intros <;> first | exact True.intro | omega | exact ⟨_, rfl, hpo, rfl⟩ | exact ⟨2, _, rfl, by decide, by omega⟩ | rfl
     ·rename_i h5
      have h5 : ¬ i % n = 0 := fun e => by rw [e] at h5; cases h5
      split
      ·rename_i h6
       have h6 : n = 8 := by have := eq_of_beq h6; omega
       split
       ·rename_i h7
        have h7 : i % 8 = 4 := by have := eq_of_beq h7; omega
        have et : tuL n fw i = s4L (prL fw i) := by unfold tuL; rw [if_neg h5, if_pos ⟨h6, h7⟩]
        rw [et]
        and_intros <;> first | exact True.intro | omega | exact ⟨_, rfl, colL_ok hfw.1 _, rfl⟩ | rfl
       ·rename_i h7
        have h7 : ¬ i % 8 = 4 := fun e => by rw [e] at h7; cases h7
        have et : tuL n fw i = prL fw i := by unfold tuL; rw [if_neg h5, if_neg (fun hh => h7 hh.2)]
        rw [et]
      ·rename_i h6
       have h6 : ¬ n = 8 := fun e => by rw [e] at h6; cases h6
       have et : tuL n fw i = prL fw i := by unfold tuL; rw [if_neg h5, if_neg (fun hh => h6 hh.1)]
       rw [et]
    ·intro z hz'
     obtain rfl : z = i := by omega
     refine ⟨by and_intros <;> first | exact True.intro | omega | exact keyc (sel_extd fun i _ => by omega) | rfl, ?_⟩
     rintro ⟨y, j⟩ ⟨hy, hj⟩
     simp only at hy hj ⊢
     obtain rfl : y = z := by omega
     split
     ·rename_i h8
      have h8 : j < 4 := by have := of_decide_eq_true h8; omega
      have hv : ixor .u8 ((selL 240 (fun m => decide (m < 4 * y + j)) fw z240).getD ((y - n) * 4 + j) 0) ((tuL n fw y).getD j 0) = fw.getD (y * 4 + j) 0 := by
       rw [Nat.mul_comm y 4, hwd y j h h8]
       unfold wdL
       rw [if_neg (by omega), map_getD _ h8, sel_get (by omega), decide_eq_true (by omega), if_pos rfl, Nat.mul_comm (y - n) 4]
      rw [sq (by omega), hv]
      simp only [Int.toNat_natCast]
      and_intros <;> first | exact True.intro | omega | exact keyc (sel_setd (by omega) rfl fun i _ => by omega) | rfl
     ·rename_i h8
      have h8 : j = 4 := by have := of_decide_eq_false h8; omega
      subst h8
      rw [sq (by omega)]
      simp only [Int.toNat_natCast]
      and_intros <;> first | exact True.intro | omega | exact keyc (sel_extd fun i _ => by omega) | rfl
  ·rename_i h
   have h : i = 4 * (n + 7) := by have := of_decide_eq_false h; omega
   subst h
   have e : selL 240 (fun m => decide (m < 4 * (4 * (n + 7)))) fw z240 = fw := by
    refine ext_getD (n := 240) (sel_len _ _ _ _) hfw.2 fun m hm => ?_
    rw [sel_get hm]
    split
    ·rfl
    ·rename_i hd
     have hd : ¬ m < 4 * (4 * (n + 7)) := fun hh => hd (decide_eq_true hh)
     rw [hz m (by omega) hm, z240_get]
   rw [e]
end Go.Proofs.Ytnadggcfdakpoaa
namespace Go.Proofs.Ytnadggcfdakpoaa
open Go Go.Vg
theorem tab_set (f : Nat → Int) (n i : Nat) (h : i < n) :
  ((List.range i).map f ++ List.replicate (n - i) 0).set i (f i) = (List.range (i + 1)).map f ++ List.replicate (n - (i + 1)) 0 := by
 rw [show n - i = (n - (i + 1)) + 1 by omega, List.replicate_succ, List.set_append_right _ _ (by simp), List.length_map, List.length_range, Nat.sub_self, List.set_cons_zero, List.range_succ, List.map_append, List.append_assoc]
 rfl
theorem pwL_get {i : Nat} (h : i < 255) : (pwL 255 ++ List.replicate (255 - 255) 0).getD i 0 = ((gpw 3 i : Nat) : Int) := by
 rw [Nat.sub_self, List.replicate_zero, List.append_nil]
 simp [pwL, List.getD_eq_getElem?_getD, h]
theorem box_set {a : Nat} (h : a < 256) : (boxL.take a ++ List.replicate (256 - a) 0).set a ((gbx a : Nat) : Int) = boxL.take (a + 1) ++ List.replicate (256 - (a + 1)) 0 := by
 have := tab_set (fun j => ((gbx j : Nat) : Int)) 256 a h
 have e : ∀ i, i ≤ 256 → boxL.take i = (List.range i).map fun j => ((gbx j : Nat) : Int) := by
  intro i hi
  rw [boxL, ← List.map_take, List.take_range, Nat.min_eq_left hi]
 rw [e a (by omega), e (a + 1) (by omega)]
 exact this
theorem gk_get {k : Nat} (h : k < 5) : [(0 : Int), 4, 5, 6, 7].getD k 0 = ((gk.getD k 0 : Nat) : Int) ∧ gk.getD k 0 < 8 := by
 obtain rfl | rfl | rfl | rfl | rfl : k = 0 ∨ k = 1 ∨ k = 2 ∨ k = 3 ∨ k = 4 := by omega
 all_goals exact ⟨rfl, by decide⟩
set_option maxRecDepth 100000 in
theorem m79 : Meets Try.prog 79 sp79 := by
 refine meets_of_owed (C := c134) ⟨tab_ok, lkS_ok ⟨m81, trivial⟩⟩ (by kernel_rfl) (by kernel_rfl : Try.prog.funcs[79]? = some Try.f79) (by kernel_rfl) (by kernel_rfl) (by kernel_rfl) _ ?_
 intro ds hds
 obtain rfl : ds = [] := List.length_eq_zero_iff.mp hds
 refine ⟨fun _ => rfl, inv79, ?_⟩
 show owed c134 inv79 Try.f79 [] (b256 boxP)
 rw [vc79]
 simp (decide := true) only [eq_self, true_and, and_true, ne_eq, not_false_eq_true, Int.toNat_natCast]
 refine ⟨⟨⟨rfl, rfl⟩, rfl⟩, ?_⟩
 intro x hx
 split
 ·rename_i h
  have h := of_decide_eq_true h
  rw [show ((x : Int) + 1) = ((x + 1 : Nat) : Int) by omega, wNi (n := x + 1) (by omega)]
  simp only [Int.toNat_natCast]
  have e : (pwL x ++ List.replicate (255 - x) 0).set x ((gpw 3 x : Nat) : Int) = pwL (x + 1) ++ List.replicate (255 - (x + 1)) 0 := tab_set _ 255 x (by omega)
  rw [e]
  have hp : ∃ a b : Nat, [u8 (gpw 3 x), D.val (Value.int IntKind.u8 3)] = [u8 a, u8 b] ∧ a < 256 ∧ b < 256 := ⟨_, 3, rfl, gpw_lt (by decide) x, by decide⟩
  and_intros <;> first | exact hp | omega | rfl | trivial
 rename_i h
 have h := of_decide_eq_false h
 obtain rfl : x = 255 := by omega
 clear h hx
 refine ⟨by and_intros <;> first | rfl | trivial, ?_⟩
 intro x hx
 split
 ·rename_i h
  have h := of_decide_eq_true h
  have hlt : (255 - x) % 255 < 255 := Nat.mod_lt _ (by decide)
  have e1 : (255 : Int) - (x : Int) = ((255 - x : Nat) : Int) := by omega
  have e2 : ((255 - x : Nat) : Int).tmod 255 = (((255 - x) % 255 : Nat) : Int) := tmodN (255 - x) 255
  have hg : gpw 3 x < 256 := gpw_lt (by decide) x
  have e : (gia x).set (gpw 3 x) ((gpw 3 ((255 - x) % 255) : Nat) : Int) = gia (x + 1) := rfl
  rw [e1, wNi (n := 255 - x) (by omega), e2, show ((x : Int) + 1) = ((x + 1 : Nat) : Int) by omega, wNi (n := x + 1) (by omega)]
  simp only [Int.toNat_natCast]
  rw [pwL_get (i := x) (by omega), pwL_get hlt]
  simp only [Int.toNat_natCast]
  rw [e]
  and_intros <;> first | omega | rfl | trivial
 rename_i h
 have h := of_decide_eq_false h
 obtain rfl : x = 255 := by omega
 clear h hx
 refine ⟨by and_intros <;> first | rfl | trivial, ?_⟩
 intro a ha
 split
 ·rename_i h
  have h := of_decide_eq_true h
  have hg := giv_lt (a := a) (by omega)
  rw [gia_giv (a := a) (by omega), wNi (n := giv a) (by omega), show ((a : Int) + 1) = ((a + 1 : Nat) : Int) by omega, wNi (n := a + 1) (by omega)]
  simp only [Int.toNat_natCast]
  refine ⟨by omega, ⟨⟨rfl, rfl⟩, trivial⟩, ?_⟩
  rintro ⟨b, i⟩ ⟨hb, hi⟩
  simp only at hb hi ⊢
  obtain rfl : b = giv a := by omega
  split
  ·rename_i h2
   have h2 := of_decide_eq_true h2
   rw [show (99 : Int) = ((99 : Nat) : Int) from rfl, ishrN .i64 (by simp only [IntKind.bits]; omega), iand1 .i64 (by rw [kbi]; exact Nat.lt_of_le_of_lt (Nat.div_le_self _ _) (by decide)),
    show ((i : Int) + 1) = ((i + 1 : Nat) : Int) by omega, wNi (n := i + 1) (by omega)]
   simp only [Int.toNat_natCast]
   refine ⟨by omega, ⟨⟨rfl, rfl⟩, trivial⟩, ?_⟩
   rintro ⟨b, j, k⟩ ⟨hb2, hj, hk⟩
   simp only at hb2 hj hk ⊢
   obtain rfl : b = giv a := by omega
   obtain rfl : j = i := by omega
   split
   ·rename_i h3
    have h3 := of_decide_eq_true h3
    obtain ⟨e1, e2⟩ := gk_get (k := k) (by omega)
    have e3 : (((j + gk.getD k 0 : Nat) : Int)).tmod 8 = (((j + gk.getD k 0) % 8 : Nat) : Int) := tmodN _ 8
    have hs : (j + gk.getD k 0) % 8 < 8 := Nat.mod_lt _ (by decide)
    have hq : giv a / 2 ^ ((j + gk.getD k 0) % 8) < kb .i64 := Nat.lt_of_le_of_lt (Nat.div_le_self _ _) (by rw [kbi]; omega)
    have hn := gan_le (giv a) j k
    have e4 : gan (giv a) j (k + 1) = gan (giv a) j k + giv a / 2 ^ ((j + gk.getD k 0) % 8) % 2 := rfl
    rw [e1, show ((j : Int) + ((gk.getD k 0 : Nat) : Int)) = ((j + gk.getD k 0 : Nat) : Int) by omega, wNi (n := j + gk.getD k 0) (by omega), e3, ishrN .i64 (by simp only [IntKind.bits]; omega), iand1 .i64 hq,
     show (((gan (giv a) j k : Nat) : Int) + ((giv a / 2 ^ ((j + gk.getD k 0) % 8) % 2 : Nat) : Int)) = ((gan (giv a) j k + giv a / 2 ^ ((j + gk.getD k 0) % 8) % 2 : Nat) : Int) by omega, ← e4,
     wNi (n := gan (giv a) j (k + 1)) (by have := gan_le (giv a) j (k + 1); omega), show ((k : Int) + 1) = ((k + 1 : Nat) : Int) by omega, wNi (n := k + 1) (by omega)]
    simp only [Int.toNat_natCast]
    and_intros <;> first | omega | rfl | trivial
   ·rename_i h3
    have h3 := of_decide_eq_false h3
    obtain rfl : k = 5 := by omega
    have e5 : ((gan (giv a) j 5 : Nat) : Int).tmod 2 = ((gan (giv a) j 5 % 2 : Nat) : Int) := tmodN _ 2
    have h2j : 2 ^ j ≤ 2 ^ 7 := Nat.pow_le_pow_right (by decide) (by omega)
    have hx := gax_lt (giv a) j
    have hx1 := gax_lt (giv a) (j + 1)
    have h2k : 2 ^ (j + 1) ≤ 2 ^ 8 := Nat.pow_le_pow_right (by decide) (by omega)
    have e6 : gax (giv a) (j + 1) = gax (giv a) j + gan (giv a) j 5 % 2 * 2 ^ j := rfl
    rw [e5, ishlN .i64 (by simp only [IntKind.bits]; omega), wNi (n := gan (giv a) j 5 % 2 * 2 ^ j) (by omega), ← Int.natCast_add, ← e6, wNi (n := gax (giv a) (j + 1)) (by omega)]
    and_intros <;> first | omega | rfl | trivial
  ·rename_i h2
   have h2 := of_decide_eq_false h2
   obtain rfl : i = 8 := by omega
   have hlt := gbx_lt a
   have e : gax (giv a) 8 = gbx a := rfl
   rw [e, wN8, Nat.mod_eq_of_lt hlt, box_set (by omega)]
   and_intros <;> first | omega | rfl | trivial
 ·rename_i h
  have h := of_decide_eq_false h
  obtain rfl : a = 256 := by omega
  have e : boxP = boxL := opq_eq _
  rw [e, Nat.sub_self, List.replicate_zero, List.append_nil, List.take_of_length_le (by rw [boxL_len]; exact Nat.le_refl _)]
end Go.Proofs.Ytnadggcfdakpoaa
