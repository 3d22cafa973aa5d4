/- What laws are handed: bytes, marks. -/
import Derived.Test.YtkicjckhkefnpaaDoorZb12
namespace Go.Proofs.YtkicjckhkefnpaaDoor
open Go Go.Vg
theorem okAll2 {t : Tab} {n : Nat} {a b : TypeId} : ∀ {ds : List D}, OkAll t n [a, b] ds → ∃ d e, ds = [d, e] ∧ OkT t n a d ∧ OkT t n b e
  | [], h => by cases h
  | [_], h => by cases h.2
  | [d, e], h => ⟨d, e, rfl, h.1, h.2.1⟩
  | _ :: _ :: _ :: _, h => by cases h.2.2
theorem okAll3 {t : Tab} {n : Nat} {a b c : TypeId} : ∀ {ds : List D}, OkAll t n [a, b, c] ds → ∃ d e f, ds = [d, e, f] ∧ OkT t n a d ∧ OkT t n b e ∧ OkT t n c f
  | [], h => by cases h
  | [_], h => by cases h.2
  | [_, _], h => by cases h.2.2
  | [d, e, f], h => ⟨d, e, f, rfl, h.1, h.2.1, h.2.2.1⟩
  | _ :: _ :: _ :: _ :: _, h => by cases h.2.2.2
set_option maxRecDepth 100000 in
theorem ok26  (d : D)  :
    (OkT tab 8 26 d) = (
 ∃ (l : List Int), d = D.ints IntKind.u8 l ∧ (∀ (z : Int), z ∈ l → (0 : Int) ≤ z ∧ z ≤ IntKind.u8.max) ∧ l.length ≤ (9223372036854775807 : Nat) ∧ l.length * (1 : Nat) ≤ (140737488351232 : Nat)) := by kernel_rfl
set_option maxRecDepth 100000 in
theorem ok28  (d : D)  :
    (OkT tab 8 28 d) = (
 ∃ (l : List Int), d = D.arr IntKind.u8 (32 : Nat) l ∧ l.length = (32 : Nat) ∧ ∀ (z : Int), z ∈ l → (0 : Int) ≤ z ∧ z ≤ IntKind.u8.max) := by kernel_rfl
set_option maxRecDepth 100000 in
theorem ok44  (d : D)  :
    (OkT tab 8 44 d) = (
 ∃ (ds : List D), d = D.st ds ∧ OkL (OkT tab (7 : Nat)) [((0 : Nat), (28 : TypeId)), ((32 : Nat), (3 : TypeId))] ds) := by kernel_rfl
theorem eqB_refl (l : List Int) : eqB l l = true := eqB_iff.2 rfl
theorem ofS' (s : HS) : ofS (D.st [D.arr .u32 8 s.h.l, D.val (.int .u64 (s.n : Int)), D.arr .u8 64 s.l]) = s := ofS_eq s
theorem bytes_of {d : D} {n : Nat} (h : OkT tab 8 26 d) (e : n = 1000000000000000) : ∃ l : List Int, d = .ints .u8 l ∧ isBytes l ∧ l.length ≤ 140737488351232 := by
  rw [ok26] at h
  obtain ⟨l, rfl, h1, _, h2⟩ := h
  refine ⟨l, rfl, fun x hx => ?_, by omega⟩
  have := h1 x hx
  have e : IntKind.u8.max = 255 := rfl
  rw [e] at this
  omega
theorem digL_len (p : List Int) : (digL p).length = 32 := outL_len _
theorem digL_bytes (p : List Int) : isBytes (digL p) := outL_bytes _
end Go.Proofs.YtkicjckhkefnpaaDoor
namespace Go.Proofs.YtkicjckhkefnpaaDoor
open Go Go.Vg
def ofN (l : List Int) : Nat := if l.length ≤ 64 then vB 256 l % LQ else 0
def ofE (l : List Int) : Int := if l.length ≤ 64 then 0 else 2
def dg2 (c : Int) (p : List Int) : List Int := digL ([c, 0] ++ p) ++ digL ([c, 1] ++ p)
def okp (p : List Int) : Prop := isBytes p ∧ p.length ≤ 200000000000000
def sp52 : Go.Vg.Spec := ⟨fun ds => ∃ l, ds = [.ints .u8 l] ∧ okp l, fun ds => .tup [n4 (ofN (intsOf (ds.headD default))), i64 (ofE (intsOf (ds.headD default)))], true, [26]⟩
def sp113 : Go.Vg.Spec := ⟨fun ds => ∃ l, ds = [.ints .u8 l] ∧ isBytes l ∧ l.length ≤ 64, fun ds => dgs (dg (vB 256 (intsOf (ds.headD default)))), false, [26]⟩
def sp65 : Go.Vg.Spec := ⟨fun ds => ∃ c p, ds = [.val (.int .u8 c), .ints .u8 p] ∧ (0 ≤ c ∧ c ≤ 255) ∧ okp p, fun ds => n4 (ofN (dg2 (numOf (ds.headD default)) (intsOf (ds.getD 1 default)))), true, [5, 26]⟩
noncomputable def dgF (l : List Int) : List Int := opq (dg (vB 256 l))
noncomputable def rsF (l m : List Int) : List Int := opq (dg (vD l % vD m))
noncomputable def sp113o : Go.Vg.Spec := ⟨sp113.pre, fun ds => dgs (dgF (intsOf (ds.headD default))), false, [26]⟩
noncomputable def sp51o : Go.Vg.Spec := ⟨sp51.pre, fun ds => dgs (rsF (intsOf (ds.headD default)) (intsOf (ds.getD 1 default))), false, [89, 89]⟩
noncomputable def sp66 : Go.Vg.Spec := ⟨fun ds => ∃ c p, ds = [.val (.int .u8 c), .str p] ∧ (0 ≤ c ∧ c ≤ 255) ∧ okp p, fun ds => dgs (dg (ofN (dg2 (numOf (ds.headD default)) (strOf (ds.getD 1 default))))), false, [5, 9]⟩
def c52 : Ctx := ⟨tab, lkS [(57, sp57)], [], []⟩
def inv52 (l : List Int) : Nat → Option Inv
  | 5 => some ⟨Nat, fun i => [(13, .d (i64 i))], fun i => [(4, .fix (num8 (nB 18446744073709551616 8 (vB 256 (l.take i)))))], fun s => (slotN s 13).toNat, fun _ i => i ≤ l.length, fun i => l.length - i⟩
  | _ => none
def c113 : Ctx := ⟨tab, lkS [(53, sp53), (54, sp54)], [], []⟩
def inv113 (l : List Int) : Nat → Option Inv
  | 3 => some ⟨Nat, fun t => [(4, .d (.val (.int .i64 ((l.length : Int) - 1 - t)))), (3, .d (dgs (dg (vB 256 (l.drop (l.length - t))))))], fun _ => [], fun s => ((l.length : Int) - 1 - slotN s 4).toNat, fun _ t => t ≤ l.length, fun t => l.length - t⟩
  | _ => none
def c65 : Ctx := ⟨tab, lkS [(75, sp75), (76, sp76), (77, sp77), (52, sp52)], [], [900026]⟩
noncomputable def c66 : Ctx := ⟨tab, lkS [(71, sp71), (113, sp113o), (51, sp51o), (47, sp47)], [20], [20006006, 23]⟩
--KEEP Nat.gcd List.replicate Go.Vg.opq Go.Vg.eqB Go.Vg.vB Go.Vg.nB Go.Vg.okd Go.Vg.okw Go.Vg.dg Go.Vg.dig Go.Vg.trimL okb lenOk lenS len1 sbd sbb dif bor cmpN shf i64ok subL dvq dvr dve sbD adl adc mulL mulH stL stH smN smC addL addK TimI TimJ isN invN ivX ivE InvI LQ ngS ivS dgP dgO dgL ofR BitVec.toNat prL pr Go.Proofs.YtkicjckhkefnpaaDoor.R8.l wrS ofS okS padL fhK outL sumL fromL digL woL wl woI iv st0 rsS rsE wat fullL ofN ofE dg2 okp dgF rsF
set_option maxRecDepth 100000 in
theorem vc52  (l : List Int) (F : D)  :
    (owed c52 (inv52 l) Tryd.f52 [.ints .u8 l] F) = (
 (True ∧ (4 : Nat) ≠ (0 : Nat)) ∧
 True ∧
 True ∧
 True ∧
 True ∧
 match decide ((↑l.length : Int) > (64 : Int)) with
 | true => ((1 : Nat) = (1 : Nat) ∧ True) ∧ (Sk.arr (4 : Nat) = Sk.arr (4 : Nat) ∧ (4 : Nat) ≠ (0 : Nat) ∧ (4 : Nat) = (4 : Nat) ∧ false = false) ∧ True ∧ (((4 : Nat) ≠ (0 : Nat) ∧ (4 : Nat) = (4 : Nat) ∧ true = true) ∧ false = false ∧ True) ∧ D.tup [D.arr IntKind.u64 (4 : Nat) [(0 : Int), (0 : Int), (0 : Int), (0 : Int)], D.val (Value.int IntKind.i64 (2 : Int))] = F
 | false =>
  (True ∧ (8 : Nat) ≠ (0 : Nat)) ∧
  True ∧
  True ∧
  True ∧
  (((AV.d (D.val (Value.int IntKind.i64 (0 : Int))) = AV.d (D.val (Value.int IntKind.i64 (↑(Int.toNat (0 : Int)) : Int))) ∧ True) ∧
  (sm (some (Blk.fix (D.arr IntKind.u64 (4 : Nat) [(0 : Int), (0 : Int), (0 : Int), (0 : Int)]))) ∧
  some (Blk.fix (D.arr IntKind.u64 (8 : Nat) [(0 : Int), (0 : Int), (0 : Int), (0 : Int), (0 : Int), (0 : Int), (0 : Int), (0 : Int)])) = some (Blk.fix (D.arr IntKind.u64 (8 : Nat) (nB (18446744073709551616 : Nat) (8 : Nat) (vB (256 : Nat) (List.take (Int.toNat (0 : Int)) l))))) ∧ True) ∧
  true = true) ∧
  Int.toNat (0 : Int) ≤ l.length) ∧
  ∀ (x : Nat),
  x ≤ l.length →
  true = true ∧
  True ∧
  match decide ((↑x : Int) < (↑l.length : Int)) with
  | true =>
   True ∧
   ((0 : Int) ≤ (↑x : Int) ∧ (↑x : Int) < (↑l.length : Int) ∧ (1 : Nat) = (1 : Nat)) ∧
   ((1 : Nat) ≠ (0 : Nat) ∧ (1 : Nat) = (1 : Nat) ∧ false = false) ∧
   True ∧
   True ∧
   True ∧
   (8 : Int) ≠ (0 : Int) ∧
   ((0 : Int) ≤ IntKind.i64.wrap ((↑x : Int).tdiv (8 : Int)) ∧ IntKind.i64.wrap ((↑x : Int).tdiv (8 : Int)) < (↑(8 : Nat) : Int) ∧ (8 : Nat) = (8 : Nat) ∧ (1 : Nat) = (1 : Nat)) ∧
   ((1 : Nat) ≠ (0 : Nat) ∧ (1 : Nat) = (1 : Nat) ∧ false = false) ∧
   True ∧
   True ∧
   True ∧
   (8 : Int) ≠ (0 : Int) ∧
   True ∧
   True ∧
   (0 : Int) ≤ IntKind.u64.wrap (IntKind.i64.wrap ((↑x : Int).tmod (8 : Int) * (8 : Int))) ∧
   True ∧
   ((0 : Int) ≤ IntKind.i64.wrap ((↑x : Int).tdiv (8 : Int)) ∧ IntKind.i64.wrap ((↑x : Int).tdiv (8 : Int)) < (↑(8 : Nat) : Int) ∧ (8 : Nat) = (8 : Nat) ∧ (1 : Nat) = (1 : Nat)) ∧
   (((IntKind.i64.wrap ((↑x : Int).tdiv (8 : Int))).toNat < (8 : Nat) ∧ ([] : List Nat) = [] ∧ true = true) ∧ (1 : Nat) ≠ (0 : Nat) ∧ (1 : Nat) = (1 : Nat) ∧ false = false) ∧
   True ∧
   True ∧
   ((AV.d (D.val (Value.int IntKind.i64 (IntKind.i64.wrap ((↑x : Int) + (1 : Int))))) = AV.d (D.val (Value.int IntKind.i64 (↑(IntKind.i64.wrap ((↑x : Int) + (1 : Int))).toNat : Int))) ∧ True) ∧
   (sm (some (Blk.fix (D.arr IntKind.u64 (4 : Nat) [(0 : Int), (0 : Int), (0 : Int), (0 : Int)]))) ∧
   some
   (Blk.fix
   (D.arr IntKind.u64 (8 : Nat)
   ((nB (18446744073709551616 : Nat) (8 : Nat) (vB (256 : Nat) (List.take x l))).set (IntKind.i64.wrap ((↑x : Int).tdiv (8 : Int))).toNat
   (ior IntKind.u64 ((nB (18446744073709551616 : Nat) (8 : Nat) (vB (256 : Nat) (List.take x l))).getD (IntKind.i64.wrap ((↑x : Int).tdiv (8 : Int))).toNat (0 : Int))
   (ishl IntKind.u64 (IntKind.u64.wrap (l.getD (↑x : Int).toNat (0 : Int))) (IntKind.u64.wrap (IntKind.i64.wrap ((↑x : Int).tmod (8 : Int) * (8 : Int))))))))) =
   some (Blk.fix (D.arr IntKind.u64 (8 : Nat) (nB (18446744073709551616 : Nat) (8 : Nat) (vB (256 : Nat) (List.take (IntKind.i64.wrap ((↑x : Int) + (1 : Int))).toNat l))))) ∧
   True) ∧
   true = true) ∧
   (IntKind.i64.wrap ((↑x : Int) + (1 : Int))).toNat ≤ l.length ∧ l.length - (IntKind.i64.wrap ((↑x : Int) + (1 : Int))).toNat < l.length - x
  | false =>
   ((8 : Nat) ≠ (0 : Nat) ∧ (8 : Nat) = (8 : Nat) ∧ true = true) ∧
   (∃ (w : List Int), [D.arr IntKind.u64 (8 : Nat) (nB (18446744073709551616 : Nat) (8 : Nat) (vB (256 : Nat) (List.take x l)))] = [D.arr IntKind.u64 (8 : Nat) w] ∧ okw w ∧ w.length = (8 : Nat)) ∧
   (Sk.arr (4 : Nat) = Sk.arr (4 : Nat) ∧ (4 : Nat) ≠ (0 : Nat) ∧ (4 : Nat) = (4 : Nat) ∧ false = false) ∧
   True ∧ (((4 : Nat) ≠ (0 : Nat) ∧ (4 : Nat) = (4 : Nat) ∧ true = true) ∧ false = false ∧ True) ∧ D.tup [D.arr IntKind.u64 (4 : Nat) (nB (18446744073709551616 : Nat) (4 : Nat) (vB (18446744073709551616 : Nat) (nB (18446744073709551616 : Nat) (8 : Nat) (vB (256 : Nat) (List.take x l))) % LQ)), D.val (Value.int IntKind.i64 (0 : Int))] = F) := by kernel_rfl
set_option maxRecDepth 100000 in
theorem vc113  (l : List Int) (F : D)  :
    (owed c113 (inv113 l) Tryd.f113 [.ints .u8 l] F) = (
 True ∧
 True ∧
 True ∧
 True ∧
 True ∧
 True ∧
 (((AV.d (D.val (Value.int IntKind.i64 (IntKind.i64.wrap ((↑l.length : Int) - (1 : Int))))) = AV.d (D.val (Value.int IntKind.i64 ((↑l.length : Int) - (1 : Int) - (↑((↑l.length : Int) - (1 : Int) - IntKind.i64.wrap ((↑l.length : Int) - (1 : Int))).toNat : Int)))) ∧
 dg (vB (256 : Nat) (List.drop (l.length - ((↑l.length : Int) - (1 : Int) - IntKind.i64.wrap ((↑l.length : Int) - (1 : Int))).toNat) l)) = [] ∧ True) ∧
 True ∧ true = true) ∧
 ((↑l.length : Int) - (1 : Int) - IntKind.i64.wrap ((↑l.length : Int) - (1 : Int))).toNat ≤ l.length) ∧
 ∀ (x : Nat),
 x ≤ l.length →
 true = true ∧
 True ∧
 True ∧
 match decide ((↑l.length : Int) - (1 : Int) - (↑x : Int) ≥ (0 : Int)) with
 | true =>
  True ∧
  ((1 : Nat) = (1 : Nat) ∧ (1 : Nat) ≤ (4096 : Nat)) ∧
  (∃ (l_1 : List Int), ∃ (m : List Int), [D.ints IntKind.i64 (dg (vB (256 : Nat) (List.drop (l.length - x) l))), D.ints IntKind.i64 [(256 : Int)]] = [D.ints IntKind.i64 l_1, D.ints IntKind.i64 m] ∧ (okd l_1 ∧ lenS l_1) ∧ okd m ∧ lenS m) ∧
  True ∧
  True ∧
  ((0 : Int) ≤ (↑l.length : Int) - (1 : Int) - (↑x : Int) ∧ (↑l.length : Int) - (1 : Int) - (↑x : Int) < (↑l.length : Int) ∧ (1 : Nat) = (1 : Nat)) ∧
  ((1 : Nat) ≠ (0 : Nat) ∧ (1 : Nat) = (1 : Nat) ∧ false = false) ∧
  True ∧
  ((1 : Nat) = (1 : Nat) ∧ (1 : Nat) ≤ (4096 : Nat)) ∧
  (∃ (l_1 : List Int),
  ∃ (m : List Int), [D.ints IntKind.i64 (dg (vB (65536 : Nat) (dg (vB (256 : Nat) (List.drop (l.length - x) l))) * vB (65536 : Nat) [(256 : Int)])), D.ints IntKind.i64 [IntKind.i64.wrap (l.getD ((↑l.length : Int) - (1 : Int) - (↑x : Int)).toNat (0 : Int))]] = [D.ints IntKind.i64 l_1, D.ints IntKind.i64 m] ∧ (okd l_1 ∧ lenS l_1) ∧ okd m ∧ lenS m) ∧
  True ∧
  True ∧
  True ∧
  True ∧
  ((AV.d (D.val (Value.int IntKind.i64 (IntKind.i64.wrap ((↑l.length : Int) - (1 : Int) - (↑x : Int) - (1 : Int))))) = AV.d (D.val (Value.int IntKind.i64 ((↑l.length : Int) - (1 : Int) - (↑((↑l.length : Int) - (1 : Int) - IntKind.i64.wrap ((↑l.length : Int) - (1 : Int) - (↑x : Int) - (1 : Int))).toNat : Int)))) ∧
  AV.d (D.ints IntKind.i64 (dg (vB (65536 : Nat) (dg (vB (65536 : Nat) (dg (vB (256 : Nat) (List.drop (l.length - x) l))) * vB (65536 : Nat) [(256 : Int)])) + vB (65536 : Nat) [IntKind.i64.wrap (l.getD ((↑l.length : Int) - (1 : Int) - (↑x : Int)).toNat (0 : Int))]))) =
  AV.d (D.ints IntKind.i64 (dg (vB (256 : Nat) (List.drop (l.length - ((↑l.length : Int) - (1 : Int) - IntKind.i64.wrap ((↑l.length : Int) - (1 : Int) - (↑x : Int) - (1 : Int))).toNat) l)))) ∧
  True) ∧
  True ∧ true = true) ∧
  ((↑l.length : Int) - (1 : Int) - IntKind.i64.wrap ((↑l.length : Int) - (1 : Int) - (↑x : Int) - (1 : Int))).toNat ≤ l.length ∧ l.length - ((↑l.length : Int) - (1 : Int) - IntKind.i64.wrap ((↑l.length : Int) - (1 : Int) - (↑x : Int) - (1 : Int))).toNat < l.length - x
 | false => True ∧ True ∧ (false = false ∧ True) ∧ D.ints IntKind.i64 (dg (vB (256 : Nat) (List.drop (l.length - x) l))) = F) := by kernel_rfl
set_option maxRecDepth 100000 in
theorem vc65  (c : Int) (p : List Int) (F : D)  :
    (owed c65 (fun _ => none) Tryd.f65 [.val (.int .u8 c), .ints .u8 p] F) = (
 (True ∧ (4 : Nat) ≠ (0 : Nat)) ∧
 (0 : Nat) = (0 : Nat) ∧
 True ∧
 ((1 : Nat) = (1 : Nat) ∧ (2 : Nat) ≤ (4096 : Nat)) ∧
 (∃ (s : HS),
 ∃ (p : List Int), [D.st [D.arr IntKind.u32 (8 : Nat) st0.h.l, D.val (Value.int IntKind.u64 (↑st0.n : Int)), D.arr IntKind.u8 (64 : Nat) st0.l], D.ints IntKind.u8 [c, (0 : Int)]] = [D.st [D.arr IntKind.u32 (8 : Nat) s.h.l, D.val (Value.int IntKind.u64 (↑s.n : Int)), D.arr IntKind.u8 (64 : Nat) s.l], D.ints IntKind.u8 p] ∧ okS s ∧ isBytes p ∧ p.length ≤ (1000000000000000 : Nat)) ∧
 True ∧
 (∃ (s : HS),
 ∃ (p_1 : List Int),
 [D.st
 [D.arr IntKind.u32 (8 : Nat) (wrS (ofS (D.st [D.arr IntKind.u32 (8 : Nat) st0.h.l, D.val (Value.int IntKind.u64 (↑st0.n : Int)), D.arr IntKind.u8 (64 : Nat) st0.l])) [c, (0 : Int)]).h.l,
 D.val (Value.int IntKind.u64 (↑(wrS (ofS (D.st [D.arr IntKind.u32 (8 : Nat) st0.h.l, D.val (Value.int IntKind.u64 (↑st0.n : Int)), D.arr IntKind.u8 (64 : Nat) st0.l])) [c, (0 : Int)]).n : Int)),
 D.arr IntKind.u8 (64 : Nat) (wrS (ofS (D.st [D.arr IntKind.u32 (8 : Nat) st0.h.l, D.val (Value.int IntKind.u64 (↑st0.n : Int)), D.arr IntKind.u8 (64 : Nat) st0.l])) [c, (0 : Int)]).l],
 D.ints IntKind.u8 p] =
 [D.st [D.arr IntKind.u32 (8 : Nat) s.h.l, D.val (Value.int IntKind.u64 (↑s.n : Int)), D.arr IntKind.u8 (64 : Nat) s.l], D.ints IntKind.u8 p_1] ∧
 okS s ∧ isBytes p_1 ∧ p_1.length ≤ (1000000000000000 : Nat)) ∧
 (∃ (s : HS),
 [D.st
 [D.arr IntKind.u32 (8 : Nat)
 (wrS
 (ofS
 (D.st
 [D.arr IntKind.u32 (8 : Nat) (wrS (ofS (D.st [D.arr IntKind.u32 (8 : Nat) st0.h.l, D.val (Value.int IntKind.u64 (↑st0.n : Int)), D.arr IntKind.u8 (64 : Nat) st0.l])) [c, (0 : Int)]).h.l,
 D.val (Value.int IntKind.u64 (↑(wrS (ofS (D.st [D.arr IntKind.u32 (8 : Nat) st0.h.l, D.val (Value.int IntKind.u64 (↑st0.n : Int)), D.arr IntKind.u8 (64 : Nat) st0.l])) [c, (0 : Int)]).n : Int)),
 D.arr IntKind.u8 (64 : Nat) (wrS (ofS (D.st [D.arr IntKind.u32 (8 : Nat) st0.h.l, D.val (Value.int IntKind.u64 (↑st0.n : Int)), D.arr IntKind.u8 (64 : Nat) st0.l])) [c, (0 : Int)]).l]))
 p).h.l,
 D.val
 (Value.int IntKind.u64
 (↑(wrS
 (ofS
 (D.st
 [D.arr IntKind.u32 (8 : Nat) (wrS (ofS (D.st [D.arr IntKind.u32 (8 : Nat) st0.h.l, D.val (Value.int IntKind.u64 (↑st0.n : Int)), D.arr IntKind.u8 (64 : Nat) st0.l])) [c, (0 : Int)]).h.l,
 D.val (Value.int IntKind.u64 (↑(wrS (ofS (D.st [D.arr IntKind.u32 (8 : Nat) st0.h.l, D.val (Value.int IntKind.u64 (↑st0.n : Int)), D.arr IntKind.u8 (64 : Nat) st0.l])) [c, (0 : Int)]).n : Int)),
 D.arr IntKind.u8 (64 : Nat) (wrS (ofS (D.st [D.arr IntKind.u32 (8 : Nat) st0.h.l, D.val (Value.int IntKind.u64 (↑st0.n : Int)), D.arr IntKind.u8 (64 : Nat) st0.l])) [c, (0 : Int)]).l]))
 p).n :
 Int)),
 D.arr IntKind.u8 (64 : Nat)
 (wrS
 (ofS
 (D.st
 [D.arr IntKind.u32 (8 : Nat) (wrS (ofS (D.st [D.arr IntKind.u32 (8 : Nat) st0.h.l, D.val (Value.int IntKind.u64 (↑st0.n : Int)), D.arr IntKind.u8 (64 : Nat) st0.l])) [c, (0 : Int)]).h.l,
 D.val (Value.int IntKind.u64 (↑(wrS (ofS (D.st [D.arr IntKind.u32 (8 : Nat) st0.h.l, D.val (Value.int IntKind.u64 (↑st0.n : Int)), D.arr IntKind.u8 (64 : Nat) st0.l])) [c, (0 : Int)]).n : Int)),
 D.arr IntKind.u8 (64 : Nat) (wrS (ofS (D.st [D.arr IntKind.u32 (8 : Nat) st0.h.l, D.val (Value.int IntKind.u64 (↑st0.n : Int)), D.arr IntKind.u8 (64 : Nat) st0.l])) [c, (0 : Int)]).l]))
 p).l]] =
 [D.st [D.arr IntKind.u32 (8 : Nat) s.h.l, D.val (Value.int IntKind.u64 (↑s.n : Int)), D.arr IntKind.u8 (64 : Nat) s.l]] ∧
 okS s) ∧
 (True ∧ (32 : Nat) ≠ (0 : Nat)) ∧
 (Sk.arr (32 : Nat) = Sk.arr (32 : Nat) ∧ (32 : Nat) ≠ (0 : Nat) ∧ (32 : Nat) = (32 : Nat) ∧ false = false) ∧
 (0 : Nat) = (0 : Nat) ∧
 True ∧
 ((1 : Nat) = (1 : Nat) ∧ (2 : Nat) ≤ (4096 : Nat)) ∧
 (∃ (s : HS),
 ∃ (p : List Int),
 [D.st [D.arr IntKind.u32 (8 : Nat) st0.h.l, D.val (Value.int IntKind.u64 (↑st0.n : Int)), D.arr IntKind.u8 (64 : Nat) st0.l], D.ints IntKind.u8 [c, (1 : Int)]] = [D.st [D.arr IntKind.u32 (8 : Nat) s.h.l, D.val (Value.int IntKind.u64 (↑s.n : Int)), D.arr IntKind.u8 (64 : Nat) s.l], D.ints IntKind.u8 p] ∧ okS s ∧ isBytes p ∧ p.length ≤ (1000000000000000 : Nat)) ∧
 True ∧
 (∃ (s : HS),
 ∃ (p_1 : List Int),
 [D.st
 [D.arr IntKind.u32 (8 : Nat) (wrS (ofS (D.st [D.arr IntKind.u32 (8 : Nat) st0.h.l, D.val (Value.int IntKind.u64 (↑st0.n : Int)), D.arr IntKind.u8 (64 : Nat) st0.l])) [c, (1 : Int)]).h.l,
 D.val (Value.int IntKind.u64 (↑(wrS (ofS (D.st [D.arr IntKind.u32 (8 : Nat) st0.h.l, D.val (Value.int IntKind.u64 (↑st0.n : Int)), D.arr IntKind.u8 (64 : Nat) st0.l])) [c, (1 : Int)]).n : Int)),
 D.arr IntKind.u8 (64 : Nat) (wrS (ofS (D.st [D.arr IntKind.u32 (8 : Nat) st0.h.l, D.val (Value.int IntKind.u64 (↑st0.n : Int)), D.arr IntKind.u8 (64 : Nat) st0.l])) [c, (1 : Int)]).l],
 D.ints IntKind.u8 p] =
 [D.st [D.arr IntKind.u32 (8 : Nat) s.h.l, D.val (Value.int IntKind.u64 (↑s.n : Int)), D.arr IntKind.u8 (64 : Nat) s.l], D.ints IntKind.u8 p_1] ∧
 okS s ∧ isBytes p_1 ∧ p_1.length ≤ (1000000000000000 : Nat)) ∧
 (∃ (s : HS),
 [D.st
 [D.arr IntKind.u32 (8 : Nat)
 (wrS
 (ofS
 (D.st
 [D.arr IntKind.u32 (8 : Nat) (wrS (ofS (D.st [D.arr IntKind.u32 (8 : Nat) st0.h.l, D.val (Value.int IntKind.u64 (↑st0.n : Int)), D.arr IntKind.u8 (64 : Nat) st0.l])) [c, (1 : Int)]).h.l,
 D.val (Value.int IntKind.u64 (↑(wrS (ofS (D.st [D.arr IntKind.u32 (8 : Nat) st0.h.l, D.val (Value.int IntKind.u64 (↑st0.n : Int)), D.arr IntKind.u8 (64 : Nat) st0.l])) [c, (1 : Int)]).n : Int)),
 D.arr IntKind.u8 (64 : Nat) (wrS (ofS (D.st [D.arr IntKind.u32 (8 : Nat) st0.h.l, D.val (Value.int IntKind.u64 (↑st0.n : Int)), D.arr IntKind.u8 (64 : Nat) st0.l])) [c, (1 : Int)]).l]))
 p).h.l,
 D.val
 (Value.int IntKind.u64
 (↑(wrS
 (ofS
 (D.st
 [D.arr IntKind.u32 (8 : Nat) (wrS (ofS (D.st [D.arr IntKind.u32 (8 : Nat) st0.h.l, D.val (Value.int IntKind.u64 (↑st0.n : Int)), D.arr IntKind.u8 (64 : Nat) st0.l])) [c, (1 : Int)]).h.l,
 D.val (Value.int IntKind.u64 (↑(wrS (ofS (D.st [D.arr IntKind.u32 (8 : Nat) st0.h.l, D.val (Value.int IntKind.u64 (↑st0.n : Int)), D.arr IntKind.u8 (64 : Nat) st0.l])) [c, (1 : Int)]).n : Int)),
 D.arr IntKind.u8 (64 : Nat) (wrS (ofS (D.st [D.arr IntKind.u32 (8 : Nat) st0.h.l, D.val (Value.int IntKind.u64 (↑st0.n : Int)), D.arr IntKind.u8 (64 : Nat) st0.l])) [c, (1 : Int)]).l]))
 p).n :
 Int)),
 D.arr IntKind.u8 (64 : Nat)
 (wrS
 (ofS
 (D.st
 [D.arr IntKind.u32 (8 : Nat) (wrS (ofS (D.st [D.arr IntKind.u32 (8 : Nat) st0.h.l, D.val (Value.int IntKind.u64 (↑st0.n : Int)), D.arr IntKind.u8 (64 : Nat) st0.l])) [c, (1 : Int)]).h.l,
 D.val (Value.int IntKind.u64 (↑(wrS (ofS (D.st [D.arr IntKind.u32 (8 : Nat) st0.h.l, D.val (Value.int IntKind.u64 (↑st0.n : Int)), D.arr IntKind.u8 (64 : Nat) st0.l])) [c, (1 : Int)]).n : Int)),
 D.arr IntKind.u8 (64 : Nat) (wrS (ofS (D.st [D.arr IntKind.u32 (8 : Nat) st0.h.l, D.val (Value.int IntKind.u64 (↑st0.n : Int)), D.arr IntKind.u8 (64 : Nat) st0.l])) [c, (1 : Int)]).l]))
 p).l]] =
 [D.st [D.arr IntKind.u32 (8 : Nat) s.h.l, D.val (Value.int IntKind.u64 (↑s.n : Int)), D.arr IntKind.u8 (64 : Nat) s.l]] ∧
 okS s) ∧
 (True ∧ (32 : Nat) ≠ (0 : Nat)) ∧
 (Sk.arr (32 : Nat) = Sk.arr (32 : Nat) ∧ (32 : Nat) ≠ (0 : Nat) ∧ (32 : Nat) = (32 : Nat) ∧ false = false) ∧
 ((0 : Int) ≤ (0 : Int) ∧ (0 : Int) ≤ (↑(32 : Nat) : Int) ∧ (↑(32 : Nat) : Int) ≤ (↑(32 : Nat) : Int) ∧ (32 : Nat) = (32 : Nat) ∧ (1 : Nat) = (1 : Nat)) ∧
 ((0 : Int) ≤ (0 : Int) ∧ (0 : Int) ≤ (↑(32 : Nat) : Int) ∧ (↑(32 : Nat) : Int) ≤ (↑(32 : Nat) : Int) ∧ (32 : Nat) = (32 : Nat) ∧ (1 : Nat) = (1 : Nat)) ∧
 (IntKind.u8 = IntKind.u8 ∧
 (26 : Nat) = (26 : Nat) ∧
 (↑(32 : Nat) : Int).toNat - (0 : Nat) = (32 : Nat) ∧
 (0 : Nat) < (32 : Nat) ∧
 (0 : Nat) <
 (List.take ((↑(32 : Nat) : Int).toNat - (0 : Nat))
 (List.drop (0 : Nat)
 (sumL
 (ofS
 (D.st
 [D.arr IntKind.u32 (8 : Nat)
 (wrS
 (ofS
 (D.st
 [D.arr IntKind.u32 (8 : Nat) (wrS (ofS (D.st [D.arr IntKind.u32 (8 : Nat) st0.h.l, D.val (Value.int IntKind.u64 (↑st0.n : Int)), D.arr IntKind.u8 (64 : Nat) st0.l])) [c, (1 : Int)]).h.l,
 D.val (Value.int IntKind.u64 (↑(wrS (ofS (D.st [D.arr IntKind.u32 (8 : Nat) st0.h.l, D.val (Value.int IntKind.u64 (↑st0.n : Int)), D.arr IntKind.u8 (64 : Nat) st0.l])) [c, (1 : Int)]).n : Int)),
 D.arr IntKind.u8 (64 : Nat) (wrS (ofS (D.st [D.arr IntKind.u32 (8 : Nat) st0.h.l, D.val (Value.int IntKind.u64 (↑st0.n : Int)), D.arr IntKind.u8 (64 : Nat) st0.l])) [c, (1 : Int)]).l]))
 p).h.l,
 D.val
 (Value.int IntKind.u64
 (↑(wrS
 (ofS
 (D.st
 [D.arr IntKind.u32 (8 : Nat) (wrS (ofS (D.st [D.arr IntKind.u32 (8 : Nat) st0.h.l, D.val (Value.int IntKind.u64 (↑st0.n : Int)), D.arr IntKind.u8 (64 : Nat) st0.l])) [c, (1 : Int)]).h.l,
 D.val (Value.int IntKind.u64 (↑(wrS (ofS (D.st [D.arr IntKind.u32 (8 : Nat) st0.h.l, D.val (Value.int IntKind.u64 (↑st0.n : Int)), D.arr IntKind.u8 (64 : Nat) st0.l])) [c, (1 : Int)]).n : Int)),
 D.arr IntKind.u8 (64 : Nat) (wrS (ofS (D.st [D.arr IntKind.u32 (8 : Nat) st0.h.l, D.val (Value.int IntKind.u64 (↑st0.n : Int)), D.arr IntKind.u8 (64 : Nat) st0.l])) [c, (1 : Int)]).l]))
 p).n :
 Int)),
 D.arr IntKind.u8 (64 : Nat)
 (wrS
 (ofS
 (D.st
 [D.arr IntKind.u32 (8 : Nat) (wrS (ofS (D.st [D.arr IntKind.u32 (8 : Nat) st0.h.l, D.val (Value.int IntKind.u64 (↑st0.n : Int)), D.arr IntKind.u8 (64 : Nat) st0.l])) [c, (1 : Int)]).h.l,
 D.val (Value.int IntKind.u64 (↑(wrS (ofS (D.st [D.arr IntKind.u32 (8 : Nat) st0.h.l, D.val (Value.int IntKind.u64 (↑st0.n : Int)), D.arr IntKind.u8 (64 : Nat) st0.l])) [c, (1 : Int)]).n : Int)),
 D.arr IntKind.u8 (64 : Nat) (wrS (ofS (D.st [D.arr IntKind.u32 (8 : Nat) st0.h.l, D.val (Value.int IntKind.u64 (↑st0.n : Int)), D.arr IntKind.u8 (64 : Nat) st0.l])) [c, (1 : Int)]).l]))
 p).l]))))).length ∧
 (↑(32 : Nat) : Int).toNat - (0 : Nat) +
 (List.take ((↑(32 : Nat) : Int).toNat - (0 : Nat))
 (List.drop (0 : Nat)
 (sumL
 (ofS
 (D.st
 [D.arr IntKind.u32 (8 : Nat)
 (wrS
 (ofS
 (D.st
 [D.arr IntKind.u32 (8 : Nat) (wrS (ofS (D.st [D.arr IntKind.u32 (8 : Nat) st0.h.l, D.val (Value.int IntKind.u64 (↑st0.n : Int)), D.arr IntKind.u8 (64 : Nat) st0.l])) [c, (1 : Int)]).h.l,
 D.val (Value.int IntKind.u64 (↑(wrS (ofS (D.st [D.arr IntKind.u32 (8 : Nat) st0.h.l, D.val (Value.int IntKind.u64 (↑st0.n : Int)), D.arr IntKind.u8 (64 : Nat) st0.l])) [c, (1 : Int)]).n : Int)),
 D.arr IntKind.u8 (64 : Nat) (wrS (ofS (D.st [D.arr IntKind.u32 (8 : Nat) st0.h.l, D.val (Value.int IntKind.u64 (↑st0.n : Int)), D.arr IntKind.u8 (64 : Nat) st0.l])) [c, (1 : Int)]).l]))
 p).h.l,
 D.val
 (Value.int IntKind.u64
 (↑(wrS
 (ofS
 (D.st
 [D.arr IntKind.u32 (8 : Nat) (wrS (ofS (D.st [D.arr IntKind.u32 (8 : Nat) st0.h.l, D.val (Value.int IntKind.u64 (↑st0.n : Int)), D.arr IntKind.u8 (64 : Nat) st0.l])) [c, (1 : Int)]).h.l,
 D.val (Value.int IntKind.u64 (↑(wrS (ofS (D.st [D.arr IntKind.u32 (8 : Nat) st0.h.l, D.val (Value.int IntKind.u64 (↑st0.n : Int)), D.arr IntKind.u8 (64 : Nat) st0.l])) [c, (1 : Int)]).n : Int)),
 D.arr IntKind.u8 (64 : Nat) (wrS (ofS (D.st [D.arr IntKind.u32 (8 : Nat) st0.h.l, D.val (Value.int IntKind.u64 (↑st0.n : Int)), D.arr IntKind.u8 (64 : Nat) st0.l])) [c, (1 : Int)]).l]))
 p).n :
 Int)),
 D.arr IntKind.u8 (64 : Nat)
 (wrS
 (ofS
 (D.st
 [D.arr IntKind.u32 (8 : Nat) (wrS (ofS (D.st [D.arr IntKind.u32 (8 : Nat) st0.h.l, D.val (Value.int IntKind.u64 (↑st0.n : Int)), D.arr IntKind.u8 (64 : Nat) st0.l])) [c, (1 : Int)]).h.l,
 D.val (Value.int IntKind.u64 (↑(wrS (ofS (D.st [D.arr IntKind.u32 (8 : Nat) st0.h.l, D.val (Value.int IntKind.u64 (↑st0.n : Int)), D.arr IntKind.u8 (64 : Nat) st0.l])) [c, (1 : Int)]).n : Int)),
 D.arr IntKind.u8 (64 : Nat) (wrS (ofS (D.st [D.arr IntKind.u32 (8 : Nat) st0.h.l, D.val (Value.int IntKind.u64 (↑st0.n : Int)), D.arr IntKind.u8 (64 : Nat) st0.l])) [c, (1 : Int)]).l]))
 p).l]))))).length ≤
 (140737488355328 : Nat) ∧
 ((↑(32 : Nat) : Int).toNat - (0 : Nat) +
 (List.take ((↑(32 : Nat) : Int).toNat - (0 : Nat))
 (List.drop (0 : Nat)
 (sumL
 (ofS
 (D.st
 [D.arr IntKind.u32 (8 : Nat)
 (wrS
 (ofS
 (D.st
 [D.arr IntKind.u32 (8 : Nat) (wrS (ofS (D.st [D.arr IntKind.u32 (8 : Nat) st0.h.l, D.val (Value.int IntKind.u64 (↑st0.n : Int)), D.arr IntKind.u8 (64 : Nat) st0.l])) [c, (1 : Int)]).h.l,
 D.val (Value.int IntKind.u64 (↑(wrS (ofS (D.st [D.arr IntKind.u32 (8 : Nat) st0.h.l, D.val (Value.int IntKind.u64 (↑st0.n : Int)), D.arr IntKind.u8 (64 : Nat) st0.l])) [c, (1 : Int)]).n : Int)),
 D.arr IntKind.u8 (64 : Nat) (wrS (ofS (D.st [D.arr IntKind.u32 (8 : Nat) st0.h.l, D.val (Value.int IntKind.u64 (↑st0.n : Int)), D.arr IntKind.u8 (64 : Nat) st0.l])) [c, (1 : Int)]).l]))
 p).h.l,
 D.val
 (Value.int IntKind.u64
 (↑(wrS
 (ofS
 (D.st
 [D.arr IntKind.u32 (8 : Nat) (wrS (ofS (D.st [D.arr IntKind.u32 (8 : Nat) st0.h.l, D.val (Value.int IntKind.u64 (↑st0.n : Int)), D.arr IntKind.u8 (64 : Nat) st0.l])) [c, (1 : Int)]).h.l,
 D.val (Value.int IntKind.u64 (↑(wrS (ofS (D.st [D.arr IntKind.u32 (8 : Nat) st0.h.l, D.val (Value.int IntKind.u64 (↑st0.n : Int)), D.arr IntKind.u8 (64 : Nat) st0.l])) [c, (1 : Int)]).n : Int)),
 D.arr IntKind.u8 (64 : Nat) (wrS (ofS (D.st [D.arr IntKind.u32 (8 : Nat) st0.h.l, D.val (Value.int IntKind.u64 (↑st0.n : Int)), D.arr IntKind.u8 (64 : Nat) st0.l])) [c, (1 : Int)]).l]))
 p).n :
 Int)),
 D.arr IntKind.u8 (64 : Nat)
 (wrS
 (ofS
 (D.st
 [D.arr IntKind.u32 (8 : Nat) (wrS (ofS (D.st [D.arr IntKind.u32 (8 : Nat) st0.h.l, D.val (Value.int IntKind.u64 (↑st0.n : Int)), D.arr IntKind.u8 (64 : Nat) st0.l])) [c, (1 : Int)]).h.l,
 D.val (Value.int IntKind.u64 (↑(wrS (ofS (D.st [D.arr IntKind.u32 (8 : Nat) st0.h.l, D.val (Value.int IntKind.u64 (↑st0.n : Int)), D.arr IntKind.u8 (64 : Nat) st0.l])) [c, (1 : Int)]).n : Int)),
 D.arr IntKind.u8 (64 : Nat) (wrS (ofS (D.st [D.arr IntKind.u32 (8 : Nat) st0.h.l, D.val (Value.int IntKind.u64 (↑st0.n : Int)), D.arr IntKind.u8 (64 : Nat) st0.l])) [c, (1 : Int)]).l]))
 p).l]))))).length) *
 (1 : Nat) ≤
 (140737488355328 : Nat) ∧
 (1 : Nat) = (1 : Nat)) ∧
 (∃ (l : List Int),
 [D.ints IntKind.u8
 (List.take ((↑(32 : Nat) : Int).toNat - (0 : Nat))
 (List.drop (0 : Nat)
 (sumL
 (ofS
 (D.st
 [D.arr IntKind.u32 (8 : Nat)
 (wrS
 (ofS
 (D.st
 [D.arr IntKind.u32 (8 : Nat) (wrS (ofS (D.st [D.arr IntKind.u32 (8 : Nat) st0.h.l, D.val (Value.int IntKind.u64 (↑st0.n : Int)), D.arr IntKind.u8 (64 : Nat) st0.l])) [c, (0 : Int)]).h.l,
 D.val (Value.int IntKind.u64 (↑(wrS (ofS (D.st [D.arr IntKind.u32 (8 : Nat) st0.h.l, D.val (Value.int IntKind.u64 (↑st0.n : Int)), D.arr IntKind.u8 (64 : Nat) st0.l])) [c, (0 : Int)]).n : Int)),
 D.arr IntKind.u8 (64 : Nat) (wrS (ofS (D.st [D.arr IntKind.u32 (8 : Nat) st0.h.l, D.val (Value.int IntKind.u64 (↑st0.n : Int)), D.arr IntKind.u8 (64 : Nat) st0.l])) [c, (0 : Int)]).l]))
 p).h.l,
 D.val
 (Value.int IntKind.u64
 (↑(wrS
 (ofS
 (D.st
 [D.arr IntKind.u32 (8 : Nat) (wrS (ofS (D.st [D.arr IntKind.u32 (8 : Nat) st0.h.l, D.val (Value.int IntKind.u64 (↑st0.n : Int)), D.arr IntKind.u8 (64 : Nat) st0.l])) [c, (0 : Int)]).h.l,
 D.val (Value.int IntKind.u64 (↑(wrS (ofS (D.st [D.arr IntKind.u32 (8 : Nat) st0.h.l, D.val (Value.int IntKind.u64 (↑st0.n : Int)), D.arr IntKind.u8 (64 : Nat) st0.l])) [c, (0 : Int)]).n : Int)),
 D.arr IntKind.u8 (64 : Nat) (wrS (ofS (D.st [D.arr IntKind.u32 (8 : Nat) st0.h.l, D.val (Value.int IntKind.u64 (↑st0.n : Int)), D.arr IntKind.u8 (64 : Nat) st0.l])) [c, (0 : Int)]).l]))
 p).n :
 Int)),
 D.arr IntKind.u8 (64 : Nat)
 (wrS
 (ofS
 (D.st
 [D.arr IntKind.u32 (8 : Nat) (wrS (ofS (D.st [D.arr IntKind.u32 (8 : Nat) st0.h.l, D.val (Value.int IntKind.u64 (↑st0.n : Int)), D.arr IntKind.u8 (64 : Nat) st0.l])) [c, (0 : Int)]).h.l,
 D.val (Value.int IntKind.u64 (↑(wrS (ofS (D.st [D.arr IntKind.u32 (8 : Nat) st0.h.l, D.val (Value.int IntKind.u64 (↑st0.n : Int)), D.arr IntKind.u8 (64 : Nat) st0.l])) [c, (0 : Int)]).n : Int)),
 D.arr IntKind.u8 (64 : Nat) (wrS (ofS (D.st [D.arr IntKind.u32 (8 : Nat) st0.h.l, D.val (Value.int IntKind.u64 (↑st0.n : Int)), D.arr IntKind.u8 (64 : Nat) st0.l])) [c, (0 : Int)]).l]))
 p).l])))) ++
 List.take ((↑(32 : Nat) : Int).toNat - (0 : Nat))
 (List.drop (0 : Nat)
 (sumL
 (ofS
 (D.st
 [D.arr IntKind.u32 (8 : Nat)
 (wrS
 (ofS
 (D.st
 [D.arr IntKind.u32 (8 : Nat) (wrS (ofS (D.st [D.arr IntKind.u32 (8 : Nat) st0.h.l, D.val (Value.int IntKind.u64 (↑st0.n : Int)), D.arr IntKind.u8 (64 : Nat) st0.l])) [c, (1 : Int)]).h.l,
 D.val (Value.int IntKind.u64 (↑(wrS (ofS (D.st [D.arr IntKind.u32 (8 : Nat) st0.h.l, D.val (Value.int IntKind.u64 (↑st0.n : Int)), D.arr IntKind.u8 (64 : Nat) st0.l])) [c, (1 : Int)]).n : Int)),
 D.arr IntKind.u8 (64 : Nat) (wrS (ofS (D.st [D.arr IntKind.u32 (8 : Nat) st0.h.l, D.val (Value.int IntKind.u64 (↑st0.n : Int)), D.arr IntKind.u8 (64 : Nat) st0.l])) [c, (1 : Int)]).l]))
 p).h.l,
 D.val
 (Value.int IntKind.u64
 (↑(wrS
 (ofS
 (D.st
 [D.arr IntKind.u32 (8 : Nat) (wrS (ofS (D.st [D.arr IntKind.u32 (8 : Nat) st0.h.l, D.val (Value.int IntKind.u64 (↑st0.n : Int)), D.arr IntKind.u8 (64 : Nat) st0.l])) [c, (1 : Int)]).h.l,
 D.val (Value.int IntKind.u64 (↑(wrS (ofS (D.st [D.arr IntKind.u32 (8 : Nat) st0.h.l, D.val (Value.int IntKind.u64 (↑st0.n : Int)), D.arr IntKind.u8 (64 : Nat) st0.l])) [c, (1 : Int)]).n : Int)),
 D.arr IntKind.u8 (64 : Nat) (wrS (ofS (D.st [D.arr IntKind.u32 (8 : Nat) st0.h.l, D.val (Value.int IntKind.u64 (↑st0.n : Int)), D.arr IntKind.u8 (64 : Nat) st0.l])) [c, (1 : Int)]).l]))
 p).n :
 Int)),
 D.arr IntKind.u8 (64 : Nat)
 (wrS
 (ofS
 (D.st
 [D.arr IntKind.u32 (8 : Nat) (wrS (ofS (D.st [D.arr IntKind.u32 (8 : Nat) st0.h.l, D.val (Value.int IntKind.u64 (↑st0.n : Int)), D.arr IntKind.u8 (64 : Nat) st0.l])) [c, (1 : Int)]).h.l,
 D.val (Value.int IntKind.u64 (↑(wrS (ofS (D.st [D.arr IntKind.u32 (8 : Nat) st0.h.l, D.val (Value.int IntKind.u64 (↑st0.n : Int)), D.arr IntKind.u8 (64 : Nat) st0.l])) [c, (1 : Int)]).n : Int)),
 D.arr IntKind.u8 (64 : Nat) (wrS (ofS (D.st [D.arr IntKind.u32 (8 : Nat) st0.h.l, D.val (Value.int IntKind.u64 (↑st0.n : Int)), D.arr IntKind.u8 (64 : Nat) st0.l])) [c, (1 : Int)]).l]))
 p).l])))))] =
 [D.ints IntKind.u8 l] ∧
 okp l) ∧
 True ∧
 ((0 : Nat) < (2 : Nat) ∧ false = false) ∧
 ((1 : Nat) < (2 : Nat) ∧ false = false) ∧
 (True ∧ (4 : Nat) ≠ (0 : Nat)) ∧
 (Sk.arr (4 : Nat) = Sk.arr (4 : Nat) ∧ (4 : Nat) ≠ (0 : Nat) ∧ (4 : Nat) = (4 : Nat) ∧ false = false) ∧
 True ∧
 ((4 : Nat) ≠ (0 : Nat) ∧ (4 : Nat) = (4 : Nat) ∧ true = true) ∧
 (Sk.arr (4 : Nat) = Sk.arr (4 : Nat) ∧ (4 : Nat) ≠ (0 : Nat) ∧ (4 : Nat) = (4 : Nat) ∧ false = false) ∧
 (((4 : Nat) ≠ (0 : Nat) ∧ (4 : Nat) = (4 : Nat) ∧ true = true) ∧ True) ∧
 D.arr IntKind.u64 (4 : Nat)
 (nB (18446744073709551616 : Nat) (4 : Nat)
 (ofN
 (List.take ((↑(32 : Nat) : Int).toNat - (0 : Nat))
 (List.drop (0 : Nat)
 (sumL
 (ofS
 (D.st
 [D.arr IntKind.u32 (8 : Nat)
 (wrS
 (ofS
 (D.st
 [D.arr IntKind.u32 (8 : Nat) (wrS (ofS (D.st [D.arr IntKind.u32 (8 : Nat) st0.h.l, D.val (Value.int IntKind.u64 (↑st0.n : Int)), D.arr IntKind.u8 (64 : Nat) st0.l])) [c, (0 : Int)]).h.l,
 D.val (Value.int IntKind.u64 (↑(wrS (ofS (D.st [D.arr IntKind.u32 (8 : Nat) st0.h.l, D.val (Value.int IntKind.u64 (↑st0.n : Int)), D.arr IntKind.u8 (64 : Nat) st0.l])) [c, (0 : Int)]).n : Int)),
 D.arr IntKind.u8 (64 : Nat) (wrS (ofS (D.st [D.arr IntKind.u32 (8 : Nat) st0.h.l, D.val (Value.int IntKind.u64 (↑st0.n : Int)), D.arr IntKind.u8 (64 : Nat) st0.l])) [c, (0 : Int)]).l]))
 p).h.l,
 D.val
 (Value.int IntKind.u64
 (↑(wrS
 (ofS
 (D.st
 [D.arr IntKind.u32 (8 : Nat) (wrS (ofS (D.st [D.arr IntKind.u32 (8 : Nat) st0.h.l, D.val (Value.int IntKind.u64 (↑st0.n : Int)), D.arr IntKind.u8 (64 : Nat) st0.l])) [c, (0 : Int)]).h.l,
 D.val (Value.int IntKind.u64 (↑(wrS (ofS (D.st [D.arr IntKind.u32 (8 : Nat) st0.h.l, D.val (Value.int IntKind.u64 (↑st0.n : Int)), D.arr IntKind.u8 (64 : Nat) st0.l])) [c, (0 : Int)]).n : Int)),
 D.arr IntKind.u8 (64 : Nat) (wrS (ofS (D.st [D.arr IntKind.u32 (8 : Nat) st0.h.l, D.val (Value.int IntKind.u64 (↑st0.n : Int)), D.arr IntKind.u8 (64 : Nat) st0.l])) [c, (0 : Int)]).l]))
 p).n :
 Int)),
 D.arr IntKind.u8 (64 : Nat)
 (wrS
 (ofS
 (D.st
 [D.arr IntKind.u32 (8 : Nat) (wrS (ofS (D.st [D.arr IntKind.u32 (8 : Nat) st0.h.l, D.val (Value.int IntKind.u64 (↑st0.n : Int)), D.arr IntKind.u8 (64 : Nat) st0.l])) [c, (0 : Int)]).h.l,
 D.val (Value.int IntKind.u64 (↑(wrS (ofS (D.st [D.arr IntKind.u32 (8 : Nat) st0.h.l, D.val (Value.int IntKind.u64 (↑st0.n : Int)), D.arr IntKind.u8 (64 : Nat) st0.l])) [c, (0 : Int)]).n : Int)),
 D.arr IntKind.u8 (64 : Nat) (wrS (ofS (D.st [D.arr IntKind.u32 (8 : Nat) st0.h.l, D.val (Value.int IntKind.u64 (↑st0.n : Int)), D.arr IntKind.u8 (64 : Nat) st0.l])) [c, (0 : Int)]).l]))
 p).l])))) ++
 List.take ((↑(32 : Nat) : Int).toNat - (0 : Nat))
 (List.drop (0 : Nat)
 (sumL
 (ofS
 (D.st
 [D.arr IntKind.u32 (8 : Nat)
 (wrS
 (ofS
 (D.st
 [D.arr IntKind.u32 (8 : Nat) (wrS (ofS (D.st [D.arr IntKind.u32 (8 : Nat) st0.h.l, D.val (Value.int IntKind.u64 (↑st0.n : Int)), D.arr IntKind.u8 (64 : Nat) st0.l])) [c, (1 : Int)]).h.l,
 D.val (Value.int IntKind.u64 (↑(wrS (ofS (D.st [D.arr IntKind.u32 (8 : Nat) st0.h.l, D.val (Value.int IntKind.u64 (↑st0.n : Int)), D.arr IntKind.u8 (64 : Nat) st0.l])) [c, (1 : Int)]).n : Int)),
 D.arr IntKind.u8 (64 : Nat) (wrS (ofS (D.st [D.arr IntKind.u32 (8 : Nat) st0.h.l, D.val (Value.int IntKind.u64 (↑st0.n : Int)), D.arr IntKind.u8 (64 : Nat) st0.l])) [c, (1 : Int)]).l]))
 p).h.l,
 D.val
 (Value.int IntKind.u64
 (↑(wrS
 (ofS
 (D.st
 [D.arr IntKind.u32 (8 : Nat) (wrS (ofS (D.st [D.arr IntKind.u32 (8 : Nat) st0.h.l, D.val (Value.int IntKind.u64 (↑st0.n : Int)), D.arr IntKind.u8 (64 : Nat) st0.l])) [c, (1 : Int)]).h.l,
 D.val (Value.int IntKind.u64 (↑(wrS (ofS (D.st [D.arr IntKind.u32 (8 : Nat) st0.h.l, D.val (Value.int IntKind.u64 (↑st0.n : Int)), D.arr IntKind.u8 (64 : Nat) st0.l])) [c, (1 : Int)]).n : Int)),
 D.arr IntKind.u8 (64 : Nat) (wrS (ofS (D.st [D.arr IntKind.u32 (8 : Nat) st0.h.l, D.val (Value.int IntKind.u64 (↑st0.n : Int)), D.arr IntKind.u8 (64 : Nat) st0.l])) [c, (1 : Int)]).l]))
 p).n :
 Int)),
 D.arr IntKind.u8 (64 : Nat)
 (wrS
 (ofS
 (D.st
 [D.arr IntKind.u32 (8 : Nat) (wrS (ofS (D.st [D.arr IntKind.u32 (8 : Nat) st0.h.l, D.val (Value.int IntKind.u64 (↑st0.n : Int)), D.arr IntKind.u8 (64 : Nat) st0.l])) [c, (1 : Int)]).h.l,
 D.val (Value.int IntKind.u64 (↑(wrS (ofS (D.st [D.arr IntKind.u32 (8 : Nat) st0.h.l, D.val (Value.int IntKind.u64 (↑st0.n : Int)), D.arr IntKind.u8 (64 : Nat) st0.l])) [c, (1 : Int)]).n : Int)),
 D.arr IntKind.u8 (64 : Nat) (wrS (ofS (D.st [D.arr IntKind.u32 (8 : Nat) st0.h.l, D.val (Value.int IntKind.u64 (↑st0.n : Int)), D.arr IntKind.u8 (64 : Nat) st0.l])) [c, (1 : Int)]).l]))
 p).l]))))))) =
 F) := by kernel_rfl
set_option maxRecDepth 100000 in
theorem vc66  (c : Int) (p : List Int) (F : D)  :
    (owed c66 (fun _ => none) Tryd.f66 [.val (.int .u8 c), .str p] F) = (
 True ∧
 True ∧
 ((1 : Nat) = (1 : Nat) ∧ (2 : Nat) ≤ (4096 : Nat)) ∧
 isBytes [c, (0 : Int)] ∧
 True ∧
 (↑((2 : Nat) + p.length) : Int) ≤ (9223372036854775807 : Int) ∧
 (∃ (p_1 : List Int), [D.str (c :: (0 : Int) :: p)] = [D.str p_1] ∧ isBytes p_1 ∧ p_1.length ≤ (1000000000000000 : Nat)) ∧
 (True ∧ (32 : Nat) ≠ (0 : Nat)) ∧
 (Sk.arr (32 : Nat) = Sk.arr (32 : Nat) ∧ (32 : Nat) ≠ (0 : Nat) ∧ (32 : Nat) = (32 : Nat) ∧ false = false) ∧
 True ∧
 ((1 : Nat) = (1 : Nat) ∧ (2 : Nat) ≤ (4096 : Nat)) ∧
 isBytes [c, (1 : Int)] ∧
 True ∧
 (↑((2 : Nat) + p.length) : Int) ≤ (9223372036854775807 : Int) ∧
 (∃ (p_1 : List Int), [D.str (c :: (1 : Int) :: p)] = [D.str p_1] ∧ isBytes p_1 ∧ p_1.length ≤ (1000000000000000 : Nat)) ∧
 (True ∧ (32 : Nat) ≠ (0 : Nat)) ∧
 (Nat.beq (6 : Nat) (6 : Nat) = true ∧ Sk.arr (32 : Nat) = Sk.arr (32 : Nat) ∧ (32 : Nat) ≠ (0 : Nat) ∧ (32 : Nat) = (32 : Nat) ∧ false = false) ∧
 ((0 : Int) ≤ (0 : Int) ∧ (0 : Int) ≤ (↑(32 : Nat) : Int) ∧ (↑(32 : Nat) : Int) ≤ (↑(32 : Nat) : Int) ∧ (32 : Nat) = (32 : Nat) ∧ (1 : Nat) = (1 : Nat)) ∧
 ((1 : Nat) ≠ (0 : Nat) ∧
 (26 : Nat) = (26 : Nat) ∧
 true = true ∧ (List.take ((↑(32 : Nat) : Int).toNat - (0 : Nat)) (List.drop (0 : Nat) (digL (c :: (0 : Int) :: p)))).length ≤ (140737488355328 : Nat) ∧ (List.take ((↑(32 : Nat) : Int).toNat - (0 : Nat)) (List.drop (0 : Nat) (digL (c :: (0 : Int) :: p)))).length * (1 : Nat) ≤ (140737488355328 : Nat) ∧ (1 : Nat) ≠ (0 : Nat) ∧ (1 : Nat) = (1 : Nat)) ∧
 (Nat.beq (6 : Nat) (6 : Nat) = true ∧ (0 : Int) ≤ (0 : Int) ∧ (0 : Int) ≤ (↑(32 : Nat) : Int) ∧ (↑(32 : Nat) : Int) ≤ (↑(32 : Nat) : Int) ∧ (32 : Nat) = (32 : Nat) ∧ (1 : Nat) = (1 : Nat)) ∧
 ((5 : TypeId) = (5 : TypeId) ∧
 (26 : Nat) = (26 : Nat) ∧
 true = true ∧
 (List.take ((↑(32 : Nat) : Int).toNat - (0 : Nat)) (List.drop (0 : Nat) (digL (c :: (0 : Int) :: p))) ++ List.take ((↑(32 : Nat) : Int).toNat - (0 : Nat)) (List.drop (0 : Nat) (digL (c :: (1 : Int) :: p)))).length ≤ (140737488355328 : Nat) ∧
 (List.take ((↑(32 : Nat) : Int).toNat - (0 : Nat)) (List.drop (0 : Nat) (digL (c :: (0 : Int) :: p))) ++ List.take ((↑(32 : Nat) : Int).toNat - (0 : Nat)) (List.drop (0 : Nat) (digL (c :: (1 : Int) :: p)))).length * (1 : Nat) ≤ (140737488355328 : Nat) ∧ (1 : Nat) ≠ (0 : Nat) ∧ (1 : Nat) = (1 : Nat)) ∧
 (∃ (l : List Int), [D.ints IntKind.u8 (List.take ((↑(32 : Nat) : Int).toNat - (0 : Nat)) (List.drop (0 : Nat) (digL (c :: (0 : Int) :: p))) ++ List.take ((↑(32 : Nat) : Int).toNat - (0 : Nat)) (List.drop (0 : Nat) (digL (c :: (1 : Int) :: p))))] = [D.ints IntKind.u8 l] ∧ isBytes l ∧ l.length ≤ (64 : Nat)) ∧
 (0 : Nat) = (0 : Nat) ∧
 (∃ (l : List Int),
 ∃ (m : List Int),
 [D.ints IntKind.i64 (dgF (List.take ((↑(32 : Nat) : Int).toNat - (0 : Nat)) (List.drop (0 : Nat) (digL (c :: (0 : Int) :: p))) ++ List.take ((↑(32 : Nat) : Int).toNat - (0 : Nat)) (List.drop (0 : Nat) (digL (c :: (1 : Int) :: p))))), D.ints IntKind.i64 dgL] = [D.ints IntKind.i64 l, D.ints IntKind.i64 m] ∧
 (okd l ∧ len1 l) ∧ (okd m ∧ len1 m) ∧ vB (65536 : Nat) m ≠ (0 : Nat)) ∧
 True ∧ (false = false ∧ True) ∧ D.ints IntKind.i64 (rsF (dgF (List.take ((↑(32 : Nat) : Int).toNat - (0 : Nat)) (List.drop (0 : Nat) (digL (c :: (0 : Int) :: p))) ++ List.take ((↑(32 : Nat) : Int).toNat - (0 : Nat)) (List.drop (0 : Nat) (digL (c :: (1 : Int) :: p))))) dgL) = F) := by kernel_rfl
end Go.Proofs.YtkicjckhkefnpaaDoor
namespace Go.Proofs.YtkicjckhkefnpaaDoor
open Go Go.Vg
theorem wordG {l : List Int} (h : isBytes l) (n : Nat) (hl : l.length ≤ 8 * n) (x : Nat) (hx : x < l.length) :
    (nB 18446744073709551616 n (vB 256 (l.take x))).set (x / 8) (ior IntKind.u64 ((nB 18446744073709551616 n (vB 256 (l.take x))).getD (x / 8) 0) (ishl IntKind.u64 (l.getD x 0) ((x % 8 * 8 : Nat) : Int))) = nB 18446744073709551616 n (vB 256 (l.take (x + 1))) := by
  have hs := h _ (getD_mem (l := l) (n := x) hx)
  obtain ⟨s, e⟩ := Int.eq_ofNat_of_zero_le hs.1
  have hlt : vB 256 (l.take x) < 256 ^ x := by
    have := vB_lt (b := 256) (l := l.take x) fun y hy => h y (List.mem_of_mem_take hy)
    rwa [List.length_take, show min x l.length = x by omega] at this
  obtain ⟨g1, g2, g3⟩ := nB_grow 256 8 n (vB 256 (l.take x)) x s (by decide) (by decide) hlt (by omega) (by omega)
  rw [show (256 ^ 8 : Nat) = 18446744073709551616 by decide] at g1 g2 g3
  rw [vB_take1 x (by omega), e, Int.toNat_natCast, g1, nB_get _ _ _ _ (by omega)]
  generalize vB 256 (l.take x) / 18446744073709551616 ^ (x / 8) % 18446744073709551616 = o at g2 g3 ⊢
  have g4 : 256 ^ (x % 8 + 1) ≤ 256 ^ 8 := Nat.pow_le_pow_right (by decide) (by omega)
  rw [show (256 ^ 8 : Nat) = 18446744073709551616 by decide] at g4
  have g5 : o ≤ o + 256 ^ (x % 8) * s := Nat.le_add_right _ _
  have e2 : ishl IntKind.u64 (s : Int) ((x % 8 * 8 : Nat) : Int) = ((256 ^ (x % 8) * s : Nat) : Int) := by
    unfold ishl
    rw [Int.toNat_natCast, show min (x % 8 * 8) IntKind.u64.bits = x % 8 * 8 by simp only [IntKind.bits]; omega]
    have e3 : (s : Int) * 2 ^ (x % 8 * 8) = ((256 ^ (x % 8) * s : Nat) : Int) := by
      rw [show (256 : Nat) = 2 ^ 8 from rfl, ← Nat.pow_mul, Nat.mul_comm 8, Nat.mul_comm _ s]
      simp
    rw [e3]
    generalize 256 ^ (x % 8) * s = q at g3 ⊢
    exact wu (by omega) (by omega)
  rw [e2, ior_nat (by omega) (by omega)]
  congr 2
  have e4 : (256 : Nat) ^ (x % 8) = 2 ^ (8 * (x % 8)) := by rw [show (256 : Nat) = 2 ^ 8 from rfl, ← Nat.pow_mul]
  rw [e4] at g2 ⊢
  rw [Nat.or_comm, ← Nat.two_pow_add_eq_or_of_lt g2, Nat.add_comm]
theorem isW_8 (v : Nat) : okw (nB 18446744073709551616 8 v) ∧ (nB 18446744073709551616 8 v).length = 8 := ⟨nB_okw 8 v, nB_length _ _ _⟩
theorem b64 {l : List Int} (h : isBytes l) (hl : l.length ≤ 64) : vB 256 l < 256 ^ 64 := Nat.lt_of_lt_of_le (vB_lt (b := 256) h) (Nat.pow_le_pow_right (by decide) hl)
set_option maxRecDepth 100000 in
theorem m52 : Meets Tryd.prog 52 sp52 := by
  refine meets_of_owed (C := c52) ⟨tab_ok, lkS_ok ⟨m57, trivial⟩⟩ (by kernel_rfl) (by kernel_rfl : Tryd.prog.funcs[52]? = some Tryd.f52) (by kernel_rfl) (by kernel_rfl) (by kernel_rfl) _ ?_
  rintro _ ⟨l, rfl, hb, hl⟩
  refine ⟨fun _ => rfl, inv52 l, ?_⟩
  show owed c52 (inv52 l) Tryd.f52 [.ints .u8 l] (.tup [n4 (ofN l), i64 (ofE l)])
  rw [vc52]
  simp (decide := true) only [eq_self, true_and, and_true, ne_eq, not_false_eq_true]
  unfold ofN ofE
  split
  · rename_i h
    have h := of_decide_eq_true h
    rw [if_neg (by omega), if_neg (by omega)]
    rfl
  rename_i h
  have h := of_decide_eq_false h
  rw [if_pos (by omega), if_pos (by omega)]
  refine ⟨⟨⟨rfl, ?_⟩, Nat.zero_le _⟩, fun x hx => ?_⟩
  · rw [show Int.toNat 0 = 0 from rfl, List.take_zero]; rfl
  split
  · rename_i hlt
    have hlt : x < l.length := by have := of_decide_eq_true hlt; omega
    have hq : IntKind.i64.wrap ((x : Int).tdiv 8) = ((x / 8 : Nat) : Int) := by
      rw [show (8 : Int) = ((8 : Nat) : Int) from rfl, tdivN, wi (by omega) (by omega)]
    have hr : IntKind.u64.wrap (IntKind.i64.wrap ((x : Int).tmod 8 * 8)) = ((x % 8 * 8 : Nat) : Int) := by
      rw [show (8 : Int) = ((8 : Nat) : Int) from rfl, tmodN, show ((x % 8 : Nat) : Int) * ((8 : Nat) : Int) = ((x % 8 * 8 : Nat) : Int) by simp, wi (by omega) (by omega), wu (by omega) (by omega)]
    have hw : IntKind.u64.wrap (l.getD x 0) = l.getD x 0 := by
      have := hb _ (getD_mem (l := l) (n := x) hlt)
      exact wu (by omega) (by omega)
    have hn : IntKind.i64.wrap ((x : Int) + 1) = ((x + 1 : Nat) : Int) := by rw [wi (by omega) (by omega)]; omega
    rw [hq, hr, hn]
    simp only [Int.toNat_natCast, hw, wordG hb 8 (by omega) x hlt]
    and_intros <;> first | trivial | rfl | omega
  · rename_i hlt
    have hlt := of_decide_eq_false hlt
    obtain rfl : x = l.length := by omega
    have hv : vB 18446744073709551616 (nB 18446744073709551616 8 (vB 256 l)) = vB 256 l := by
      rw [vB_nB, Nat.mod_eq_of_lt (Nat.lt_of_lt_of_le (b64 hb (by omega)) (by decide))]
    rw [List.take_length, hv]
    exact ⟨⟨_, rfl, isW_8 _⟩, rfl⟩
set_option maxRecDepth 100000 in
theorem m113 : Meets Tryd.prog 113 sp113 := by
  refine meets_of_owed (C := c113) ⟨tab_ok, lkS_ok ⟨m53, m54, trivial⟩⟩ (by kernel_rfl) (by kernel_rfl : Tryd.prog.funcs[113]? = some Tryd.f113) (by kernel_rfl) (by kernel_rfl) (by kernel_rfl) _ ?_
  rintro _ ⟨l, rfl, hb, hl⟩
  refine ⟨fun h => (by cases h), inv113 l, ?_⟩
  show owed c113 (inv113 l) Tryd.f113 [.ints .u8 l] (dgs (dg (vB 256 l)))
  rw [vc113]
  have w1 : IntKind.i64.wrap ((l.length : Int) - 1) = (l.length : Int) - 1 := wi (by omega) (by omega)
  have h256 : vB 65536 [256] = 256 := rfl
  simp (decide := true) only [w1, vl_dg, h256, Int.sub_self, Int.toNat_zero, Nat.sub_zero, List.drop_length, eq_self, true_and, and_true, ne_eq, not_false_eq_true]
  refine ⟨⟨by rw [show ((0 : Nat) : Int) = 0 from rfl, Int.sub_zero], Nat.zero_le _⟩, fun t ht => ?_⟩
  have hA : ∀ i, vB 256 (l.drop i) < 256 ^ 64 := fun i => b64 (fun y hy => hb y (List.mem_of_mem_drop hy)) (by rw [List.length_drop]; omega)
  split
  · rename_i hge
    have hge : t < l.length := by have := of_decide_eq_true hge; omega
    obtain ⟨i, hi⟩ : ∃ i, i = l.length - 1 - t := ⟨_, rfl⟩
    have ei : (l.length : Int) - 1 - (t : Int) = (i : Int) := by omega
    have e1 : l.length - t = i + 1 := by omega
    have hil : i < l.length := by omega
    have hsb := hb _ (getD_mem (l := l) (n := i) hil)
    obtain ⟨s, es⟩ := Int.eq_ofNat_of_zero_le hsb.1
    have hs : IntKind.i64.wrap (s : Int) = (s : Int) := wi (by omega) (by omega)
    have w2 : IntKind.i64.wrap ((i : Int) - 1) = (i : Int) - 1 := wi (by omega) (by omega)
    have w3 : ((l.length : Int) - 1 - ((i : Int) - 1)).toNat = t + 1 := by omega
    have e2 : l.length - (t + 1) = i := by omega
    have hv := vB_dropS 256 i hil
    have h3 := hA (i + 1)
    have hl1 := lens (x := vB 256 (l.drop (i + 1))) (Nat.lt_trans h3 (by decide))
    have hl2 := lens (x := vB 256 (l.drop (i + 1)) * 256) (Nat.lt_trans (Nat.mul_lt_mul_of_pos_right h3 (by decide : 0 < 256)) (by decide))
    have hss : vB 65536 [(s : Int)] = s := by simp [vB]
    rw [es, Int.toNat_natCast] at hv
    rw [ei, e1]
    simp only [Int.toNat_natCast, es, hs, w2, w3, e2, hss, hv]
    refine ⟨⟨_, _, rfl, ⟨hl1.1, hl1.2.2.1⟩, ?_, by unfold lenS; decide⟩, ⟨by omega, by omega⟩, ⟨_, _, rfl, ⟨hl2.1, hl2.2.2.1⟩, ?_, by unfold lenS; simp⟩, ⟨by rw [show (l.length : Int) - 1 - ((t + 1 : Nat) : Int) = (i : Int) - 1 by omega], by rw [Nat.mul_comm, Nat.add_comm]⟩, by omega, by omega⟩
    · intro y hy
      simp only [List.mem_singleton] at hy
      subst hy; decide
    · intro y hy
      simp only [List.mem_singleton] at hy
      subst hy; omega
  · rename_i hge
    have hge := of_decide_eq_false hge
    obtain rfl : t = l.length := by omega
    rw [Nat.sub_self, List.drop_zero]
end Go.Proofs.YtkicjckhkefnpaaDoor
namespace Go.Proofs.YtkicjckhkefnpaaDoor
open Go Go.Vg
theorem by2 {c x : Int} (hc : 0 ≤ c ∧ c ≤ 255) (hx : 0 ≤ x ∧ x < 256) : isBytes [c, x] := by
  intro y hy
  simp only [List.mem_cons, List.not_mem_nil, or_false] at hy
  rcases hy with rfl | rfl <;> omega
theorem tk32 (x : List Int) : List.take 32 (digL x) = digL x := List.take_of_length_le (by rw [digL_len]; exact Nat.le_refl _)
theorem m113o : Meets Tryd.prog 113 sp113o := by
  have e : sp113o = sp113 := by
    unfold sp113o dgF
    simp only [opq_eq]
    rfl
  rw [e]; exact m113
theorem m51o : Meets Tryd.prog 51 sp51o := by
  have e : sp51o = sp51 := by
    unfold sp51o rsF
    simp only [opq_eq]
    rfl
  rw [e]; exact m51
set_option maxRecDepth 100000 in
theorem m65 : Meets Tryd.prog 65 sp65 := by
  refine meets_of_owed (C := c65) ⟨tab_ok, lkS_ok ⟨m75, m76, m77, m52, trivial⟩⟩ (by kernel_rfl) (by kernel_rfl : Tryd.prog.funcs[65]? = some Tryd.f65) (by kernel_rfl) (by kernel_rfl) (by kernel_rfl) _ ?_
  rintro _ ⟨c, p, rfl, hc, hp, hl⟩
  refine ⟨fun _ => rfl, fun _ => none, ?_⟩
  show owed c65 (fun _ => none) Tryd.f65 [.val (.int .u8 c), .ints .u8 p] (n4 (ofN (dg2 c p)))
  rw [vc65]
  have d0 : ∀ x, sumL (wrS (wrS st0 [c, x]) p) = digL ([c, x] ++ p) := fun x => by rw [← wr_app, sum_st0]
  have b0 : isBytes [c, 0] := by2 hc (by decide)
  have b1 : isBytes [c, 1] := by2 hc (by decide)
  have y0 := wr_ok [c, 0] st0_ok b0
  have y1 := wr_ok [c, 1] st0_ok b1
  have g0 : (digL ([c, 0] ++ p)).length = 32 := digL_len _
  have g1 : (digL ([c, 1] ++ p)).length = 32 := digL_len _
  simp (decide := true) only [ofS', d0, tk32, List.drop_zero, Nat.sub_zero, Int.toNat_natCast, eq_self, true_and, and_true, ne_eq, not_false_eq_true]
  refine ⟨⟨st0, _, rfl, st0_ok, b0, by simp⟩, ⟨_, p, rfl, y0, hp, by omega⟩, ⟨_, rfl, wr_ok p y0 hp⟩, ⟨st0, _, rfl, st0_ok, b1, by simp⟩, ⟨_, p, rfl, y1, hp, by omega⟩, ⟨_, rfl, wr_ok p y1 hp⟩, ?_⟩
  have hb := bytes_app (digL_bytes ([c, 0] ++ p)) (digL_bytes ([c, 1] ++ p))
  exact ⟨⟨by omega, by omega, by omega⟩, ⟨_, rfl, hb, by rw [List.length_append, g0, g1]; decide⟩, rfl⟩
set_option maxRecDepth 100000 in
theorem m66 : Meets Tryd.prog 66 sp66 := by
  refine meets_of_owed (C := c66) ⟨tab_ok, lkS_ok ⟨m71, m113o, m51o, m47, trivial⟩⟩ (by kernel_rfl) (by kernel_rfl : Tryd.prog.funcs[66]? = some Tryd.f66) (by kernel_rfl) (by kernel_rfl) (by kernel_rfl) _ ?_
  rintro _ ⟨c, p, rfl, hc, hp, hl⟩
  refine ⟨fun h => (by cases h), fun _ => none, ?_⟩
  show owed c66 (fun _ => none) Tryd.f66 [.val (.int .u8 c), .str p] (dgs (dg (ofN (dg2 c p))))
  rw [vc66]
  have b0 : isBytes [c, 0] := by2 hc (by decide)
  have b1 : isBytes [c, 1] := by2 hc (by decide)
  have g0 : (digL ([c, 0] ++ p)).length = 32 := digL_len _
  have g1 : (digL ([c, 1] ++ p)).length = 32 := digL_len _
  simp (decide := true) only [tk32, List.drop_zero, Nat.sub_zero, Int.toNat_natCast, eq_self, true_and, and_true, ne_eq, not_false_eq_true]
  have hb := bytes_app (digL_bytes ([c, 0] ++ p)) (digL_bytes ([c, 1] ++ p))
  have hL : (digL ([c, 0] ++ p) ++ digL ([c, 1] ++ p)).length = 64 := by rw [List.length_append, g0, g1]
  have h64 := b64 hb (by rw [hL]; exact Nat.le_refl _)
  have la := lens (x := vB 256 (digL ([c, 0] ++ p) ++ digL ([c, 1] ++ p))) (Nat.lt_trans h64 (by decide))
  have lq := lens1 LQ_lt
  have e3 : dgL = dg LQ := opq_eq _
  have e4 : ∀ l, dgF l = dg (vB 256 l) := fun l => opq_eq _
  have e5 : ∀ l m, rsF l m = dg (vD l % vD m) := fun l m => opq_eq _
  have p0 : ∀ x : Int, 0 ≤ x ∧ x < 256 → isBytes (c :: x :: p) := fun x hx => bytes_app (by2 hc hx) hp
  simp only [List.cons_append, List.nil_append] at hb hL la g0 g1
  refine ⟨b0, by omega, ⟨_, rfl, p0 0 (by decide), by simp only [List.length_cons]; omega⟩, b1, by omega, ⟨_, rfl, p0 1 (by decide), by simp only [List.length_cons]; omega⟩, ⟨by omega, by omega⟩, ⟨by omega, by omega⟩, ⟨_, rfl, hb, by omega⟩, ?_, ?_⟩
  · rw [e4, e3]
    exact ⟨_, _, rfl, ⟨la.1, la.2.1⟩, ⟨lq.1, lq.2.1⟩, by rw [vl_dg]; exact Nat.ne_of_gt LQ_pos⟩
  · rw [e5, e4, e3]
    unfold ofN dg2
    simp only [List.cons_append, List.nil_append]
    rw [if_pos (by omega)]
    have v1 : vD (dg (vB 256 (digL (c :: 0 :: p) ++ digL (c :: 1 :: p)))) = vB 256 (digL (c :: 0 :: p) ++ digL (c :: 1 :: p)) := vl_dg _
    have v2 : vD (dg LQ) = LQ := vl_dg _
    rw [v1, v2]
end Go.Proofs.YtkicjckhkefnpaaDoor
namespace Go.Proofs.YtkicjckhkefnpaaDoor
open Go Go.Vg
noncomputable def plF (l m : List Int) : List Int := opq (dg (vD l + vD m))
noncomputable def tmF (l m : List Int) : List Int := opq (dg (vD l * vD m))
noncomputable def mnF (l m : List Int) : List Int := opq (dg (vD l - vD m))
noncomputable def pwF (l n m : List Int) : List Int := opq (dg (powN (vD l) (vD n) (vD m)))
noncomputable def nuF (l : List Int) : List Int := opq (dg (wv l))
noncomputable def toF (l : List Int) : List Int := opq (nB 18446744073709551616 4 (vD l))
noncomputable def loF (l : List Int) : List Int := opq (nB 18446744073709551616 4 (vD l % LQ))
noncomputable def dlF (c : Int) (p : List Int) : List Int := opq (dg (ofN (dg2 c p)))
noncomputable def sp53o : Go.Vg.Spec := ⟨sp53.pre, fun ds => dgs (plF (intsOf (ds.headD default)) (intsOf (ds.getD 1 default))), false, [89, 89]⟩
noncomputable def sp54o : Go.Vg.Spec := ⟨sp54.pre, fun ds => dgs (tmF (intsOf (ds.headD default)) (intsOf (ds.getD 1 default))), false, [89, 89]⟩
noncomputable def sp61o : Go.Vg.Spec := ⟨sp61.pre, fun ds => dgs (mnF (intsOf (ds.headD default)) (intsOf (ds.getD 1 default))), false, [89, 89]⟩
noncomputable def sp64o : Go.Vg.Spec := ⟨sp64.pre, fun ds => dgs (pwF (intsOf (ds.headD default)) (intsOf (ds.getD 1 default)) (intsOf (ds.getD 2 default))), false, [89, 89, 89]⟩
noncomputable def sp48o : Go.Vg.Spec := ⟨sp48.pre, fun ds => dgs (nuF (arrOf (ds.headD default))), false, [75]⟩
noncomputable def sp58o : Go.Vg.Spec := ⟨sp58.pre, fun ds => dgs (nuF (arrOf (ds.headD default))), false, [88]⟩
noncomputable def sp50o : Go.Vg.Spec := ⟨sp50.pre, fun ds => num4 (toF (intsOf (ds.headD default))), true, [89]⟩
noncomputable def sp66o : Go.Vg.Spec := ⟨sp66.pre, fun ds => dgs (dlF (numOf (ds.headD default)) (strOf (ds.getD 1 default))), false, [5, 9]⟩
noncomputable def sp49 : Go.Vg.Spec := ⟨fun ds => ∃ l, ds = [dgs l, .ref (dgs dgL)] ∧ okd l ∧ len1 l, fun ds => num4 (loF (intsOf (ds.headD default))), true, [89, 0]⟩
noncomputable def c49 : Ctx := ⟨tab, lkS [(51, sp51o), (50, sp50o)], [], []⟩
noncomputable def c9 : Ctx := ⟨tab, lkS [(47, sp47), (48, sp48o), (52, sp52), (49, sp49), (53, sp53o), (54, sp54o), (55, sp55), (50, sp50o), (56, sp56), (57, sp57), (58, sp58o), (59, sp59), (60, sp60), (61, sp61o), (51, sp51o), (62, sp62), (63, sp63), (64, sp64o), (65, sp65), (66, sp66o)], [], [25]⟩
noncomputable def inv9 (p : List Int) : Nat → Option Inv
  | 8 => some ⟨Nat, fun t => [(19, .d (.val (.int .i64 ((p.length : Int) - 1 - t)))), (18, .d (dgs (dg (vB 256 (p.drop (p.length - t))))))], fun _ => [], fun s => ((p.length : Int) - 1 - slotN s 19).toNat, fun _ t => t ≤ p.length, fun t => p.length - t⟩
  | 100006 => some ⟨Nat, fun _ => [], fun _ => [(17, .fix (n4 (ofN p)))], fun _ => 0, fun _ _ => True, fun _ => 0⟩
  | _ => none
--KEEP Nat.gcd List.replicate Go.Vg.opq Go.Vg.eqB Go.Vg.vB Go.Vg.nB Go.Vg.okd Go.Vg.okw Go.Vg.dg Go.Vg.dig Go.Vg.trimL okb lenOk lenS len1 sbd sbb dif bor cmpN shf i64ok subL dvq dvr dve sbD adl adc mulL mulH stL stH smN smC addL addK TimI TimJ isN invN ivX ivE InvI LQ ngS ivS dgP dgO dgL ofR BitVec.toNat prL pr Go.Proofs.YtkicjckhkefnpaaDoor.R8.l wrS ofS okS padL fhK outL sumL fromL digL woL wl woI iv st0 rsS rsE wat fullL ofN ofE dg2 okp dgF rsF plF tmF mnF pwF nuF toF loF dlF
set_option maxRecDepth 100000 in
theorem vc49  (l : List Int) (F : D)  :
    (owed c49 (fun _ => none) Tryd.f49 [dgs l, .ref (dgs dgL)] F) = (
 (True ∧ (4 : Nat) ≠ (0 : Nat)) ∧
 True ∧
 ((1 : Nat) ≠ (0 : Nat) ∧ (1 : Nat) = (1 : Nat) ∧ false = false) ∧
 (∃ (l_1 : List Int), ∃ (m : List Int), [D.ints IntKind.i64 l, D.ints IntKind.i64 dgL] = [D.ints IntKind.i64 l_1, D.ints IntKind.i64 m] ∧ (okd l_1 ∧ len1 l_1) ∧ (okd m ∧ len1 m) ∧ vB (65536 : Nat) m ≠ (0 : Nat)) ∧
 (∃ (l_1 : List Int), [D.ints IntKind.i64 (rsF l dgL)] = [D.ints IntKind.i64 l_1] ∧ okd l_1 ∧ lenOk l_1) ∧ (Sk.arr (4 : Nat) = Sk.arr (4 : Nat) ∧ (4 : Nat) ≠ (0 : Nat) ∧ (4 : Nat) = (4 : Nat) ∧ false = false) ∧ (((4 : Nat) ≠ (0 : Nat) ∧ (4 : Nat) = (4 : Nat) ∧ true = true) ∧ True) ∧ D.arr IntKind.u64 (4 : Nat) (toF (rsF l dgL)) = F) := by kernel_rfl
set_option maxRecDepth 100000 in
theorem vc9  (a b w : List Int) (c : Int) (p : List Int) (F : D)  :
    (owed c9 (inv9 p) Tryd.f9 [num4 a, num4 b, num8 w, .val (.int .u8 c), .ints .u8 p] F) = (
 (True ∧ false = false) ∧
 (True ∧ false = false) ∧
 (True ∧ false = false) ∧
 True ∧
 (0 : Nat) = (0 : Nat) ∧
 ((4 : Nat) ≠ (0 : Nat) ∧ (4 : Nat) = (4 : Nat) ∧ true = true) ∧
 (∃ (l : List Int), [D.arr IntKind.u64 (4 : Nat) a] = [D.arr IntKind.u64 (4 : Nat) l] ∧ okw l ∧ l.length = (4 : Nat)) ∧
 ((4 : Nat) ≠ (0 : Nat) ∧ (4 : Nat) = (4 : Nat) ∧ true = true) ∧
 (∃ (l : List Int), [D.arr IntKind.u64 (4 : Nat) b] = [D.arr IntKind.u64 (4 : Nat) l] ∧ okw l ∧ l.length = (4 : Nat)) ∧
 (True ∧ (1 : Nat) ≠ (0 : Nat)) ∧
 (Sk.one = Sk.one ∧ (1 : Nat) ≠ (0 : Nat) ∧ (1 : Nat) = (1 : Nat) ∧ false = false) ∧
 True ∧
 True ∧
 True ∧
 True ∧
 True ∧
 (∃ (l : List Int), [D.ints IntKind.u8 p] = [D.ints IntKind.u8 l] ∧ okp l) ∧
 True ∧
 ((0 : Nat) < (2 : Nat) ∧ false = false) ∧
 ((1 : Nat) < (2 : Nat) ∧ false = false) ∧
 (True ∧ (4 : Nat) ≠ (0 : Nat)) ∧
 (Sk.arr (4 : Nat) = Sk.arr (4 : Nat) ∧ (4 : Nat) ≠ (0 : Nat) ∧ (4 : Nat) = (4 : Nat) ∧ false = false) ∧
 True ∧
 ((1 : Nat) = (1 : Nat) ∧ True) ∧
 (True ∧ (4 : Nat) ≠ (0 : Nat)) ∧
 (Sk.arr (4 : Nat) = Sk.arr (4 : Nat) ∧ (4 : Nat) ≠ (0 : Nat) ∧ (4 : Nat) = (4 : Nat) ∧ false = false) ∧
 True ∧
 True ∧
 True ∧
 (match decide ((↑p.length : Int) ≤ (64 : Int)) with
 | true =>
  True ∧
  True ∧
  True ∧
  True ∧
  True ∧
  (((AV.d (D.val (Value.int IntKind.i64 (IntKind.i64.wrap ((↑p.length : Int) - (1 : Int))))) = AV.d (D.val (Value.int IntKind.i64 ((↑p.length : Int) - (1 : Int) - (↑((↑p.length : Int) - (1 : Int) - IntKind.i64.wrap ((↑p.length : Int) - (1 : Int))).toNat : Int)))) ∧
  dg (vB (256 : Nat) (List.drop (p.length - ((↑p.length : Int) - (1 : Int) - IntKind.i64.wrap ((↑p.length : Int) - (1 : Int))).toNat) p)) = [] ∧ True) ∧
  (sm (some (Blk.fix (D.arr IntKind.u64 (4 : Nat) a))) ∧
  sm (some (Blk.fix (D.arr IntKind.u64 (4 : Nat) b))) ∧ sm (some (Blk.fix (D.arr IntKind.u64 (8 : Nat) w))) ∧ sm (some (Blk.fix (D.arr IntKind.u64 (4 : Nat) (nB (18446744073709551616 : Nat) (4 : Nat) (ofN p))))) ∧ sm (some (Blk.fix (D.arr IntKind.u64 (4 : Nat) [(0 : Int), (0 : Int), (0 : Int), (0 : Int)]))) ∧ True) ∧
  true = true) ∧
  ((↑p.length : Int) - (1 : Int) - IntKind.i64.wrap ((↑p.length : Int) - (1 : Int))).toNat ≤ p.length) ∧
  ∀ (x : Nat),
  x ≤ p.length →
  true = true ∧
  True ∧
  True ∧
  match decide ((↑p.length : Int) - (1 : Int) - (↑x : Int) ≥ (0 : Int)) with
  | true =>
   True ∧
   ((1 : Nat) = (1 : Nat) ∧ (1 : Nat) ≤ (4096 : Nat)) ∧
   (∃ (l : List Int), ∃ (m : List Int), [D.ints IntKind.i64 (dg (vB (256 : Nat) (List.drop (p.length - x) p))), D.ints IntKind.i64 [(256 : Int)]] = [D.ints IntKind.i64 l, D.ints IntKind.i64 m] ∧ (okd l ∧ lenS l) ∧ okd m ∧ lenS m) ∧
   True ∧
   True ∧
   ((0 : Int) ≤ (↑p.length : Int) - (1 : Int) - (↑x : Int) ∧ (↑p.length : Int) - (1 : Int) - (↑x : Int) < (↑p.length : Int) ∧ (1 : Nat) = (1 : Nat)) ∧
   ((1 : Nat) ≠ (0 : Nat) ∧ (1 : Nat) = (1 : Nat) ∧ false = false) ∧
   True ∧
   ((1 : Nat) = (1 : Nat) ∧ (1 : Nat) ≤ (4096 : Nat)) ∧
   (∃ (l : List Int),
   ∃ (m : List Int),
   [D.ints IntKind.i64 (tmF (dg (vB (256 : Nat) (List.drop (p.length - x) p))) [(256 : Int)]), D.ints IntKind.i64 [IntKind.i64.wrap (p.getD ((↑p.length : Int) - (1 : Int) - (↑x : Int)).toNat (0 : Int))]] = [D.ints IntKind.i64 l, D.ints IntKind.i64 m] ∧ (okd l ∧ lenS l) ∧ okd m ∧ lenS m) ∧
   True ∧
   True ∧
   True ∧
   True ∧
   ((AV.d (D.val (Value.int IntKind.i64 (IntKind.i64.wrap ((↑p.length : Int) - (1 : Int) - (↑x : Int) - (1 : Int))))) =
   AV.d (D.val (Value.int IntKind.i64 ((↑p.length : Int) - (1 : Int) - (↑((↑p.length : Int) - (1 : Int) - IntKind.i64.wrap ((↑p.length : Int) - (1 : Int) - (↑x : Int) - (1 : Int))).toNat : Int)))) ∧
   AV.d (D.ints IntKind.i64 (plF (tmF (dg (vB (256 : Nat) (List.drop (p.length - x) p))) [(256 : Int)]) [IntKind.i64.wrap (p.getD ((↑p.length : Int) - (1 : Int) - (↑x : Int)).toNat (0 : Int))])) =
   AV.d (D.ints IntKind.i64 (dg (vB (256 : Nat) (List.drop (p.length - ((↑p.length : Int) - (1 : Int) - IntKind.i64.wrap ((↑p.length : Int) - (1 : Int) - (↑x : Int) - (1 : Int))).toNat) p)))) ∧
   True) ∧
   (sm (some (Blk.fix (D.arr IntKind.u64 (4 : Nat) a))) ∧
   sm (some (Blk.fix (D.arr IntKind.u64 (4 : Nat) b))) ∧
   sm (some (Blk.fix (D.arr IntKind.u64 (8 : Nat) w))) ∧ sm (some (Blk.fix (D.arr IntKind.u64 (4 : Nat) (nB (18446744073709551616 : Nat) (4 : Nat) (ofN p))))) ∧ sm (some (Blk.fix (D.arr IntKind.u64 (4 : Nat) [(0 : Int), (0 : Int), (0 : Int), (0 : Int)]))) ∧ True) ∧
   true = true) ∧
   ((↑p.length : Int) - (1 : Int) - IntKind.i64.wrap ((↑p.length : Int) - (1 : Int) - (↑x : Int) - (1 : Int))).toNat ≤ p.length ∧ p.length - ((↑p.length : Int) - (1 : Int) - IntKind.i64.wrap ((↑p.length : Int) - (1 : Int) - (↑x : Int) - (1 : Int))).toNat < p.length - x
  | false =>
   True ∧
   True ∧
   (∃ (l : List Int), [D.ints IntKind.i64 (dg (vB (256 : Nat) (List.drop (p.length - x) p))), (D.ints IntKind.i64 dgL).ref] = [D.ints IntKind.i64 l, (D.ints IntKind.i64 dgL).ref] ∧ okd l ∧ len1 l) ∧
   (Sk.arr (4 : Nat) = Sk.arr (4 : Nat) ∧ (4 : Nat) ≠ (0 : Nat) ∧ (4 : Nat) = (4 : Nat) ∧ false = false) ∧
   (True ∧
   (sm (some (Blk.fix (D.arr IntKind.u64 (4 : Nat) a))) ∧
   sm (some (Blk.fix (D.arr IntKind.u64 (4 : Nat) b))) ∧
   sm (some (Blk.fix (D.arr IntKind.u64 (8 : Nat) w))) ∧
   sm (some (Blk.fix (D.arr IntKind.u64 (4 : Nat) (nB (18446744073709551616 : Nat) (4 : Nat) (ofN p))))) ∧
   some (Blk.fix (D.arr IntKind.u64 (4 : Nat) (loF (dg (vB (256 : Nat) (List.drop (p.length - x) p)))))) = some (Blk.fix (D.arr IntKind.u64 (4 : Nat) (nB (18446744073709551616 : Nat) (4 : Nat) (ofN p)))) ∧ True) ∧
   true = true) ∧
   True
 | false =>
  (True ∧
  (sm (some (Blk.fix (D.arr IntKind.u64 (4 : Nat) a))) ∧
  sm (some (Blk.fix (D.arr IntKind.u64 (4 : Nat) b))) ∧
  sm (some (Blk.fix (D.arr IntKind.u64 (8 : Nat) w))) ∧
  sm (some (Blk.fix (D.arr IntKind.u64 (4 : Nat) (nB (18446744073709551616 : Nat) (4 : Nat) (ofN p))))) ∧ some (Blk.fix (D.arr IntKind.u64 (4 : Nat) [(0 : Int), (0 : Int), (0 : Int), (0 : Int)])) = some (Blk.fix (D.arr IntKind.u64 (4 : Nat) (nB (18446744073709551616 : Nat) (4 : Nat) (ofN p)))) ∧ True) ∧
  true = true) ∧
  True) ∧
  ∀ (z : Nat),
  True →
  true = true ∧
  ((4 : Nat) ≠ (0 : Nat) ∧ (4 : Nat) = (4 : Nat) ∧ true = true) ∧
  ((4 : Nat) ≠ (0 : Nat) ∧ (4 : Nat) = (4 : Nat) ∧ true = true) ∧
  (IntKind.u64 = IntKind.u64 ∧ IntKind.u64 = IntKind.u64 ∧ (4 : Nat) = (4 : Nat) ∧ (4 : Nat) = (4 : Nat) ∧ (1 : Nat) = (1 : Nat)) ∧
  True ∧
  match !eqB (nB (18446744073709551616 : Nat) (4 : Nat) (ofN p)) (nB (18446744073709551616 : Nat) (4 : Nat) (ofN p)) with
  | true => True ∧ True ∧ True ∧ True ∧ (false = false ∧ True) ∧ D.val (Value.bool false) = F
  | false =>
   True ∧
   True ∧
   True ∧
   True ∧
   True ∧
   True ∧
   True ∧
   True ∧
   match !(ofE p == (0 : Int)) == decide ((↑p.length : Int) ≤ (64 : Int)) with
   | true => True ∧ True ∧ (false = false ∧ True) ∧ D.val (Value.bool false) = F
   | false =>
    True ∧
    True ∧
    True ∧
    match ofE p != (0 : Int) with
    | true =>
     True ∧
     True ∧
     True ∧
     True ∧
     match ofE p != (2 : Int) with
     | true => True ∧ (false = false ∧ True) ∧ D.val (Value.bool false) = F
     | false =>
      (0 : Nat) = (0 : Nat) ∧
      ((1 : Nat) ≠ (0 : Nat) ∧ (1 : Nat) = (1 : Nat) ∧ false = false) ∧
      (∃ (l : List Int), [D.ints IntKind.i64 dgL] = [D.ints IntKind.i64 l] ∧ okd l ∧ lenOk l) ∧
      (IntKind.u64 = IntKind.u64 ∧ IntKind.u64 = IntKind.u64 ∧ (4 : Nat) = (4 : Nat) ∧ (4 : Nat) = (4 : Nat) ∧ (1 : Nat) = (1 : Nat)) ∧
      True ∧
      match eqB (nB (18446744073709551616 : Nat) (4 : Nat) LQ) (toF dgL) with
      | true =>
       ((4 : Nat) ≠ (0 : Nat) ∧ (4 : Nat) = (4 : Nat) ∧ true = true) ∧
       (∃ (l : List Int), [D.arr IntKind.u64 (4 : Nat) a] = [D.arr IntKind.u64 (4 : Nat) l] ∧ isN l) ∧
       True ∧
       True ∧
       (∃ (l : List Int), [D.ints IntKind.i64 (nuF a), (D.ints IntKind.i64 dgL).ref] = [D.ints IntKind.i64 l, (D.ints IntKind.i64 dgL).ref] ∧ okd l ∧ len1 l) ∧
       (IntKind.u64 = IntKind.u64 ∧ IntKind.u64 = IntKind.u64 ∧ (4 : Nat) = (4 : Nat) ∧ (4 : Nat) = (4 : Nat) ∧ (1 : Nat) = (1 : Nat)) ∧
       True ∧
       True ∧
       match eqB (nB (18446744073709551616 : Nat) (4 : Nat) (vB (18446744073709551616 : Nat) a % LQ)) (loF (nuF a)) with
       | true =>
        ((8 : Nat) ≠ (0 : Nat) ∧ (8 : Nat) = (8 : Nat) ∧ true = true) ∧
        (∃ (w_1 : List Int), [D.arr IntKind.u64 (8 : Nat) w] = [D.arr IntKind.u64 (8 : Nat) w_1] ∧ okw w_1 ∧ w_1.length = (8 : Nat)) ∧
        True ∧
        ((8 : Nat) ≠ (0 : Nat) ∧ (8 : Nat) = (8 : Nat) ∧ true = true) ∧
        (∃ (w_1 : List Int), [D.arr IntKind.u64 (8 : Nat) w] = [D.arr IntKind.u64 (8 : Nat) w_1] ∧ okw w_1 ∧ w_1.length = (8 : Nat)) ∧
        (∃ (l : List Int), [D.ints IntKind.i64 (nuF w), (D.ints IntKind.i64 dgL).ref] = [D.ints IntKind.i64 l, (D.ints IntKind.i64 dgL).ref] ∧ okd l ∧ len1 l) ∧
        (IntKind.u64 = IntKind.u64 ∧ IntKind.u64 = IntKind.u64 ∧ (4 : Nat) = (4 : Nat) ∧ (4 : Nat) = (4 : Nat) ∧ (1 : Nat) = (1 : Nat)) ∧
        True ∧
        True ∧
        match eqB (nB (18446744073709551616 : Nat) (4 : Nat) (vB (18446744073709551616 : Nat) w % LQ)) (loF (nuF w)) with
        | true =>
         ((4 : Nat) ≠ (0 : Nat) ∧ (4 : Nat) = (4 : Nat) ∧ true = true) ∧
         ((4 : Nat) ≠ (0 : Nat) ∧ (4 : Nat) = (4 : Nat) ∧ true = true) ∧
         (∃ (l : List Int), ∃ (m : List Int), [D.arr IntKind.u64 (4 : Nat) a, D.arr IntKind.u64 (4 : Nat) b] = [D.arr IntKind.u64 (4 : Nat) l, D.arr IntKind.u64 (4 : Nat) m] ∧ isN l ∧ isN m) ∧
         True ∧
         True ∧
         True ∧
         (∃ (l : List Int), ∃ (m : List Int), [D.ints IntKind.i64 (nuF a), D.ints IntKind.i64 (nuF b)] = [D.ints IntKind.i64 l, D.ints IntKind.i64 m] ∧ (okd l ∧ lenS l) ∧ okd m ∧ lenS m) ∧
         (∃ (l : List Int), [D.ints IntKind.i64 (plF (nuF a) (nuF b)), (D.ints IntKind.i64 dgL).ref] = [D.ints IntKind.i64 l, (D.ints IntKind.i64 dgL).ref] ∧ okd l ∧ len1 l) ∧
         (IntKind.u64 = IntKind.u64 ∧ IntKind.u64 = IntKind.u64 ∧ (4 : Nat) = (4 : Nat) ∧ (4 : Nat) = (4 : Nat) ∧ (1 : Nat) = (1 : Nat)) ∧
         True ∧
         True ∧
         match eqB (nB (18446744073709551616 : Nat) (4 : Nat) ((vB (18446744073709551616 : Nat) a + vB (18446744073709551616 : Nat) b) % LQ)) (loF (plF (nuF a) (nuF b))) with
         | true =>
          ((4 : Nat) ≠ (0 : Nat) ∧ (4 : Nat) = (4 : Nat) ∧ true = true) ∧
          (∃ (l : List Int), [D.arr IntKind.u64 (4 : Nat) a] = [D.arr IntKind.u64 (4 : Nat) l] ∧ isN l) ∧
          True ∧
          ((1 : Nat) ≠ (0 : Nat) ∧ (1 : Nat) = (1 : Nat) ∧ false = false) ∧
          True ∧
          ((1 : Nat) ≠ (0 : Nat) ∧ (1 : Nat) = (1 : Nat) ∧ false = false) ∧
          (∃ (l : List Int),
          ∃ (m : List Int), [D.ints IntKind.i64 (nuF a), D.ints IntKind.i64 dgL] = [D.ints IntKind.i64 l, D.ints IntKind.i64 m] ∧ (okd l ∧ len1 l) ∧ (okd m ∧ len1 m) ∧ vB (65536 : Nat) m ≠ (0 : Nat)) ∧
          (∃ (l : List Int),
          ∃ (m : List Int),
          [D.ints IntKind.i64 dgL, D.ints IntKind.i64 (rsF (nuF a) dgL)] = [D.ints IntKind.i64 l, D.ints IntKind.i64 m] ∧ (okd l ∧ lenS l) ∧ (okd m ∧ lenS m) ∧ vB (65536 : Nat) m ≤ vB (65536 : Nat) l) ∧
          (∃ (l : List Int), [D.ints IntKind.i64 (mnF dgL (rsF (nuF a) dgL)), (D.ints IntKind.i64 dgL).ref] = [D.ints IntKind.i64 l, (D.ints IntKind.i64 dgL).ref] ∧ okd l ∧ len1 l) ∧
          (IntKind.u64 = IntKind.u64 ∧ IntKind.u64 = IntKind.u64 ∧ (4 : Nat) = (4 : Nat) ∧ (4 : Nat) = (4 : Nat) ∧ (1 : Nat) = (1 : Nat)) ∧
          True ∧
          True ∧
          match eqB (nB (18446744073709551616 : Nat) (4 : Nat) (ngS (vB (18446744073709551616 : Nat) a))) (loF (mnF dgL (rsF (nuF a) dgL))) with
          | true =>
           ((4 : Nat) ≠ (0 : Nat) ∧ (4 : Nat) = (4 : Nat) ∧ true = true) ∧
           ((4 : Nat) ≠ (0 : Nat) ∧ (4 : Nat) = (4 : Nat) ∧ true = true) ∧
           (∃ (l : List Int),
           ∃ (m : List Int), [D.arr IntKind.u64 (4 : Nat) a, D.arr IntKind.u64 (4 : Nat) b] = [D.arr IntKind.u64 (4 : Nat) l, D.arr IntKind.u64 (4 : Nat) m] ∧ isN l ∧ isN m) ∧
           True ∧
           True ∧
           True ∧
           (∃ (l : List Int),
           ∃ (m : List Int), [D.ints IntKind.i64 (nuF a), D.ints IntKind.i64 (nuF b)] = [D.ints IntKind.i64 l, D.ints IntKind.i64 m] ∧ (okd l ∧ lenS l) ∧ okd m ∧ lenS m) ∧
           (∃ (l : List Int), [D.ints IntKind.i64 (tmF (nuF a) (nuF b)), (D.ints IntKind.i64 dgL).ref] = [D.ints IntKind.i64 l, (D.ints IntKind.i64 dgL).ref] ∧ okd l ∧ len1 l) ∧
           (IntKind.u64 = IntKind.u64 ∧ IntKind.u64 = IntKind.u64 ∧ (4 : Nat) = (4 : Nat) ∧ (4 : Nat) = (4 : Nat) ∧ (1 : Nat) = (1 : Nat)) ∧
           True ∧
           True ∧
           match eqB (nB (18446744073709551616 : Nat) (4 : Nat) (vB (18446744073709551616 : Nat) a * vB (18446744073709551616 : Nat) b % LQ)) (loF (tmF (nuF a) (nuF b))) with
           | true =>
            ((4 : Nat) ≠ (0 : Nat) ∧ (4 : Nat) = (4 : Nat) ∧ true = true) ∧
            (∃ (l : List Int), [D.arr IntKind.u64 (4 : Nat) a] = [D.arr IntKind.u64 (4 : Nat) l] ∧ isN l) ∧
            True ∧
            ((1 : Nat) ≠ (0 : Nat) ∧ (1 : Nat) = (1 : Nat) ∧ false = false) ∧
            ((1 : Nat) = (1 : Nat) ∧ (1 : Nat) ≤ (4096 : Nat)) ∧
            (∃ (l : List Int),
            ∃ (m : List Int),
            [D.ints IntKind.i64 dgL, D.ints IntKind.i64 [(2 : Int)]] = [D.ints IntKind.i64 l, D.ints IntKind.i64 m] ∧
            (okd l ∧ lenS l) ∧ (okd m ∧ lenS m) ∧ vB (65536 : Nat) m ≤ vB (65536 : Nat) l) ∧
            ((1 : Nat) ≠ (0 : Nat) ∧ (1 : Nat) = (1 : Nat) ∧ false = false) ∧
            (∃ (a_2 : Nat),
            ∃ (n : Nat),
            ∃ (m : Nat),
            [D.ints IntKind.i64 (nuF a), D.ints IntKind.i64 (mnF dgL [(2 : Int)]), D.ints IntKind.i64 dgL] =
            [D.ints IntKind.i64 (dg a_2), D.ints IntKind.i64 (dg n), D.ints IntKind.i64 (dg m)] ∧
            a_2 < (115792089237316195423570985008687907853269984665640564039457584007913129639936 : Nat) ∧
            n < (115792089237316195423570985008687907853269984665640564039457584007913129639936 : Nat) ∧
            m < (115792089237316195423570985008687907853269984665640564039457584007913129639936 : Nat) ∧ (0 : Nat) < m) ∧
            (∃ (l : List Int), [D.ints IntKind.i64 (pwF (nuF a) (mnF dgL [(2 : Int)]) dgL)] = [D.ints IntKind.i64 l] ∧ okd l ∧ lenOk l) ∧
            (IntKind.u64 = IntKind.u64 ∧ IntKind.u64 = IntKind.u64 ∧ (4 : Nat) = (4 : Nat) ∧ (4 : Nat) = (4 : Nat) ∧ (1 : Nat) = (1 : Nat)) ∧
            True ∧
            True ∧
            match
            eqB (nB (18446744073709551616 : Nat) (4 : Nat) (ivS (vB (18446744073709551616 : Nat) a)))
            (toF (pwF (nuF a) (mnF dgL [(2 : Int)]) dgL)) with
            | true =>
             True ∧
             True ∧
             (∃ (c_1 : Int),
             ∃ (p_1 : List Int),
             [D.val (Value.int IntKind.u8 c), D.ints IntKind.u8 p] = [D.val (Value.int IntKind.u8 c_1), D.ints IntKind.u8 p_1] ∧
             ((0 : Int) ≤ c_1 ∧ c_1 ≤ (255 : Int)) ∧ okp p_1) ∧
             True ∧
             True ∧
             isBytes p ∧
             (∃ (c_1 : Int),
             ∃ (p_1 : List Int),
             [D.val (Value.int IntKind.u8 c), D.str p] = [D.val (Value.int IntKind.u8 c_1), D.str p_1] ∧
             ((0 : Int) ≤ c_1 ∧ c_1 ≤ (255 : Int)) ∧ okp p_1) ∧
             (∃ (l : List Int), [D.ints IntKind.i64 (dlF c p)] = [D.ints IntKind.i64 l] ∧ okd l ∧ lenOk l) ∧
             (IntKind.u64 = IntKind.u64 ∧
             IntKind.u64 = IntKind.u64 ∧ (4 : Nat) = (4 : Nat) ∧ (4 : Nat) = (4 : Nat) ∧ (1 : Nat) = (1 : Nat)) ∧
             True ∧
             True ∧
             (false = false ∧ True) ∧
             D.val (Value.bool (eqB (nB (18446744073709551616 : Nat) (4 : Nat) (ofN (dg2 c p))) (toF (dlF c p)))) = F
            | false => True ∧ True ∧ (false = false ∧ True) ∧ D.val (Value.bool false) = F
           | false => True ∧ True ∧ True ∧ True ∧ (false = false ∧ True) ∧ D.val (Value.bool false) = F
          | false => True ∧ True ∧ True ∧ True ∧ True ∧ True ∧ (false = false ∧ True) ∧ D.val (Value.bool false) = F
         | false => True ∧ True ∧ True ∧ True ∧ True ∧ True ∧ True ∧ True ∧ (false = false ∧ True) ∧ D.val (Value.bool false) = F
        | false => True ∧ True ∧ True ∧ True ∧ True ∧ True ∧ True ∧ True ∧ True ∧ True ∧ (false = false ∧ True) ∧ D.val (Value.bool false) = F
       | false => True ∧ True ∧ True ∧ True ∧ True ∧ True ∧ True ∧ True ∧ True ∧ True ∧ True ∧ True ∧ (false = false ∧ True) ∧ D.val (Value.bool false) = F
      | false => True ∧ True ∧ True ∧ True ∧ True ∧ True ∧ True ∧ True ∧ True ∧ True ∧ True ∧ True ∧ True ∧ True ∧ (false = false ∧ True) ∧ D.val (Value.bool false) = F
    | false =>
     True ∧
     True ∧
     (0 : Nat) = (0 : Nat) ∧
     ((1 : Nat) ≠ (0 : Nat) ∧ (1 : Nat) = (1 : Nat) ∧ false = false) ∧
     (∃ (l : List Int), [D.ints IntKind.i64 dgL] = [D.ints IntKind.i64 l] ∧ okd l ∧ lenOk l) ∧
     (IntKind.u64 = IntKind.u64 ∧ IntKind.u64 = IntKind.u64 ∧ (4 : Nat) = (4 : Nat) ∧ (4 : Nat) = (4 : Nat) ∧ (1 : Nat) = (1 : Nat)) ∧
     True ∧
     match eqB (nB (18446744073709551616 : Nat) (4 : Nat) LQ) (toF dgL) with
     | true =>
      ((4 : Nat) ≠ (0 : Nat) ∧ (4 : Nat) = (4 : Nat) ∧ true = true) ∧
      (∃ (l : List Int), [D.arr IntKind.u64 (4 : Nat) a] = [D.arr IntKind.u64 (4 : Nat) l] ∧ isN l) ∧
      True ∧
      True ∧
      (∃ (l : List Int), [D.ints IntKind.i64 (nuF a), (D.ints IntKind.i64 dgL).ref] = [D.ints IntKind.i64 l, (D.ints IntKind.i64 dgL).ref] ∧ okd l ∧ len1 l) ∧
      (IntKind.u64 = IntKind.u64 ∧ IntKind.u64 = IntKind.u64 ∧ (4 : Nat) = (4 : Nat) ∧ (4 : Nat) = (4 : Nat) ∧ (1 : Nat) = (1 : Nat)) ∧
      True ∧
      True ∧
      match eqB (nB (18446744073709551616 : Nat) (4 : Nat) (vB (18446744073709551616 : Nat) a % LQ)) (loF (nuF a)) with
      | true =>
       ((8 : Nat) ≠ (0 : Nat) ∧ (8 : Nat) = (8 : Nat) ∧ true = true) ∧
       (∃ (w_1 : List Int), [D.arr IntKind.u64 (8 : Nat) w] = [D.arr IntKind.u64 (8 : Nat) w_1] ∧ okw w_1 ∧ w_1.length = (8 : Nat)) ∧
       True ∧
       ((8 : Nat) ≠ (0 : Nat) ∧ (8 : Nat) = (8 : Nat) ∧ true = true) ∧
       (∃ (w_1 : List Int), [D.arr IntKind.u64 (8 : Nat) w] = [D.arr IntKind.u64 (8 : Nat) w_1] ∧ okw w_1 ∧ w_1.length = (8 : Nat)) ∧
       (∃ (l : List Int), [D.ints IntKind.i64 (nuF w), (D.ints IntKind.i64 dgL).ref] = [D.ints IntKind.i64 l, (D.ints IntKind.i64 dgL).ref] ∧ okd l ∧ len1 l) ∧
       (IntKind.u64 = IntKind.u64 ∧ IntKind.u64 = IntKind.u64 ∧ (4 : Nat) = (4 : Nat) ∧ (4 : Nat) = (4 : Nat) ∧ (1 : Nat) = (1 : Nat)) ∧
       True ∧
       True ∧
       match eqB (nB (18446744073709551616 : Nat) (4 : Nat) (vB (18446744073709551616 : Nat) w % LQ)) (loF (nuF w)) with
       | true =>
        ((4 : Nat) ≠ (0 : Nat) ∧ (4 : Nat) = (4 : Nat) ∧ true = true) ∧
        ((4 : Nat) ≠ (0 : Nat) ∧ (4 : Nat) = (4 : Nat) ∧ true = true) ∧
        (∃ (l : List Int), ∃ (m : List Int), [D.arr IntKind.u64 (4 : Nat) a, D.arr IntKind.u64 (4 : Nat) b] = [D.arr IntKind.u64 (4 : Nat) l, D.arr IntKind.u64 (4 : Nat) m] ∧ isN l ∧ isN m) ∧
        True ∧
        True ∧
        True ∧
        (∃ (l : List Int), ∃ (m : List Int), [D.ints IntKind.i64 (nuF a), D.ints IntKind.i64 (nuF b)] = [D.ints IntKind.i64 l, D.ints IntKind.i64 m] ∧ (okd l ∧ lenS l) ∧ okd m ∧ lenS m) ∧
        (∃ (l : List Int), [D.ints IntKind.i64 (plF (nuF a) (nuF b)), (D.ints IntKind.i64 dgL).ref] = [D.ints IntKind.i64 l, (D.ints IntKind.i64 dgL).ref] ∧ okd l ∧ len1 l) ∧
        (IntKind.u64 = IntKind.u64 ∧ IntKind.u64 = IntKind.u64 ∧ (4 : Nat) = (4 : Nat) ∧ (4 : Nat) = (4 : Nat) ∧ (1 : Nat) = (1 : Nat)) ∧
        True ∧
        True ∧
        match eqB (nB (18446744073709551616 : Nat) (4 : Nat) ((vB (18446744073709551616 : Nat) a + vB (18446744073709551616 : Nat) b) % LQ)) (loF (plF (nuF a) (nuF b))) with
        | true =>
         ((4 : Nat) ≠ (0 : Nat) ∧ (4 : Nat) = (4 : Nat) ∧ true = true) ∧
         (∃ (l : List Int), [D.arr IntKind.u64 (4 : Nat) a] = [D.arr IntKind.u64 (4 : Nat) l] ∧ isN l) ∧
         True ∧
         ((1 : Nat) ≠ (0 : Nat) ∧ (1 : Nat) = (1 : Nat) ∧ false = false) ∧
         True ∧
         ((1 : Nat) ≠ (0 : Nat) ∧ (1 : Nat) = (1 : Nat) ∧ false = false) ∧
         (∃ (l : List Int),
         ∃ (m : List Int), [D.ints IntKind.i64 (nuF a), D.ints IntKind.i64 dgL] = [D.ints IntKind.i64 l, D.ints IntKind.i64 m] ∧ (okd l ∧ len1 l) ∧ (okd m ∧ len1 m) ∧ vB (65536 : Nat) m ≠ (0 : Nat)) ∧
         (∃ (l : List Int),
         ∃ (m : List Int),
         [D.ints IntKind.i64 dgL, D.ints IntKind.i64 (rsF (nuF a) dgL)] = [D.ints IntKind.i64 l, D.ints IntKind.i64 m] ∧ (okd l ∧ lenS l) ∧ (okd m ∧ lenS m) ∧ vB (65536 : Nat) m ≤ vB (65536 : Nat) l) ∧
         (∃ (l : List Int), [D.ints IntKind.i64 (mnF dgL (rsF (nuF a) dgL)), (D.ints IntKind.i64 dgL).ref] = [D.ints IntKind.i64 l, (D.ints IntKind.i64 dgL).ref] ∧ okd l ∧ len1 l) ∧
         (IntKind.u64 = IntKind.u64 ∧ IntKind.u64 = IntKind.u64 ∧ (4 : Nat) = (4 : Nat) ∧ (4 : Nat) = (4 : Nat) ∧ (1 : Nat) = (1 : Nat)) ∧
         True ∧
         True ∧
         match eqB (nB (18446744073709551616 : Nat) (4 : Nat) (ngS (vB (18446744073709551616 : Nat) a))) (loF (mnF dgL (rsF (nuF a) dgL))) with
         | true =>
          ((4 : Nat) ≠ (0 : Nat) ∧ (4 : Nat) = (4 : Nat) ∧ true = true) ∧
          ((4 : Nat) ≠ (0 : Nat) ∧ (4 : Nat) = (4 : Nat) ∧ true = true) ∧
          (∃ (l : List Int), ∃ (m : List Int), [D.arr IntKind.u64 (4 : Nat) a, D.arr IntKind.u64 (4 : Nat) b] = [D.arr IntKind.u64 (4 : Nat) l, D.arr IntKind.u64 (4 : Nat) m] ∧ isN l ∧ isN m) ∧
          True ∧
          True ∧
          True ∧
          (∃ (l : List Int), ∃ (m : List Int), [D.ints IntKind.i64 (nuF a), D.ints IntKind.i64 (nuF b)] = [D.ints IntKind.i64 l, D.ints IntKind.i64 m] ∧ (okd l ∧ lenS l) ∧ okd m ∧ lenS m) ∧
          (∃ (l : List Int), [D.ints IntKind.i64 (tmF (nuF a) (nuF b)), (D.ints IntKind.i64 dgL).ref] = [D.ints IntKind.i64 l, (D.ints IntKind.i64 dgL).ref] ∧ okd l ∧ len1 l) ∧
          (IntKind.u64 = IntKind.u64 ∧ IntKind.u64 = IntKind.u64 ∧ (4 : Nat) = (4 : Nat) ∧ (4 : Nat) = (4 : Nat) ∧ (1 : Nat) = (1 : Nat)) ∧
          True ∧
          True ∧
          match eqB (nB (18446744073709551616 : Nat) (4 : Nat) (vB (18446744073709551616 : Nat) a * vB (18446744073709551616 : Nat) b % LQ)) (loF (tmF (nuF a) (nuF b))) with
          | true =>
           ((4 : Nat) ≠ (0 : Nat) ∧ (4 : Nat) = (4 : Nat) ∧ true = true) ∧
           (∃ (l : List Int), [D.arr IntKind.u64 (4 : Nat) a] = [D.arr IntKind.u64 (4 : Nat) l] ∧ isN l) ∧
           True ∧
           ((1 : Nat) ≠ (0 : Nat) ∧ (1 : Nat) = (1 : Nat) ∧ false = false) ∧
           ((1 : Nat) = (1 : Nat) ∧ (1 : Nat) ≤ (4096 : Nat)) ∧
           (∃ (l : List Int),
           ∃ (m : List Int),
           [D.ints IntKind.i64 dgL, D.ints IntKind.i64 [(2 : Int)]] = [D.ints IntKind.i64 l, D.ints IntKind.i64 m] ∧
           (okd l ∧ lenS l) ∧ (okd m ∧ lenS m) ∧ vB (65536 : Nat) m ≤ vB (65536 : Nat) l) ∧
           ((1 : Nat) ≠ (0 : Nat) ∧ (1 : Nat) = (1 : Nat) ∧ false = false) ∧
           (∃ (a_2 : Nat),
           ∃ (n : Nat),
           ∃ (m : Nat),
           [D.ints IntKind.i64 (nuF a), D.ints IntKind.i64 (mnF dgL [(2 : Int)]), D.ints IntKind.i64 dgL] =
           [D.ints IntKind.i64 (dg a_2), D.ints IntKind.i64 (dg n), D.ints IntKind.i64 (dg m)] ∧
           a_2 < (115792089237316195423570985008687907853269984665640564039457584007913129639936 : Nat) ∧
           n < (115792089237316195423570985008687907853269984665640564039457584007913129639936 : Nat) ∧
           m < (115792089237316195423570985008687907853269984665640564039457584007913129639936 : Nat) ∧ (0 : Nat) < m) ∧
           (∃ (l : List Int), [D.ints IntKind.i64 (pwF (nuF a) (mnF dgL [(2 : Int)]) dgL)] = [D.ints IntKind.i64 l] ∧ okd l ∧ lenOk l) ∧
           (IntKind.u64 = IntKind.u64 ∧ IntKind.u64 = IntKind.u64 ∧ (4 : Nat) = (4 : Nat) ∧ (4 : Nat) = (4 : Nat) ∧ (1 : Nat) = (1 : Nat)) ∧
           True ∧
           True ∧
           match
           eqB (nB (18446744073709551616 : Nat) (4 : Nat) (ivS (vB (18446744073709551616 : Nat) a))) (toF (pwF (nuF a) (mnF dgL [(2 : Int)]) dgL)) with
           | true =>
            True ∧
            True ∧
            (∃ (c_1 : Int),
            ∃ (p_1 : List Int),
            [D.val (Value.int IntKind.u8 c), D.ints IntKind.u8 p] = [D.val (Value.int IntKind.u8 c_1), D.ints IntKind.u8 p_1] ∧
            ((0 : Int) ≤ c_1 ∧ c_1 ≤ (255 : Int)) ∧ okp p_1) ∧
            True ∧
            True ∧
            isBytes p ∧
            (∃ (c_1 : Int),
            ∃ (p_1 : List Int),
            [D.val (Value.int IntKind.u8 c), D.str p] = [D.val (Value.int IntKind.u8 c_1), D.str p_1] ∧
            ((0 : Int) ≤ c_1 ∧ c_1 ≤ (255 : Int)) ∧ okp p_1) ∧
            (∃ (l : List Int), [D.ints IntKind.i64 (dlF c p)] = [D.ints IntKind.i64 l] ∧ okd l ∧ lenOk l) ∧
            (IntKind.u64 = IntKind.u64 ∧
            IntKind.u64 = IntKind.u64 ∧ (4 : Nat) = (4 : Nat) ∧ (4 : Nat) = (4 : Nat) ∧ (1 : Nat) = (1 : Nat)) ∧
            True ∧
            True ∧
            (false = false ∧ True) ∧
            D.val (Value.bool (eqB (nB (18446744073709551616 : Nat) (4 : Nat) (ofN (dg2 c p))) (toF (dlF c p)))) = F
           | false => True ∧ True ∧ (false = false ∧ True) ∧ D.val (Value.bool false) = F
          | false => True ∧ True ∧ True ∧ True ∧ (false = false ∧ True) ∧ D.val (Value.bool false) = F
         | false => True ∧ True ∧ True ∧ True ∧ True ∧ True ∧ (false = false ∧ True) ∧ D.val (Value.bool false) = F
        | false => True ∧ True ∧ True ∧ True ∧ True ∧ True ∧ True ∧ True ∧ (false = false ∧ True) ∧ D.val (Value.bool false) = F
       | false => True ∧ True ∧ True ∧ True ∧ True ∧ True ∧ True ∧ True ∧ True ∧ True ∧ (false = false ∧ True) ∧ D.val (Value.bool false) = F
      | false => True ∧ True ∧ True ∧ True ∧ True ∧ True ∧ True ∧ True ∧ True ∧ True ∧ True ∧ True ∧ (false = false ∧ True) ∧ D.val (Value.bool false) = F
     | false => True ∧ True ∧ True ∧ True ∧ True ∧ True ∧ True ∧ True ∧ True ∧ True ∧ True ∧ True ∧ True ∧ True ∧ (false = false ∧ True) ∧ D.val (Value.bool false) = F) := by kernel_rfl
end Go.Proofs.YtkicjckhkefnpaaDoor
namespace Go.Proofs.YtkicjckhkefnpaaDoor
open Go Go.Vg
theorem dgL_eq : dgL = dg LQ := opq_eq _
theorem vdd (n : Nat) : vD (dg n) = n := vl_dg n
theorem nu_eq (l : List Int) : nuF l = dg (wv l) := opq_eq _
theorem dl_eq (c : Int) (p : List Int) : dlF c p = dg (ofN (dg2 c p)) := opq_eq _
theorem rs_eq (a b : Nat) : rsF (dg a) (dg b) = dg (a % b) := by unfold rsF; rw [opq_eq, vdd, vdd]
theorem pl_eq (a b : Nat) : plF (dg a) (dg b) = dg (a + b) := by unfold plF; rw [opq_eq, vdd, vdd]
theorem tm_eq (a b : Nat) : tmF (dg a) (dg b) = dg (a * b) := by unfold tmF; rw [opq_eq, vdd, vdd]
theorem mn_eq (a b : Nat) : mnF (dg a) (dg b) = dg (a - b) := by unfold mnF; rw [opq_eq, vdd, vdd]
theorem mn2_eq : mnF (dg LQ) [2] = dg (LQ - 2) := by unfold mnF; rw [opq_eq, vdd]; rfl
theorem pw_eq (a : Nat) : pwF (dg a) (dg (LQ - 2)) (dg LQ) = dg (ivS a) := by unfold pwF ivS powN; rw [opq_eq, opq_eq, vdd, vdd, vdd]
theorem to_eq (a : Nat) : toF (dg a) = nB 18446744073709551616 4 a := by unfold toF; rw [opq_eq, vdd]
theorem lo_eq (a : Nat) : loF (dg a) = nB 18446744073709551616 4 (a % LQ) := by unfold loF; rw [opq_eq, vdd]
theorem m53o : Meets Tryd.prog 53 sp53o := by
  have e : sp53o = sp53 := by
    unfold sp53o plF
    simp only [opq_eq]
    rfl
  rw [e]; exact m53
theorem m54o : Meets Tryd.prog 54 sp54o := by
  have e : sp54o = sp54 := by
    unfold sp54o tmF
    simp only [opq_eq]
    rfl
  rw [e]; exact m54
theorem m61o : Meets Tryd.prog 61 sp61o := by
  have e : sp61o = sp61 := by
    unfold sp61o mnF
    simp only [opq_eq]
    rfl
  rw [e]; exact m61
theorem m64o : Meets Tryd.prog 64 sp64o := by
  have e : sp64o = sp64 := by
    unfold sp64o pwF
    simp only [opq_eq]
    rfl
  rw [e]; exact m64
theorem m48o : Meets Tryd.prog 48 sp48o := by
  have e : sp48o = sp48 := by
    unfold sp48o nuF
    simp only [opq_eq]
    rfl
  rw [e]; exact m48
theorem m58o : Meets Tryd.prog 58 sp58o := by
  have e : sp58o = sp58 := by
    unfold sp58o nuF
    simp only [opq_eq]
    rfl
  rw [e]; exact m58
theorem m50o : Meets Tryd.prog 50 sp50o := by
  have e : sp50o = sp50 := by
    unfold sp50o toF
    simp only [opq_eq]
    rfl
  rw [e]; exact m50
theorem m66o : Meets Tryd.prog 66 sp66o := by
  have e : sp66o = sp66 := by
    unfold sp66o dlF
    simp only [opq_eq]
    rfl
  rw [e]; exact m66
set_option maxRecDepth 100000 in
theorem m49 : Meets Tryd.prog 49 sp49 := by
  refine meets_of_owed (C := c49) ⟨tab_ok, lkS_ok ⟨m51o, m50o, trivial⟩⟩ (by kernel_rfl) (by kernel_rfl : Tryd.prog.funcs[49]? = some Tryd.f49) (by kernel_rfl) (by kernel_rfl) (by kernel_rfl) _ ?_
  rintro _ ⟨l, rfl, hl, h1⟩
  refine ⟨fun _ => rfl, fun _ => none, ?_⟩
  show owed c49 (fun _ => none) Tryd.f49 [dgs l, .ref (dgs dgL)] (num4 (loF l))
  rw [vc49]
  have lq := lens1 LQ_lt
  have e1 : rsF l (dg LQ) = dg (vD l % LQ) := by unfold rsF; rw [opq_eq, vdd]
  have l2 := lens1 (x := vD l % LQ) (md_256 _)
  simp (decide := true) only [dgL_eq, e1, to_eq, eq_self, true_and, and_true, ne_eq, not_false_eq_true]
  refine ⟨⟨_, _, rfl, ⟨hl, h1⟩, ⟨lq.1, lq.2.1⟩, by rw [vl_dg]; exact Nat.ne_of_gt LQ_pos⟩, ⟨_, rfl, l2.1, l2.2.2.2⟩, ?_⟩
  unfold loF
  rw [opq_eq]
theorem exS {x y : Nat} (hx : x < 65536 ^ 64) (hy : y < 65536 ^ 64) : (∃ (l : List Int), ∃ (m : List Int), [D.ints .i64 (dg x), D.ints .i64 (dg y)] = [D.ints .i64 l, D.ints .i64 m] ∧ (okd l ∧ lenS l) ∧ okd m ∧ lenS m) = True := by
  have a := lens hx
  have b := lens hy
  exact eq_true ⟨_, _, rfl, ⟨a.1, a.2.2.1⟩, b.1, b.2.2.1⟩
theorem exR {x : Nat} (hx : x < 65536 ^ 64) : (∃ (l : List Int), [D.ints .i64 (dg x), (D.ints .i64 (dg LQ)).ref] = [D.ints .i64 l, (D.ints .i64 (dg LQ)).ref] ∧ okd l ∧ len1 l) = True := by
  have a := lens hx
  exact eq_true ⟨_, rfl, a.1, a.2.1⟩
theorem exT {x : Nat} (hx : x < 65536 ^ 64) : (∃ (l : List Int), [D.ints .i64 (dg x)] = [D.ints .i64 l] ∧ okd l ∧ lenOk l) = True := by
  have a := lens hx
  exact eq_true ⟨_, rfl, a.1, a.2.2.2⟩
theorem exD {x : Nat} (hx : x < 65536 ^ 64) : (∃ (l : List Int), ∃ (m : List Int), [D.ints .i64 (dg x), D.ints .i64 (dg LQ)] = [D.ints .i64 l, D.ints .i64 m] ∧ (okd l ∧ len1 l) ∧ (okd m ∧ len1 m) ∧ ¬vB 65536 m = 0) = True := by
  have a := lens hx
  have b := lens1 LQ_lt
  exact eq_true ⟨_, _, rfl, ⟨a.1, a.2.1⟩, ⟨b.1, b.2.1⟩, by rw [vl_dg]; exact Nat.ne_of_gt LQ_pos⟩
theorem exM {y : Nat} (hy : y ≤ LQ) : (∃ (l : List Int), ∃ (m : List Int), [D.ints .i64 (dg LQ), D.ints .i64 (dg y)] = [D.ints .i64 l, D.ints .i64 m] ∧ (okd l ∧ lenS l) ∧ (okd m ∧ lenS m) ∧ vB 65536 m ≤ vB 65536 l) = True := by
  have a := lens1 LQ_lt
  have b := lens1 (Nat.lt_of_le_of_lt hy LQ_lt)
  exact eq_true ⟨_, _, rfl, ⟨a.1, a.2.2.1⟩, ⟨b.1, b.2.2.1⟩, by rw [vl_dg, vl_dg]; exact hy⟩
theorem exM2 : (∃ (l : List Int), ∃ (m : List Int), [D.ints .i64 (dg LQ), D.ints .i64 [2]] = [D.ints .i64 l, D.ints .i64 m] ∧ (okd l ∧ lenS l) ∧ (okd m ∧ lenS m) ∧ vB 65536 m ≤ vB 65536 l) = True := by
  have la := lens1 LQ_lt
  refine eq_true ⟨_, _, rfl, ⟨la.1, la.2.2.1⟩, ⟨?_, by unfold lenS; decide⟩, ?_⟩
  · intro x hx
    simp only [List.mem_singleton] at hx
    subst hx; decide
  · rw [vl_dg]; unfold LQ; decide
theorem big_of {x : Nat} (h : x < 2 ^ 256) : x < 65536 ^ 64 := Nat.lt_trans h (by decide)
set_option maxRecDepth 100000 in
theorem ok75  (d : D)  :
    (OkT tab 8 75 d) = (
 ∃ (l : List Int), d = D.arr IntKind.u64 (4 : Nat) l ∧ l.length = (4 : Nat) ∧ ∀ (z : Int), z ∈ l → (0 : Int) ≤ z ∧ z ≤ IntKind.u64.max) := by kernel_rfl
set_option maxRecDepth 100000 in
theorem ok88  (d : D)  :
    (OkT tab 8 88 d) = (
 ∃ (l : List Int), d = D.arr IntKind.u64 (8 : Nat) l ∧ l.length = (8 : Nat) ∧ ∀ (z : Int), z ∈ l → (0 : Int) ≤ z ∧ z ≤ IntKind.u64.max) := by kernel_rfl
set_option maxRecDepth 100000 in
theorem ok5  (d : D)  :
    (OkT tab 8 5 d) = (
 ∃ (z : Int), d = D.val (Value.int IntKind.u8 z) ∧ (0 : Int) ≤ z ∧ z ≤ IntKind.u8.max) := by kernel_rfl
end Go.Proofs.YtkicjckhkefnpaaDoor
namespace Go.Proofs.YtkicjckhkefnpaaDoor
open Go Go.Vg
theorem okAll5 {t : Tab} {n : Nat} {a b c u v : TypeId} : ∀ {ds : List D}, OkAll t n [a, b, c, u, v] ds → ∃ d e f g h, ds = [d, e, f, g, h] ∧ OkT t n a d ∧ OkT t n b e ∧ OkT t n c f ∧ OkT t n u g ∧ OkT t n v h
  | [], h => by cases h
  | [_], h => by cases h.2
  | [_, _], h => by cases h.2.2
  | [_, _, _], h => by cases h.2.2.2
  | [_, _, _, _], h => by cases h.2.2.2.2
  | [d, e, f, g, k], h => ⟨d, e, f, g, k, rfl, h.1, h.2.1, h.2.2.1, h.2.2.2.1, h.2.2.2.2.1⟩
  | _ :: _ :: _ :: _ :: _ :: _ :: _, h => by cases h.2.2.2.2.2
set_option maxRecDepth 100000 in
theorem m9 : Meets Tryd.prog 9 (lawSpec tab Tryd.f9.params.toList) := by
  refine meets_of_owed (C := c9) ⟨tab_ok, lkS_ok ⟨m47, m48o, m52, m49, m53o, m54o, m55, m50o, m56, m57, m58o, m59, m60, m61o, m51o, m62, m63, m64o, m65, m66o, trivial⟩⟩ (by kernel_rfl) (by kernel_rfl : Tryd.prog.funcs[9]? = some Tryd.f9) (by kernel_rfl) (by kernel_rfl) (by kernel_rfl) _ ?_
  intro ds hds
  obtain ⟨a, b, w, c, p, rfl, ha, hb, hw, hc, hp⟩ : ∃ a b w c p, ds = [num4 a, num4 b, num8 w, .val (.int .u8 c), .ints .u8 p] ∧ isN a ∧ isN b ∧ (okw w ∧ w.length = 8) ∧ (0 ≤ c ∧ c ≤ 255) ∧ okp p := by
    have hds : OkAll tab 8 [75, 75, 88, 5, 26] ds := hds
    obtain ⟨d1, d2, d3, d4, d5, rfl, h1, h2, h3, h4, h5⟩ := okAll5 hds
    obtain ⟨a, rfl, ha⟩ := num_of h1
    obtain ⟨b, rfl, hb⟩ := num_of h2
    rw [ok88] at h3
    obtain ⟨w, rfl, hwl, hw⟩ := h3
    rw [ok5] at h4
    obtain ⟨c, rfl, hc0, hc1⟩ := h4
    obtain ⟨p, rfl, hp, hpl⟩ : ∃ l : List Int, d5 = .ints .u8 l ∧ isBytes l ∧ l.length ≤ 140737488351232 := by
      rw [ok26] at h5
      obtain ⟨l, rfl, h1, _, h2⟩ := h5
      refine ⟨l, rfl, fun x hx => ?_, by omega⟩
      have := h1 x hx
      have e : IntKind.u8.max = 255 := rfl
      rw [e] at this
      omega
    exact ⟨a, b, w, c, p, rfl, ha, hb, ⟨fun x hx => ⟨(hw x hx).1, Int.lt_of_le_of_lt (hw x hx).2 (by decide)⟩, hwl⟩, ⟨hc0, hc1⟩, hp, by omega⟩
  refine ⟨fun _ => rfl, inv9 p, ?_⟩
  show owed c9 (inv9 p) Tryd.f9 [num4 a, num4 b, num8 w, .val (.int .u8 c), .ints .u8 p] (bl true)
  rw [vc9]
  have hA : vB 18446744073709551616 a < 2 ^ 256 := wv_lt ha.1 ha.2
  have hB : vB 18446744073709551616 b < 2 ^ 256 := wv_lt hb.1 hb.2
  have hsum : vB 18446744073709551616 a + vB 18446744073709551616 b < 65536 ^ 64 := Nat.lt_trans (Nat.add_lt_add hA hB) (by decide)
  have hmul : vB 18446744073709551616 a * vB 18446744073709551616 b < 65536 ^ 64 := Nat.lt_trans (Nat.mul_lt_mul'' hA hB) (by decide)
  have hW2 : vB 18446744073709551616 w < 65536 ^ 64 := by
    have := vB_lt (b := 18446744073709551616) hw.1
    rw [hw.2] at this
    exact Nat.lt_trans this (by decide)
  have hq : LQ < 65536 ^ 64 := big_of LQ_lt
  have hO : ofN (dg2 c p) < 2 ^ 256 := by
    unfold ofN
    split
    · exact md_256 _
    · decide
  have exA : (∃ (l : List Int), [D.arr .u64 4 a] = [D.arr .u64 4 l] ∧ okw l ∧ l.length = 4) = True := eq_true ⟨a, rfl, ha.1, ha.2⟩
  have exB : (∃ (l : List Int), [D.arr .u64 4 b] = [D.arr .u64 4 l] ∧ okw l ∧ l.length = 4) = True := eq_true ⟨b, rfl, hb.1, hb.2⟩
  have exA2 : (∃ (l : List Int), [D.arr .u64 4 a] = [D.arr .u64 4 l] ∧ isN l) = True := eq_true ⟨a, rfl, ha⟩
  have exAB : (∃ (l : List Int), ∃ (m : List Int), [D.arr .u64 4 a, D.arr .u64 4 b] = [D.arr .u64 4 l, D.arr .u64 4 m] ∧ isN l ∧ isN m) = True := eq_true ⟨a, b, rfl, ha, hb⟩
  have exW : (∃ (w_1 : List Int), [D.arr .u64 8 w] = [D.arr .u64 8 w_1] ∧ okw w_1 ∧ w_1.length = 8) = True := eq_true ⟨w, rfl, hw⟩
  have exp : (∃ (l : List Int), [D.ints .u8 p] = [D.ints .u8 l] ∧ okp l) = True := eq_true ⟨p, rfl, hp⟩
  have exc : (∃ (c_1 : Int), ∃ (p_1 : List Int), [D.val (Value.int .u8 c), D.ints .u8 p] = [D.val (Value.int .u8 c_1), D.ints .u8 p_1] ∧ (0 ≤ c_1 ∧ c_1 ≤ 255) ∧ okp p_1) = True := eq_true ⟨c, p, rfl, hc, hp⟩
  have exc2 : (∃ (c_1 : Int), ∃ (p_1 : List Int), [D.val (Value.int .u8 c), D.str p] = [D.val (Value.int .u8 c_1), D.str p_1] ∧ (0 ≤ c_1 ∧ c_1 ≤ 255) ∧ okp p_1) = True := eq_true ⟨c, p, rfl, hc, hp⟩
  have hbp : isBytes p = True := eq_true hp.1
  have hng : (LQ - vB 18446744073709551616 a % LQ) % LQ = ngS (vB 18446744073709551616 a) := rfl
  have hng2 : LQ - vB 18446744073709551616 a % LQ < 65536 ^ 64 := Nat.lt_of_le_of_lt (Nat.sub_le _ _) hq
  have hiv : ivS (vB 18446744073709551616 a) < 2 ^ 256 := by unfold ivS; rw [opq_eq]; exact md_256 _
  simp (decide := true) only [dgL_eq, nu_eq, dl_eq, rs_eq, pl_eq, tm_eq, mn_eq, mn2_eq, pw_eq, to_eq, lo_eq, exA, exB, exA2, exAB, exW, exp, exc, exc2, hbp, hng,
    exS (big_of hA) (big_of hB), exR (big_of hA), exR hW2, exR hsum, exR hmul, exR hng2, exT hq, exT (big_of hiv), exT (big_of hO), exD (big_of hA), exM (Nat.le_of_lt (md_lt (vB 18446744073709551616 a))), exM2,
    eqB_refl, Bool.not_true, eq_self, true_and, and_true, ne_eq, not_false_eq_true]
  have tm256 : ∀ x, tmF (dg x) [256] = dg (x * 256) := fun x => by unfold tmF; rw [opq_eq, vdd]; rfl
  have plS : ∀ (x s : Nat), plF (dg x) [(s : Int)] = dg (x + s) := fun x s => by
    have e : vD [(s : Int)] = s := by
      show vB 65536 [(s : Int)] = s
      simp [vB]
    unfold plF
    rw [opq_eq, vdd, e]
  refine ⟨?_, fun _ _ => ?_⟩
  · split
    · rename_i h
      have h := of_decide_eq_true h
      have hbytes := hp.1
      have hA : ∀ i, vB 256 (p.drop i) < 256 ^ 64 := fun i => b64 (fun y hy => hbytes y (List.mem_of_mem_drop hy)) (by rw [List.length_drop]; omega)
      have w1 : IntKind.i64.wrap ((p.length : Int) - 1) = (p.length : Int) - 1 := wi (by omega) (by omega)
      simp only [w1, Int.sub_self, Int.toNat_zero, Nat.sub_zero, List.drop_length]
      refine ⟨⟨⟨by rw [show ((0 : Nat) : Int) = 0 from rfl, Int.sub_zero], rfl⟩, Nat.zero_le _⟩, fun t ht => ?_⟩
      split
      · rename_i hge
        have hge : t < p.length := by have := of_decide_eq_true hge; omega
        obtain ⟨i, hi⟩ : ∃ i, i = p.length - 1 - t := ⟨_, rfl⟩
        have ei : (p.length : Int) - 1 - (t : Int) = (i : Int) := by omega
        have e1 : p.length - t = i + 1 := by omega
        have hil : i < p.length := by omega
        have hsb := hbytes _ (getD_mem (l := p) (n := i) hil)
        obtain ⟨s, es⟩ := Int.eq_ofNat_of_zero_le hsb.1
        have hs : IntKind.i64.wrap (s : Int) = (s : Int) := wi (by omega) (by omega)
        have w2 : IntKind.i64.wrap ((i : Int) - 1) = (i : Int) - 1 := wi (by omega) (by omega)
        have w3 : ((p.length : Int) - 1 - ((i : Int) - 1)).toNat = t + 1 := by omega
        have e2 : p.length - (t + 1) = i := by omega
        have hv := vB_dropS 256 i hil
        have h3 := hA (i + 1)
        have hl1 := lens (x := vB 256 (p.drop (i + 1))) (Nat.lt_trans h3 (by decide))
        have hl2 := lens (x := vB 256 (p.drop (i + 1)) * 256) (Nat.lt_trans (Nat.mul_lt_mul_of_pos_right h3 (by decide : 0 < 256)) (by decide))
        rw [es, Int.toNat_natCast] at hv
        rw [ei, e1]
        simp only [Int.toNat_natCast, es, hs, w2, w3, e2, tm256, plS, hv]
        refine ⟨⟨_, _, rfl, ⟨hl1.1, hl1.2.2.1⟩, ?_, by unfold lenS; decide⟩, ⟨by omega, by omega⟩, ⟨_, _, rfl, ⟨hl2.1, hl2.2.2.1⟩, ?_, by unfold lenS; simp⟩, ?_⟩
        · intro y hy
          simp only [List.mem_singleton] at hy
          subst hy; decide
        · intro y hy
          simp only [List.mem_singleton] at hy
          subst hy; omega
        exact ⟨⟨by rw [show (p.length : Int) - 1 - ((t + 1 : Nat) : Int) = (i : Int) - 1 by omega], by rw [Nat.mul_comm, Nat.add_comm]⟩, by omega, by omega⟩
      · rename_i hge
        have hge := of_decide_eq_false hge
        obtain rfl : t = p.length := by omega
        rw [Nat.sub_self, List.drop_zero]
        have hl1 := lens (x := vB 256 p) (Nat.lt_trans (hA 0) (by decide))
        refine ⟨⟨_, rfl, hl1.1, hl1.2.1⟩, ?_⟩
        have e : ofN p = vB 256 p % LQ := by unfold ofN; rw [if_pos (by omega)]
        rw [e]
    · rename_i h
      have h := of_decide_eq_false h
      have e : ofN p = 0 := by unfold ofN; rw [if_neg (by omega)]
      rw [e]
      rfl
  · have hE : (p.length ≤ 64 → ofE p = 0) ∧ (¬ p.length ≤ 64 → ofE p = 2) := by
      unfold ofE
      exact ⟨fun h => if_pos h, fun h => if_neg h⟩
    have hpw : ∃ (a_2 : Nat), ∃ (n : Nat), ∃ (m : Nat), [D.ints IntKind.i64 (dg (vB 18446744073709551616 a)), D.ints IntKind.i64 (dg (LQ - 2)), D.ints IntKind.i64 (dg LQ)] = [D.ints IntKind.i64 (dg a_2), D.ints IntKind.i64 (dg n), D.ints IntKind.i64 (dg m)] ∧
        a_2 < 115792089237316195423570985008687907853269984665640564039457584007913129639936 ∧ n < 115792089237316195423570985008687907853269984665640564039457584007913129639936 ∧ m < 115792089237316195423570985008687907853269984665640564039457584007913129639936 ∧ 0 < m :=
      ⟨_, _, _, rfl, hA, by unfold LQ; decide, LQ_lt, LQ_pos⟩
    by_cases h : p.length ≤ 64
    · rw [hE.1 h, decide_eq_true (show (p.length : Int) ≤ 64 by omega)]
      exact hpw
    · rw [hE.2 h, decide_eq_false (show ¬ (p.length : Int) ≤ 64 by omega)]
      exact hpw
end Go.Proofs.YtkicjckhkefnpaaDoor
