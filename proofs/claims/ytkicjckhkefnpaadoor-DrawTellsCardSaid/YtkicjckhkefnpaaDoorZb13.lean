/- package draw: what its functions owe. -/
import Derived.Test.YtkicjckhkefnpaaDoorZb12
import Derived.Test.YtkicjckhkefnpaaDoorZb11
namespace Go.Proofs.YtkicjckhkefnpaaDoor
open Go Go.Vg
structure SR where
 k : MS
 p : Nat
 b : List Int
 m : Bool
abbrev stR (s : SR) : D := .st [stM s.k, .val (.int .u64 (s.p : Int)), .arr .u8 32 s.b, .val (.bool s.m)]
def srOf (d : D) : SR := ⟨ofM (fldOf d 0), (numOf (fldOf d 1)).toNat, arrOf (fldOf d 2), boolOf (fldOf d 3)⟩
def unR : D → D
 | .ref x => x
 | d => d
def bE (q i : Nat) : Int := ((q / 2 ^ (56 - 8 * i) % 256 : Nat) : Int)
def be8 (q : Nat) : List Int := (List.range 8).map (bE q)
def be8N (q i : Nat) : List Int := (List.range i).map (bE q) ++ List.replicate (8 - i) 0
def blkS (k : MS) (q : Nat) : List Int := mSum (mWr k (be8 q))
def nxB (s : SR) : List Int := if s.p % 32 = 0 ∨ s.m = false then blkS s.k (s.p / 32) else s.b
def nxS (s : SR) : SR := ⟨s.k, (s.p + 1) % 18446744073709551616, nxB s, true⟩
def nxV (s : SR) : Int := (nxB s).getD (s.p % 32) 0
def okR (s : SR) : Prop := okM s.k ∧ s.p < 18446744073709551616 ∧ isBytes s.b ∧ s.b.length = 32
def fitE (n : Int) : Int := if n < 0 then 1 else if n > 4096 then 2 else 0
def skS (s : SR) (n : Int) : SR := if fitE n = 0 then ⟨s.k, (s.p + n.toNat) % 18446744073709551616, s.b, false⟩ else s
def itS (s : SR) : Nat → SR
 | 0 => s
 | n + 1 => nxS (itS s n)
def itV (s : SR) (n : Nat) : List Int := (List.range n).map fun i => nxV (itS s i)
def bysR (s : SR) (n : Int) : D := if fitE n = 0 then .tup [.ints .u8 (itV s n.toNat), i64 0] else .tup [.ints .u8 [], i64 (fitE n)]
def bysS (s : SR) (n : Int) : SR := if fitE n = 0 then itS s n.toNat else s
def sr0 (k : List Int) (p : Nat) : SR := ⟨mNew k, p, List.replicate 32 0, false⟩
def sp92 : Go.Vg.Spec := ⟨fun ds => ∃ k, ∃ p : Nat, ds = [.ints .u8 k, u64 p] ∧ isB k, fun ds => .tup [stR (sr0 (intsOf (ds.headD default)) (numOf (ds.getD 1 default)).toNat)], true, [26, 73, 8000000]⟩
def sp40 : Go.Vg.Spec := ⟨fun ds => ∃ k, ds = [.ints .u8 k] ∧ isB k, fun ds => .tup [stR (sr0 (intsOf (ds.headD default)) 0)], true, [26, 8000000]⟩
def sp43 : Go.Vg.Spec := ⟨fun ds => ∃ s, ds = [.ref (stR s)], fun ds => u64 ((srOf (unR (ds.headD default))).p : Int), true, [71]⟩
def sp95 : Go.Vg.Spec := ⟨fun ds => ∃ s, ds = [stR s] ∧ okR s, fun ds => .tup [u8 (nxV (srOf (ds.headD default))), stR (nxS (srOf (ds.headD default)))], true, [9000000]⟩
def sp101 : Go.Vg.Spec := ⟨fun ds => ∃ n, ds = [i64 n], fun ds => i64 (fitE (numOf (ds.headD default))), true, [3]⟩
def sp44 : Go.Vg.Spec := ⟨fun ds => ∃ s n, ds = [stR s, i64 n] ∧ okR s, fun ds => .tup [i64 (fitE (numOf (ds.getD 1 default))), stR (skS (srOf (ds.headD default)) (numOf (ds.getD 1 default)))], true, [9000000, 3]⟩
def sp45 : Go.Vg.Spec := ⟨fun ds => ∃ s n, ds = [stR s, i64 n] ∧ okR s, fun ds => .tup [bysR (srOf (ds.headD default)) (numOf (ds.getD 1 default)), stR (bysS (srOf (ds.headD default)) (numOf (ds.getD 1 default)))], false, [9000000, 3]⟩
def c92 : Ctx := ⟨tab, lkS [(82, sp82)], [], []⟩
def c40 : Ctx := ⟨tab, lkS [(92, sp92)], [], []⟩
def c95 : Ctx := ⟨tab, lkS [(83, sp83), (84, sp84)], [], []⟩
def c44 : Ctx := ⟨tab, lkS [(101, sp101)], [], []⟩
def inv95 (s : SR) : Nat → Option Inv
 | 4 => some ⟨Nat, fun i => [(19, .d (i64 i))], fun i => [(3, .fix (.arr .u8 8 (be8N (s.p / 32) i)))], fun t => (slotN t 19).toNat, fun _ i => i ≤ 8, fun i => 8 - i⟩
 | 100002 => some ⟨Nat, fun _ => [], fun _ => [(1000, .fix (stR ⟨s.k, s.p, nxB s, true⟩))], fun _ => 0, fun _ _ => True, fun _ => 0⟩
 | _ => none
set_option maxRecDepth 100000 in
theorem vc92  (k : List Int) (p : Nat) (F : D)  :
    (owedNew c92 (fun _ => none) Tryd.f92 [.ints .u8 k, u64 p] F) = (
 True ∧
 True ∧
 (∃ (k_1 : List Int), [D.ints IntKind.u8 k] = [D.ints IntKind.u8 k_1] ∧ isB k_1) ∧
 True ∧
 (false = false ∧ ((0 : Nat) < (4 : Nat) ∧ Sk.st [Sk.st [Sk.arr (8 : Nat), Sk.one, Sk.arr (64 : Nat)], Sk.st [Sk.arr (8 : Nat), Sk.one, Sk.arr (64 : Nat)]] = Sk.st [Sk.st [Sk.arr (8 : Nat), Sk.one, Sk.arr (64 : Nat)], Sk.st [Sk.arr (8 : Nat), Sk.one, Sk.arr (64 : Nat)]]) ∧ false = false ∧ ((1 : Nat) < (4 : Nat) ∧ Sk.one = Sk.one) ∧ True) ∧
 (True ∧ false = false) ∧
 True ∧
 True ∧
 True ∧
 D.tup
 [D.st
 [D.st [D.st [D.arr IntKind.u32 (8 : Nat) (mNew k).i.h.l, D.val (Value.int IntKind.u64 (↑(mNew k).i.n : Int)), D.arr IntKind.u8 (64 : Nat) (mNew k).i.l], D.st [D.arr IntKind.u32 (8 : Nat) (mNew k).o.h.l, D.val (Value.int IntKind.u64 (↑(mNew k).o.n : Int)), D.arr IntKind.u8 (64 : Nat) (mNew k).o.l]], D.val (Value.int IntKind.u64 (↑p : Int)),
 D.arr IntKind.u8 (32 : Nat)
 [(0 : Int), (0 : Int), (0 : Int), (0 : Int), (0 : Int), (0 : Int), (0 : Int), (0 : Int), (0 : Int), (0 : Int), (0 : Int), (0 : Int), (0 : Int), (0 : Int), (0 : Int), (0 : Int), (0 : Int), (0 : Int), (0 : Int), (0 : Int), (0 : Int), (0 : Int), (0 : Int), (0 : Int), (0 : Int), (0 : Int), (0 : Int), (0 : Int), (0 : Int), (0 : Int), (0 : Int), (0 : Int)],
 D.val (Value.bool false)]] =
 F) := by kernel_rfl
set_option maxRecDepth 100000 in
theorem vc40  (k : List Int) (F : D)  :
    (owedNew c40 (fun _ => none) Tryd.f40 [.ints .u8 k] F) = (
 True ∧
 True ∧
 ((∃ (k_1 : List Int), ∃ (p : Nat), [D.ints IntKind.u8 k, D.val (Value.int IntKind.u64 (0 : Int))] = [D.ints IntKind.u8 k_1, D.val (Value.int IntKind.u64 (↑p : Int))] ∧ isB k_1) ∧ True) ∧
 True ∧
 True ∧
 True ∧
 D.tup
 [D.st
 [D.st [D.st [D.arr IntKind.u32 (8 : Nat) (mNew k).i.h.l, D.val (Value.int IntKind.u64 (↑(mNew k).i.n : Int)), D.arr IntKind.u8 (64 : Nat) (mNew k).i.l], D.st [D.arr IntKind.u32 (8 : Nat) (mNew k).o.h.l, D.val (Value.int IntKind.u64 (↑(mNew k).o.n : Int)), D.arr IntKind.u8 (64 : Nat) (mNew k).o.l]], D.val (Value.int IntKind.u64 (↑(0 : Nat) : Int)),
 D.arr IntKind.u8 (32 : Nat)
 [(0 : Int), (0 : Int), (0 : Int), (0 : Int), (0 : Int), (0 : Int), (0 : Int), (0 : Int), (0 : Int), (0 : Int), (0 : Int), (0 : Int), (0 : Int), (0 : Int), (0 : Int), (0 : Int), (0 : Int), (0 : Int), (0 : Int), (0 : Int), (0 : Int), (0 : Int), (0 : Int), (0 : Int), (0 : Int), (0 : Int), (0 : Int), (0 : Int), (0 : Int), (0 : Int), (0 : Int), (0 : Int)],
 D.val (Value.bool false)]] =
 F) := by kernel_rfl
set_option maxRecDepth 100000 in
theorem vc43  (s : SR) (F : D)  :
    (owed c0 (fun _ => none) Tryd.f43 [.ref (stR s)] F) = (
 True ∧
 True ∧
 True ∧
 (Sk.st [Sk.st [Sk.st [Sk.arr (8 : Nat), Sk.one, Sk.arr (64 : Nat)], Sk.st [Sk.arr (8 : Nat), Sk.one, Sk.arr (64 : Nat)]], Sk.one, Sk.arr (32 : Nat), Sk.one] = Sk.st [Sk.st [Sk.st [Sk.arr (8 : Nat), Sk.one, Sk.arr (64 : Nat)], Sk.st [Sk.arr (8 : Nat), Sk.one, Sk.arr (64 : Nat)]], Sk.one, Sk.arr (32 : Nat), Sk.one] ∧ (1 : Nat) < (4 : Nat)) ∧
 ((1 : Nat) ≠ (0 : Nat) ∧ (1 : Nat) = (1 : Nat) ∧ false = false) ∧ True ∧ (false = false ∧ True) ∧ D.val (Value.int IntKind.u64 (↑s.p : Int)) = F) := by kernel_rfl
set_option maxRecDepth 100000 in
theorem vc101  (n : Int) (F : D)  :
    (owed c0 (fun _ => none) Tryd.f101 [i64 n] F) = (
 True ∧
 True ∧
 True ∧
 True ∧
 match decide (n < (0 : Int)) with
 | true => True ∧ (false = false ∧ True) ∧ D.val (Value.int IntKind.i64 (1 : Int)) = F
 | false =>
  True ∧
  True ∧
  True ∧
  match decide (n > (4096 : Int)) with
  | true => True ∧ (false = false ∧ True) ∧ D.val (Value.int IntKind.i64 (2 : Int)) = F
  | false => True ∧ (false = false ∧ True) ∧ D.val (Value.int IntKind.i64 (0 : Int)) = F) := by kernel_rfl
set_option maxRecDepth 100000 in
theorem vc44  (s : SR) (n : Int) (F : D)  :
    (owedIo c44 (fun _ => none) Tryd.f44 (stR s) [i64 n] F) = (
 True ∧
 True ∧
 (∃ (n_1 : Int), [D.val (Value.int IntKind.i64 n)] = [D.val (Value.int IntKind.i64 n_1)]) ∧
 True ∧
 True ∧
 True ∧
 match fitE n != (0 : Int) with
 | true =>
  True ∧
  True ∧
  (false = false ∧ True) ∧
  Sk.st [Sk.st [Sk.st [Sk.arr (8 : Nat), Sk.one, Sk.arr (64 : Nat)], Sk.st [Sk.arr (8 : Nat), Sk.one, Sk.arr (64 : Nat)]], Sk.one, Sk.arr (32 : Nat), Sk.one] = Sk.st [Sk.st [Sk.st [Sk.arr (8 : Nat), Sk.one, Sk.arr (64 : Nat)], Sk.st [Sk.arr (8 : Nat), Sk.one, Sk.arr (64 : Nat)]], Sk.one, Sk.arr (32 : Nat), Sk.one] ∧
  D.tup
  [D.val (Value.int IntKind.i64 (fitE n)),
  D.st
  [D.st [D.st [D.arr IntKind.u32 (8 : Nat) s.k.i.h.l, D.val (Value.int IntKind.u64 (↑s.k.i.n : Int)), D.arr IntKind.u8 (64 : Nat) s.k.i.l], D.st [D.arr IntKind.u32 (8 : Nat) s.k.o.h.l, D.val (Value.int IntKind.u64 (↑s.k.o.n : Int)), D.arr IntKind.u8 (64 : Nat) s.k.o.l]], D.val (Value.int IntKind.u64 (↑s.p : Int)), D.arr IntKind.u8 (32 : Nat) s.b,
  D.val (Value.bool s.m)]] =
  F
 | false =>
  True ∧
  True ∧
  (Sk.st [Sk.st [Sk.st [Sk.arr (8 : Nat), Sk.one, Sk.arr (64 : Nat)], Sk.st [Sk.arr (8 : Nat), Sk.one, Sk.arr (64 : Nat)]], Sk.one, Sk.arr (32 : Nat), Sk.one] = Sk.st [Sk.st [Sk.st [Sk.arr (8 : Nat), Sk.one, Sk.arr (64 : Nat)], Sk.st [Sk.arr (8 : Nat), Sk.one, Sk.arr (64 : Nat)]], Sk.one, Sk.arr (32 : Nat), Sk.one] ∧ (1 : Nat) < (4 : Nat)) ∧
  ((1 : Nat) ≠ (0 : Nat) ∧ (1 : Nat) = (1 : Nat) ∧ false = false) ∧
  True ∧
  True ∧
  True ∧
  True ∧
  (Sk.st [Sk.st [Sk.st [Sk.arr (8 : Nat), Sk.one, Sk.arr (64 : Nat)], Sk.st [Sk.arr (8 : Nat), Sk.one, Sk.arr (64 : Nat)]], Sk.one, Sk.arr (32 : Nat), Sk.one] = Sk.st [Sk.st [Sk.st [Sk.arr (8 : Nat), Sk.one, Sk.arr (64 : Nat)], Sk.st [Sk.arr (8 : Nat), Sk.one, Sk.arr (64 : Nat)]], Sk.one, Sk.arr (32 : Nat), Sk.one] ∧ (1 : Nat) < (4 : Nat)) ∧
  (((1 : Nat) < (4 : Nat) ∧ Sk.one = Sk.one) ∧ (1 : Nat) ≠ (0 : Nat) ∧ (1 : Nat) = (1 : Nat) ∧ false = false) ∧
  True ∧
  True ∧
  (Sk.st [Sk.st [Sk.st [Sk.arr (8 : Nat), Sk.one, Sk.arr (64 : Nat)], Sk.st [Sk.arr (8 : Nat), Sk.one, Sk.arr (64 : Nat)]], Sk.one, Sk.arr (32 : Nat), Sk.one] = Sk.st [Sk.st [Sk.st [Sk.arr (8 : Nat), Sk.one, Sk.arr (64 : Nat)], Sk.st [Sk.arr (8 : Nat), Sk.one, Sk.arr (64 : Nat)]], Sk.one, Sk.arr (32 : Nat), Sk.one] ∧ (3 : Nat) < (4 : Nat)) ∧
  (((3 : Nat) < (4 : Nat) ∧ Sk.one = Sk.one) ∧ (1 : Nat) ≠ (0 : Nat) ∧ (1 : Nat) = (1 : Nat) ∧ false = false) ∧
  True ∧
  (false = false ∧ True) ∧
  Sk.st [Sk.st [Sk.st [Sk.arr (8 : Nat), Sk.one, Sk.arr (64 : Nat)], Sk.st [Sk.arr (8 : Nat), Sk.one, Sk.arr (64 : Nat)]], Sk.one, Sk.arr (32 : Nat), Sk.one] = Sk.st [Sk.st [Sk.st [Sk.arr (8 : Nat), Sk.one, Sk.arr (64 : Nat)], Sk.st [Sk.arr (8 : Nat), Sk.one, Sk.arr (64 : Nat)]], Sk.one, Sk.arr (32 : Nat), Sk.one] ∧
  D.tup
  [D.val (Value.int IntKind.i64 (0 : Int)),
  D.st
  [D.st [D.st [D.arr IntKind.u32 (8 : Nat) s.k.i.h.l, D.val (Value.int IntKind.u64 (↑s.k.i.n : Int)), D.arr IntKind.u8 (64 : Nat) s.k.i.l], D.st [D.arr IntKind.u32 (8 : Nat) s.k.o.h.l, D.val (Value.int IntKind.u64 (↑s.k.o.n : Int)), D.arr IntKind.u8 (64 : Nat) s.k.o.l]],
  D.val (Value.int IntKind.u64 (IntKind.u64.wrap ((↑s.p : Int) + IntKind.u64.wrap n))), D.arr IntKind.u8 (32 : Nat) s.b, D.val (Value.bool false)]] =
  F) := by kernel_rfl
set_option maxRecDepth 100000 in
theorem vc95  (s : SR) (F : D)  :
    (owedIo c95 (inv95 s) Tryd.f95 (stR s) [] F) = (
 True ∧
 True ∧
 True ∧
 (Sk.st [Sk.st [Sk.st [Sk.arr (8 : Nat), Sk.one, Sk.arr (64 : Nat)], Sk.st [Sk.arr (8 : Nat), Sk.one, Sk.arr (64 : Nat)]], Sk.one, Sk.arr (32 : Nat), Sk.one] = Sk.st [Sk.st [Sk.st [Sk.arr (8 : Nat), Sk.one, Sk.arr (64 : Nat)], Sk.st [Sk.arr (8 : Nat), Sk.one, Sk.arr (64 : Nat)]], Sk.one, Sk.arr (32 : Nat), Sk.one] ∧ (1 : Nat) < (4 : Nat)) ∧
 ((1 : Nat) ≠ (0 : Nat) ∧ (1 : Nat) = (1 : Nat) ∧ false = false) ∧
 (32 : Int) ≠ (0 : Int) ∧
 True ∧
 True ∧
 match (↑s.p : Int).tmod (32 : Int) == (0 : Int) with
 | true =>
  True ∧
  ((True ∧ (8 : Nat) ≠ (0 : Nat)) ∧
  True ∧
  (((AV.d (D.val (Value.int IntKind.i64 (0 : Int))) = AV.d (D.val (Value.int IntKind.i64 (↑(Int.toNat (0 : Int)) : Int))) ∧ True) ∧
  (some (Blk.fix (D.arr IntKind.u8 (8 : Nat) [(0 : Int), (0 : Int), (0 : Int), (0 : Int), (0 : Int), (0 : Int), (0 : Int), (0 : Int)])) = some (Blk.fix (D.arr IntKind.u8 (8 : Nat) (be8N (s.p / (32 : Nat)) (Int.toNat (0 : Int))))) ∧
  sm
  (some
  (Blk.fix
  (D.st
  [D.st [D.st [D.arr IntKind.u32 (8 : Nat) s.k.i.h.l, D.val (Value.int IntKind.u64 (↑s.k.i.n : Int)), D.arr IntKind.u8 (64 : Nat) s.k.i.l], D.st [D.arr IntKind.u32 (8 : Nat) s.k.o.h.l, D.val (Value.int IntKind.u64 (↑s.k.o.n : Int)), D.arr IntKind.u8 (64 : Nat) s.k.o.l]], D.val (Value.int IntKind.u64 (↑s.p : Int)), D.arr IntKind.u8 (32 : Nat) s.b,
  D.val (Value.bool s.m)]))) ∧
  True) ∧
  true = true) ∧
  Int.toNat (0 : Int) ≤ (8 : Nat)) ∧
  ∀ (x : Nat),
  x ≤ (8 : Nat) →
  true = true ∧
  True ∧
  match decide ((↑x : Int) < (8 : Int)) with
  | true =>
   True ∧
   True ∧
   True ∧
   True ∧
   True ∧
   (Sk.st [Sk.st [Sk.st [Sk.arr (8 : Nat), Sk.one, Sk.arr (64 : Nat)], Sk.st [Sk.arr (8 : Nat), Sk.one, Sk.arr (64 : Nat)]], Sk.one, Sk.arr (32 : Nat), Sk.one] = Sk.st [Sk.st [Sk.st [Sk.arr (8 : Nat), Sk.one, Sk.arr (64 : Nat)], Sk.st [Sk.arr (8 : Nat), Sk.one, Sk.arr (64 : Nat)]], Sk.one, Sk.arr (32 : Nat), Sk.one] ∧ (1 : Nat) < (4 : Nat)) ∧
   ((1 : Nat) ≠ (0 : Nat) ∧ (1 : Nat) = (1 : Nat) ∧ false = false) ∧
   (32 : Int) ≠ (0 : Int) ∧
   True ∧
   True ∧
   True ∧
   True ∧
   (0 : Int) ≤ IntKind.u64.wrap (IntKind.i64.wrap ((56 : Int) - IntKind.i64.wrap ((8 : Int) * (↑x : Int)))) ∧
   True ∧
   ((0 : Int) ≤ (↑x : Int) ∧ (↑x : Int) < (↑(8 : Nat) : Int) ∧ (8 : Nat) = (8 : Nat) ∧ (1 : Nat) = (1 : Nat)) ∧
   (((↑x : Int).toNat < (8 : Nat) ∧ ([] : List Nat) = [] ∧ true = true) ∧ (1 : Nat) ≠ (0 : Nat) ∧ (1 : Nat) = (1 : Nat) ∧ false = false) ∧
   True ∧
   True ∧
   ((AV.d (D.val (Value.int IntKind.i64 (IntKind.i64.wrap ((↑x : Int) + (1 : Int))))) = AV.d (D.val (Value.int IntKind.i64 (↑(IntKind.i64.wrap ((↑x : Int) + (1 : Int))).toNat : Int))) ∧ True) ∧
   (some (Blk.fix (D.arr IntKind.u8 (8 : Nat) ((be8N (s.p / (32 : Nat)) x).set (↑x : Int).toNat (IntKind.u8.wrap (ishr IntKind.u64 (IntKind.u64.wrap ((↑s.p : Int).tdiv (32 : Int))) (IntKind.u64.wrap (IntKind.i64.wrap ((56 : Int) - IntKind.i64.wrap ((8 : Int) * (↑x : Int)))))))))) =
   some (Blk.fix (D.arr IntKind.u8 (8 : Nat) (be8N (s.p / (32 : Nat)) (IntKind.i64.wrap ((↑x : Int) + (1 : Int))).toNat))) ∧
   sm
   (some
   (Blk.fix
   (D.st
   [D.st [D.st [D.arr IntKind.u32 (8 : Nat) s.k.i.h.l, D.val (Value.int IntKind.u64 (↑s.k.i.n : Int)), D.arr IntKind.u8 (64 : Nat) s.k.i.l], D.st [D.arr IntKind.u32 (8 : Nat) s.k.o.h.l, D.val (Value.int IntKind.u64 (↑s.k.o.n : Int)), D.arr IntKind.u8 (64 : Nat) s.k.o.l]],
   D.val (Value.int IntKind.u64 (↑s.p : Int)), D.arr IntKind.u8 (32 : Nat) s.b, D.val (Value.bool s.m)]))) ∧
   True) ∧
   true = true) ∧
   (IntKind.i64.wrap ((↑x : Int) + (1 : Int))).toNat ≤ (8 : Nat) ∧ (8 : Nat) - (IntKind.i64.wrap ((↑x : Int) + (1 : Int))).toNat < (8 : Nat) - x
  | false =>
   True ∧
   True ∧
   True ∧
   True ∧
   (Sk.st [Sk.st [Sk.st [Sk.arr (8 : Nat), Sk.one, Sk.arr (64 : Nat)], Sk.st [Sk.arr (8 : Nat), Sk.one, Sk.arr (64 : Nat)]], Sk.one, Sk.arr (32 : Nat), Sk.one] = Sk.st [Sk.st [Sk.st [Sk.arr (8 : Nat), Sk.one, Sk.arr (64 : Nat)], Sk.st [Sk.arr (8 : Nat), Sk.one, Sk.arr (64 : Nat)]], Sk.one, Sk.arr (32 : Nat), Sk.one] ∧ (0 : Nat) < (4 : Nat)) ∧
   ((146 : Nat) ≠ (0 : Nat) ∧ (146 : Nat) = (146 : Nat) ∧ true = true) ∧
   ((0 : Int) ≤ (0 : Int) ∧ (0 : Int) ≤ (↑(8 : Nat) : Int) ∧ (↑(8 : Nat) : Int) ≤ (↑(8 : Nat) : Int) ∧ (8 : Nat) = (8 : Nat) ∧ (1 : Nat) = (1 : Nat)) ∧
   (∃ (s_1 : MS),
   ∃ (p : List Int),
   [D.st [D.st [D.arr IntKind.u32 (8 : Nat) s.k.i.h.l, D.val (Value.int IntKind.u64 (↑s.k.i.n : Int)), D.arr IntKind.u8 (64 : Nat) s.k.i.l], D.st [D.arr IntKind.u32 (8 : Nat) s.k.o.h.l, D.val (Value.int IntKind.u64 (↑s.k.o.n : Int)), D.arr IntKind.u8 (64 : Nat) s.k.o.l]],
   D.ints IntKind.u8 (List.take ((↑(8 : Nat) : Int).toNat - Int.toNat (0 : Int)) (List.drop (0 : Nat) (be8N (s.p / (32 : Nat)) x)))] =
   [D.st [D.st [D.arr IntKind.u32 (8 : Nat) s_1.i.h.l, D.val (Value.int IntKind.u64 (↑s_1.i.n : Int)), D.arr IntKind.u8 (64 : Nat) s_1.i.l], D.st [D.arr IntKind.u32 (8 : Nat) s_1.o.h.l, D.val (Value.int IntKind.u64 (↑s_1.o.n : Int)), D.arr IntKind.u8 (64 : Nat) s_1.o.l]], D.ints IntKind.u8 p] ∧
   okM s_1 ∧ isB p) ∧
   (∃ (s_1 : MS),
   [D.st
   [D.st
   [D.arr IntKind.u32 (8 : Nat)
   (mWr (ofM (D.st [D.st [D.arr IntKind.u32 (8 : Nat) s.k.i.h.l, D.val (Value.int IntKind.u64 (↑s.k.i.n : Int)), D.arr IntKind.u8 (64 : Nat) s.k.i.l], D.st [D.arr IntKind.u32 (8 : Nat) s.k.o.h.l, D.val (Value.int IntKind.u64 (↑s.k.o.n : Int)), D.arr IntKind.u8 (64 : Nat) s.k.o.l]]))
   (List.take ((↑(8 : Nat) : Int).toNat - Int.toNat (0 : Int)) (List.drop (0 : Nat) (be8N (s.p / (32 : Nat)) x)))).i.h.l,
   D.val
   (Value.int IntKind.u64
   (↑(mWr (ofM (D.st [D.st [D.arr IntKind.u32 (8 : Nat) s.k.i.h.l, D.val (Value.int IntKind.u64 (↑s.k.i.n : Int)), D.arr IntKind.u8 (64 : Nat) s.k.i.l], D.st [D.arr IntKind.u32 (8 : Nat) s.k.o.h.l, D.val (Value.int IntKind.u64 (↑s.k.o.n : Int)), D.arr IntKind.u8 (64 : Nat) s.k.o.l]]))
   (List.take ((↑(8 : Nat) : Int).toNat - Int.toNat (0 : Int)) (List.drop (0 : Nat) (be8N (s.p / (32 : Nat)) x)))).i.n :
   Int)),
   D.arr IntKind.u8 (64 : Nat)
   (mWr (ofM (D.st [D.st [D.arr IntKind.u32 (8 : Nat) s.k.i.h.l, D.val (Value.int IntKind.u64 (↑s.k.i.n : Int)), D.arr IntKind.u8 (64 : Nat) s.k.i.l], D.st [D.arr IntKind.u32 (8 : Nat) s.k.o.h.l, D.val (Value.int IntKind.u64 (↑s.k.o.n : Int)), D.arr IntKind.u8 (64 : Nat) s.k.o.l]]))
   (List.take ((↑(8 : Nat) : Int).toNat - Int.toNat (0 : Int)) (List.drop (0 : Nat) (be8N (s.p / (32 : Nat)) x)))).i.l],
   D.st
   [D.arr IntKind.u32 (8 : Nat)
   (mWr (ofM (D.st [D.st [D.arr IntKind.u32 (8 : Nat) s.k.i.h.l, D.val (Value.int IntKind.u64 (↑s.k.i.n : Int)), D.arr IntKind.u8 (64 : Nat) s.k.i.l], D.st [D.arr IntKind.u32 (8 : Nat) s.k.o.h.l, D.val (Value.int IntKind.u64 (↑s.k.o.n : Int)), D.arr IntKind.u8 (64 : Nat) s.k.o.l]]))
   (List.take ((↑(8 : Nat) : Int).toNat - Int.toNat (0 : Int)) (List.drop (0 : Nat) (be8N (s.p / (32 : Nat)) x)))).o.h.l,
   D.val
   (Value.int IntKind.u64
   (↑(mWr (ofM (D.st [D.st [D.arr IntKind.u32 (8 : Nat) s.k.i.h.l, D.val (Value.int IntKind.u64 (↑s.k.i.n : Int)), D.arr IntKind.u8 (64 : Nat) s.k.i.l], D.st [D.arr IntKind.u32 (8 : Nat) s.k.o.h.l, D.val (Value.int IntKind.u64 (↑s.k.o.n : Int)), D.arr IntKind.u8 (64 : Nat) s.k.o.l]]))
   (List.take ((↑(8 : Nat) : Int).toNat - Int.toNat (0 : Int)) (List.drop (0 : Nat) (be8N (s.p / (32 : Nat)) x)))).o.n :
   Int)),
   D.arr IntKind.u8 (64 : Nat)
   (mWr (ofM (D.st [D.st [D.arr IntKind.u32 (8 : Nat) s.k.i.h.l, D.val (Value.int IntKind.u64 (↑s.k.i.n : Int)), D.arr IntKind.u8 (64 : Nat) s.k.i.l], D.st [D.arr IntKind.u32 (8 : Nat) s.k.o.h.l, D.val (Value.int IntKind.u64 (↑s.k.o.n : Int)), D.arr IntKind.u8 (64 : Nat) s.k.o.l]]))
   (List.take ((↑(8 : Nat) : Int).toNat - Int.toNat (0 : Int)) (List.drop (0 : Nat) (be8N (s.p / (32 : Nat)) x)))).o.l]]] =
   [D.st [D.st [D.arr IntKind.u32 (8 : Nat) s_1.i.h.l, D.val (Value.int IntKind.u64 (↑s_1.i.n : Int)), D.arr IntKind.u8 (64 : Nat) s_1.i.l], D.st [D.arr IntKind.u32 (8 : Nat) s_1.o.h.l, D.val (Value.int IntKind.u64 (↑s_1.o.n : Int)), D.arr IntKind.u8 (64 : Nat) s_1.o.l]]] ∧
   okM s_1) ∧
   True ∧
   (Sk.st [Sk.st [Sk.st [Sk.arr (8 : Nat), Sk.one, Sk.arr (64 : Nat)], Sk.st [Sk.arr (8 : Nat), Sk.one, Sk.arr (64 : Nat)]], Sk.one, Sk.arr (32 : Nat), Sk.one] = Sk.st [Sk.st [Sk.st [Sk.arr (8 : Nat), Sk.one, Sk.arr (64 : Nat)], Sk.st [Sk.arr (8 : Nat), Sk.one, Sk.arr (64 : Nat)]], Sk.one, Sk.arr (32 : Nat), Sk.one] ∧
   (2 : Nat) < (4 : Nat)) ∧
   (((2 : Nat) < (4 : Nat) ∧ Sk.arr (32 : Nat) = Sk.arr (32 : Nat)) ∧ (32 : Nat) ≠ (0 : Nat) ∧ (32 : Nat) = (32 : Nat) ∧ false = false) ∧
   True ∧
   (Sk.st [Sk.st [Sk.st [Sk.arr (8 : Nat), Sk.one, Sk.arr (64 : Nat)], Sk.st [Sk.arr (8 : Nat), Sk.one, Sk.arr (64 : Nat)]], Sk.one, Sk.arr (32 : Nat), Sk.one] = Sk.st [Sk.st [Sk.st [Sk.arr (8 : Nat), Sk.one, Sk.arr (64 : Nat)], Sk.st [Sk.arr (8 : Nat), Sk.one, Sk.arr (64 : Nat)]], Sk.one, Sk.arr (32 : Nat), Sk.one] ∧
   (3 : Nat) < (4 : Nat)) ∧
   (((3 : Nat) < (4 : Nat) ∧ Sk.one = Sk.one) ∧ (1 : Nat) ≠ (0 : Nat) ∧ (1 : Nat) = (1 : Nat) ∧ false = false) ∧
   (True ∧
   (some
   (Blk.fix
   (D.st
   [D.st [D.st [D.arr IntKind.u32 (8 : Nat) s.k.i.h.l, D.val (Value.int IntKind.u64 (↑s.k.i.n : Int)), D.arr IntKind.u8 (64 : Nat) s.k.i.l], D.st [D.arr IntKind.u32 (8 : Nat) s.k.o.h.l, D.val (Value.int IntKind.u64 (↑s.k.o.n : Int)), D.arr IntKind.u8 (64 : Nat) s.k.o.l]], D.val (Value.int IntKind.u64 (↑s.p : Int)),
   D.arr IntKind.u8 (32 : Nat)
   (mSum
   (ofM
   (D.st
   [D.st
   [D.arr IntKind.u32 (8 : Nat)
   (mWr (ofM (D.st [D.st [D.arr IntKind.u32 (8 : Nat) s.k.i.h.l, D.val (Value.int IntKind.u64 (↑s.k.i.n : Int)), D.arr IntKind.u8 (64 : Nat) s.k.i.l], D.st [D.arr IntKind.u32 (8 : Nat) s.k.o.h.l, D.val (Value.int IntKind.u64 (↑s.k.o.n : Int)), D.arr IntKind.u8 (64 : Nat) s.k.o.l]]))
   (List.take ((↑(8 : Nat) : Int).toNat - Int.toNat (0 : Int)) (List.drop (0 : Nat) (be8N (s.p / (32 : Nat)) x)))).i.h.l,
   D.val
   (Value.int IntKind.u64
   (↑(mWr (ofM (D.st [D.st [D.arr IntKind.u32 (8 : Nat) s.k.i.h.l, D.val (Value.int IntKind.u64 (↑s.k.i.n : Int)), D.arr IntKind.u8 (64 : Nat) s.k.i.l], D.st [D.arr IntKind.u32 (8 : Nat) s.k.o.h.l, D.val (Value.int IntKind.u64 (↑s.k.o.n : Int)), D.arr IntKind.u8 (64 : Nat) s.k.o.l]]))
   (List.take ((↑(8 : Nat) : Int).toNat - Int.toNat (0 : Int)) (List.drop (0 : Nat) (be8N (s.p / (32 : Nat)) x)))).i.n :
   Int)),
   D.arr IntKind.u8 (64 : Nat)
   (mWr (ofM (D.st [D.st [D.arr IntKind.u32 (8 : Nat) s.k.i.h.l, D.val (Value.int IntKind.u64 (↑s.k.i.n : Int)), D.arr IntKind.u8 (64 : Nat) s.k.i.l], D.st [D.arr IntKind.u32 (8 : Nat) s.k.o.h.l, D.val (Value.int IntKind.u64 (↑s.k.o.n : Int)), D.arr IntKind.u8 (64 : Nat) s.k.o.l]]))
   (List.take ((↑(8 : Nat) : Int).toNat - Int.toNat (0 : Int)) (List.drop (0 : Nat) (be8N (s.p / (32 : Nat)) x)))).i.l],
   D.st
   [D.arr IntKind.u32 (8 : Nat)
   (mWr (ofM (D.st [D.st [D.arr IntKind.u32 (8 : Nat) s.k.i.h.l, D.val (Value.int IntKind.u64 (↑s.k.i.n : Int)), D.arr IntKind.u8 (64 : Nat) s.k.i.l], D.st [D.arr IntKind.u32 (8 : Nat) s.k.o.h.l, D.val (Value.int IntKind.u64 (↑s.k.o.n : Int)), D.arr IntKind.u8 (64 : Nat) s.k.o.l]]))
   (List.take ((↑(8 : Nat) : Int).toNat - Int.toNat (0 : Int)) (List.drop (0 : Nat) (be8N (s.p / (32 : Nat)) x)))).o.h.l,
   D.val
   (Value.int IntKind.u64
   (↑(mWr (ofM (D.st [D.st [D.arr IntKind.u32 (8 : Nat) s.k.i.h.l, D.val (Value.int IntKind.u64 (↑s.k.i.n : Int)), D.arr IntKind.u8 (64 : Nat) s.k.i.l], D.st [D.arr IntKind.u32 (8 : Nat) s.k.o.h.l, D.val (Value.int IntKind.u64 (↑s.k.o.n : Int)), D.arr IntKind.u8 (64 : Nat) s.k.o.l]]))
   (List.take ((↑(8 : Nat) : Int).toNat - Int.toNat (0 : Int)) (List.drop (0 : Nat) (be8N (s.p / (32 : Nat)) x)))).o.n :
   Int)),
   D.arr IntKind.u8 (64 : Nat)
   (mWr (ofM (D.st [D.st [D.arr IntKind.u32 (8 : Nat) s.k.i.h.l, D.val (Value.int IntKind.u64 (↑s.k.i.n : Int)), D.arr IntKind.u8 (64 : Nat) s.k.i.l], D.st [D.arr IntKind.u32 (8 : Nat) s.k.o.h.l, D.val (Value.int IntKind.u64 (↑s.k.o.n : Int)), D.arr IntKind.u8 (64 : Nat) s.k.o.l]]))
   (List.take ((↑(8 : Nat) : Int).toNat - Int.toNat (0 : Int)) (List.drop (0 : Nat) (be8N (s.p / (32 : Nat)) x)))).o.l]]))),
   D.val (Value.bool true)])) =
   some
   (Blk.fix
   (D.st
   [D.st [D.st [D.arr IntKind.u32 (8 : Nat) s.k.i.h.l, D.val (Value.int IntKind.u64 (↑s.k.i.n : Int)), D.arr IntKind.u8 (64 : Nat) s.k.i.l], D.st [D.arr IntKind.u32 (8 : Nat) s.k.o.h.l, D.val (Value.int IntKind.u64 (↑s.k.o.n : Int)), D.arr IntKind.u8 (64 : Nat) s.k.o.l]], D.val (Value.int IntKind.u64 (↑s.p : Int)),
   D.arr IntKind.u8 (32 : Nat) (nxB s), D.val (Value.bool true)])) ∧
   True) ∧
   true = true) ∧
   True) ∧
  ∀ (z : Nat),
  True →
  true = true ∧
  True ∧
  True ∧
  True ∧
  (Sk.st [Sk.st [Sk.st [Sk.arr (8 : Nat), Sk.one, Sk.arr (64 : Nat)], Sk.st [Sk.arr (8 : Nat), Sk.one, Sk.arr (64 : Nat)]], Sk.one, Sk.arr (32 : Nat), Sk.one] = Sk.st [Sk.st [Sk.st [Sk.arr (8 : Nat), Sk.one, Sk.arr (64 : Nat)], Sk.st [Sk.arr (8 : Nat), Sk.one, Sk.arr (64 : Nat)]], Sk.one, Sk.arr (32 : Nat), Sk.one] ∧ (1 : Nat) < (4 : Nat)) ∧
  ((1 : Nat) ≠ (0 : Nat) ∧ (1 : Nat) = (1 : Nat) ∧ false = false) ∧
  (32 : Int) ≠ (0 : Int) ∧
  True ∧
  (Sk.st [Sk.st [Sk.st [Sk.arr (8 : Nat), Sk.one, Sk.arr (64 : Nat)], Sk.st [Sk.arr (8 : Nat), Sk.one, Sk.arr (64 : Nat)]], Sk.one, Sk.arr (32 : Nat), Sk.one] = Sk.st [Sk.st [Sk.st [Sk.arr (8 : Nat), Sk.one, Sk.arr (64 : Nat)], Sk.st [Sk.arr (8 : Nat), Sk.one, Sk.arr (64 : Nat)]], Sk.one, Sk.arr (32 : Nat), Sk.one] ∧ (2 : Nat) < (4 : Nat)) ∧
  ((0 : Int) ≤ (↑s.p : Int).tmod (32 : Int) ∧ (↑s.p : Int).tmod (32 : Int) < (↑(32 : Nat) : Int) ∧ (32 : Nat) = (32 : Nat) ∧ (1 : Nat) = (1 : Nat)) ∧
  ((1 : Nat) ≠ (0 : Nat) ∧ (1 : Nat) = (1 : Nat) ∧ false = false) ∧
  True ∧
  True ∧
  True ∧
  (Sk.st [Sk.st [Sk.st [Sk.arr (8 : Nat), Sk.one, Sk.arr (64 : Nat)], Sk.st [Sk.arr (8 : Nat), Sk.one, Sk.arr (64 : Nat)]], Sk.one, Sk.arr (32 : Nat), Sk.one] = Sk.st [Sk.st [Sk.st [Sk.arr (8 : Nat), Sk.one, Sk.arr (64 : Nat)], Sk.st [Sk.arr (8 : Nat), Sk.one, Sk.arr (64 : Nat)]], Sk.one, Sk.arr (32 : Nat), Sk.one] ∧ (1 : Nat) < (4 : Nat)) ∧
  ((1 : Nat) ≠ (0 : Nat) ∧ (1 : Nat) = (1 : Nat) ∧ false = false) ∧
  True ∧
  True ∧
  (Sk.st [Sk.st [Sk.st [Sk.arr (8 : Nat), Sk.one, Sk.arr (64 : Nat)], Sk.st [Sk.arr (8 : Nat), Sk.one, Sk.arr (64 : Nat)]], Sk.one, Sk.arr (32 : Nat), Sk.one] = Sk.st [Sk.st [Sk.st [Sk.arr (8 : Nat), Sk.one, Sk.arr (64 : Nat)], Sk.st [Sk.arr (8 : Nat), Sk.one, Sk.arr (64 : Nat)]], Sk.one, Sk.arr (32 : Nat), Sk.one] ∧
  (1 : Nat) < (4 : Nat)) ∧
  (((1 : Nat) < (4 : Nat) ∧ Sk.one = Sk.one) ∧ (1 : Nat) ≠ (0 : Nat) ∧ (1 : Nat) = (1 : Nat) ∧ false = false) ∧
  True ∧
  True ∧
  (false = false ∧ True) ∧
  Sk.st [Sk.st [Sk.st [Sk.arr (8 : Nat), Sk.one, Sk.arr (64 : Nat)], Sk.st [Sk.arr (8 : Nat), Sk.one, Sk.arr (64 : Nat)]], Sk.one, Sk.arr (32 : Nat), Sk.one] = Sk.st [Sk.st [Sk.st [Sk.arr (8 : Nat), Sk.one, Sk.arr (64 : Nat)], Sk.st [Sk.arr (8 : Nat), Sk.one, Sk.arr (64 : Nat)]], Sk.one, Sk.arr (32 : Nat), Sk.one] ∧
  D.tup
  [D.val (Value.int IntKind.u8 ((nxB s).getD ((↑s.p : Int).tmod (32 : Int)).toNat (0 : Int))),
  D.st
  [D.st [D.st [D.arr IntKind.u32 (8 : Nat) s.k.i.h.l, D.val (Value.int IntKind.u64 (↑s.k.i.n : Int)), D.arr IntKind.u8 (64 : Nat) s.k.i.l], D.st [D.arr IntKind.u32 (8 : Nat) s.k.o.h.l, D.val (Value.int IntKind.u64 (↑s.k.o.n : Int)), D.arr IntKind.u8 (64 : Nat) s.k.o.l]],
  D.val (Value.int IntKind.u64 (IntKind.u64.wrap ((↑s.p : Int) + (1 : Int)))), D.arr IntKind.u8 (32 : Nat) (nxB s), D.val (Value.bool true)]] =
  F
 | false =>
  True ∧
  True ∧
  (Sk.st [Sk.st [Sk.st [Sk.arr (8 : Nat), Sk.one, Sk.arr (64 : Nat)], Sk.st [Sk.arr (8 : Nat), Sk.one, Sk.arr (64 : Nat)]], Sk.one, Sk.arr (32 : Nat), Sk.one] = Sk.st [Sk.st [Sk.st [Sk.arr (8 : Nat), Sk.one, Sk.arr (64 : Nat)], Sk.st [Sk.arr (8 : Nat), Sk.one, Sk.arr (64 : Nat)]], Sk.one, Sk.arr (32 : Nat), Sk.one] ∧ (3 : Nat) < (4 : Nat)) ∧
  (((1 : Nat) ≠ (0 : Nat) ∧ (1 : Nat) = (1 : Nat) ∧ false = false) ∧ D.val (Value.bool s.m) = D.val (Value.bool s.m)) ∧
  True ∧
  True ∧
  (match !s.m with
  | true =>
   (True ∧ (8 : Nat) ≠ (0 : Nat)) ∧
   True ∧
   (((AV.d (D.val (Value.int IntKind.i64 (0 : Int))) = AV.d (D.val (Value.int IntKind.i64 (↑(Int.toNat (0 : Int)) : Int))) ∧ True) ∧
   (some (Blk.fix (D.arr IntKind.u8 (8 : Nat) [(0 : Int), (0 : Int), (0 : Int), (0 : Int), (0 : Int), (0 : Int), (0 : Int), (0 : Int)])) = some (Blk.fix (D.arr IntKind.u8 (8 : Nat) (be8N (s.p / (32 : Nat)) (Int.toNat (0 : Int))))) ∧
   sm
   (some
   (Blk.fix
   (D.st
   [D.st [D.st [D.arr IntKind.u32 (8 : Nat) s.k.i.h.l, D.val (Value.int IntKind.u64 (↑s.k.i.n : Int)), D.arr IntKind.u8 (64 : Nat) s.k.i.l], D.st [D.arr IntKind.u32 (8 : Nat) s.k.o.h.l, D.val (Value.int IntKind.u64 (↑s.k.o.n : Int)), D.arr IntKind.u8 (64 : Nat) s.k.o.l]], D.val (Value.int IntKind.u64 (↑s.p : Int)),
   D.arr IntKind.u8 (32 : Nat) s.b, D.val (Value.bool s.m)]))) ∧
   True) ∧
   true = true) ∧
   Int.toNat (0 : Int) ≤ (8 : Nat)) ∧
   ∀ (x : Nat),
   x ≤ (8 : Nat) →
   true = true ∧
   True ∧
   match decide ((↑x : Int) < (8 : Int)) with
   | true =>
    True ∧
    True ∧
    True ∧
    True ∧
    True ∧
    (Sk.st [Sk.st [Sk.st [Sk.arr (8 : Nat), Sk.one, Sk.arr (64 : Nat)], Sk.st [Sk.arr (8 : Nat), Sk.one, Sk.arr (64 : Nat)]], Sk.one, Sk.arr (32 : Nat), Sk.one] = Sk.st [Sk.st [Sk.st [Sk.arr (8 : Nat), Sk.one, Sk.arr (64 : Nat)], Sk.st [Sk.arr (8 : Nat), Sk.one, Sk.arr (64 : Nat)]], Sk.one, Sk.arr (32 : Nat), Sk.one] ∧
    (1 : Nat) < (4 : Nat)) ∧
    ((1 : Nat) ≠ (0 : Nat) ∧ (1 : Nat) = (1 : Nat) ∧ false = false) ∧
    (32 : Int) ≠ (0 : Int) ∧
    True ∧
    True ∧
    True ∧
    True ∧
    (0 : Int) ≤ IntKind.u64.wrap (IntKind.i64.wrap ((56 : Int) - IntKind.i64.wrap ((8 : Int) * (↑x : Int)))) ∧
    True ∧
    ((0 : Int) ≤ (↑x : Int) ∧ (↑x : Int) < (↑(8 : Nat) : Int) ∧ (8 : Nat) = (8 : Nat) ∧ (1 : Nat) = (1 : Nat)) ∧
    (((↑x : Int).toNat < (8 : Nat) ∧ ([] : List Nat) = [] ∧ true = true) ∧ (1 : Nat) ≠ (0 : Nat) ∧ (1 : Nat) = (1 : Nat) ∧ false = false) ∧
    True ∧
    True ∧
    ((AV.d (D.val (Value.int IntKind.i64 (IntKind.i64.wrap ((↑x : Int) + (1 : Int))))) = AV.d (D.val (Value.int IntKind.i64 (↑(IntKind.i64.wrap ((↑x : Int) + (1 : Int))).toNat : Int))) ∧ True) ∧
    (some (Blk.fix (D.arr IntKind.u8 (8 : Nat) ((be8N (s.p / (32 : Nat)) x).set (↑x : Int).toNat (IntKind.u8.wrap (ishr IntKind.u64 (IntKind.u64.wrap ((↑s.p : Int).tdiv (32 : Int))) (IntKind.u64.wrap (IntKind.i64.wrap ((56 : Int) - IntKind.i64.wrap ((8 : Int) * (↑x : Int)))))))))) =
    some (Blk.fix (D.arr IntKind.u8 (8 : Nat) (be8N (s.p / (32 : Nat)) (IntKind.i64.wrap ((↑x : Int) + (1 : Int))).toNat))) ∧
    sm
    (some
    (Blk.fix
    (D.st
    [D.st [D.st [D.arr IntKind.u32 (8 : Nat) s.k.i.h.l, D.val (Value.int IntKind.u64 (↑s.k.i.n : Int)), D.arr IntKind.u8 (64 : Nat) s.k.i.l], D.st [D.arr IntKind.u32 (8 : Nat) s.k.o.h.l, D.val (Value.int IntKind.u64 (↑s.k.o.n : Int)), D.arr IntKind.u8 (64 : Nat) s.k.o.l]],
    D.val (Value.int IntKind.u64 (↑s.p : Int)), D.arr IntKind.u8 (32 : Nat) s.b, D.val (Value.bool s.m)]))) ∧
    True) ∧
    true = true) ∧
    (IntKind.i64.wrap ((↑x : Int) + (1 : Int))).toNat ≤ (8 : Nat) ∧ (8 : Nat) - (IntKind.i64.wrap ((↑x : Int) + (1 : Int))).toNat < (8 : Nat) - x
   | false =>
    True ∧
    True ∧
    True ∧
    True ∧
    (Sk.st [Sk.st [Sk.st [Sk.arr (8 : Nat), Sk.one, Sk.arr (64 : Nat)], Sk.st [Sk.arr (8 : Nat), Sk.one, Sk.arr (64 : Nat)]], Sk.one, Sk.arr (32 : Nat), Sk.one] = Sk.st [Sk.st [Sk.st [Sk.arr (8 : Nat), Sk.one, Sk.arr (64 : Nat)], Sk.st [Sk.arr (8 : Nat), Sk.one, Sk.arr (64 : Nat)]], Sk.one, Sk.arr (32 : Nat), Sk.one] ∧
    (0 : Nat) < (4 : Nat)) ∧
    ((146 : Nat) ≠ (0 : Nat) ∧ (146 : Nat) = (146 : Nat) ∧ true = true) ∧
    ((0 : Int) ≤ (0 : Int) ∧ (0 : Int) ≤ (↑(8 : Nat) : Int) ∧ (↑(8 : Nat) : Int) ≤ (↑(8 : Nat) : Int) ∧ (8 : Nat) = (8 : Nat) ∧ (1 : Nat) = (1 : Nat)) ∧
    (∃ (s_1 : MS),
    ∃ (p : List Int),
    [D.st [D.st [D.arr IntKind.u32 (8 : Nat) s.k.i.h.l, D.val (Value.int IntKind.u64 (↑s.k.i.n : Int)), D.arr IntKind.u8 (64 : Nat) s.k.i.l], D.st [D.arr IntKind.u32 (8 : Nat) s.k.o.h.l, D.val (Value.int IntKind.u64 (↑s.k.o.n : Int)), D.arr IntKind.u8 (64 : Nat) s.k.o.l]],
    D.ints IntKind.u8 (List.take ((↑(8 : Nat) : Int).toNat - Int.toNat (0 : Int)) (List.drop (0 : Nat) (be8N (s.p / (32 : Nat)) x)))] =
    [D.st [D.st [D.arr IntKind.u32 (8 : Nat) s_1.i.h.l, D.val (Value.int IntKind.u64 (↑s_1.i.n : Int)), D.arr IntKind.u8 (64 : Nat) s_1.i.l], D.st [D.arr IntKind.u32 (8 : Nat) s_1.o.h.l, D.val (Value.int IntKind.u64 (↑s_1.o.n : Int)), D.arr IntKind.u8 (64 : Nat) s_1.o.l]], D.ints IntKind.u8 p] ∧
    okM s_1 ∧ isB p) ∧
    (∃ (s_1 : MS),
    [D.st
    [D.st
    [D.arr IntKind.u32 (8 : Nat)
    (mWr (ofM (D.st [D.st [D.arr IntKind.u32 (8 : Nat) s.k.i.h.l, D.val (Value.int IntKind.u64 (↑s.k.i.n : Int)), D.arr IntKind.u8 (64 : Nat) s.k.i.l], D.st [D.arr IntKind.u32 (8 : Nat) s.k.o.h.l, D.val (Value.int IntKind.u64 (↑s.k.o.n : Int)), D.arr IntKind.u8 (64 : Nat) s.k.o.l]]))
    (List.take ((↑(8 : Nat) : Int).toNat - Int.toNat (0 : Int)) (List.drop (0 : Nat) (be8N (s.p / (32 : Nat)) x)))).i.h.l,
    D.val
    (Value.int IntKind.u64
    (↑(mWr (ofM (D.st [D.st [D.arr IntKind.u32 (8 : Nat) s.k.i.h.l, D.val (Value.int IntKind.u64 (↑s.k.i.n : Int)), D.arr IntKind.u8 (64 : Nat) s.k.i.l], D.st [D.arr IntKind.u32 (8 : Nat) s.k.o.h.l, D.val (Value.int IntKind.u64 (↑s.k.o.n : Int)), D.arr IntKind.u8 (64 : Nat) s.k.o.l]]))
    (List.take ((↑(8 : Nat) : Int).toNat - Int.toNat (0 : Int)) (List.drop (0 : Nat) (be8N (s.p / (32 : Nat)) x)))).i.n :
    Int)),
    D.arr IntKind.u8 (64 : Nat)
    (mWr (ofM (D.st [D.st [D.arr IntKind.u32 (8 : Nat) s.k.i.h.l, D.val (Value.int IntKind.u64 (↑s.k.i.n : Int)), D.arr IntKind.u8 (64 : Nat) s.k.i.l], D.st [D.arr IntKind.u32 (8 : Nat) s.k.o.h.l, D.val (Value.int IntKind.u64 (↑s.k.o.n : Int)), D.arr IntKind.u8 (64 : Nat) s.k.o.l]]))
    (List.take ((↑(8 : Nat) : Int).toNat - Int.toNat (0 : Int)) (List.drop (0 : Nat) (be8N (s.p / (32 : Nat)) x)))).i.l],
    D.st
    [D.arr IntKind.u32 (8 : Nat)
    (mWr (ofM (D.st [D.st [D.arr IntKind.u32 (8 : Nat) s.k.i.h.l, D.val (Value.int IntKind.u64 (↑s.k.i.n : Int)), D.arr IntKind.u8 (64 : Nat) s.k.i.l], D.st [D.arr IntKind.u32 (8 : Nat) s.k.o.h.l, D.val (Value.int IntKind.u64 (↑s.k.o.n : Int)), D.arr IntKind.u8 (64 : Nat) s.k.o.l]]))
    (List.take ((↑(8 : Nat) : Int).toNat - Int.toNat (0 : Int)) (List.drop (0 : Nat) (be8N (s.p / (32 : Nat)) x)))).o.h.l,
    D.val
    (Value.int IntKind.u64
    (↑(mWr (ofM (D.st [D.st [D.arr IntKind.u32 (8 : Nat) s.k.i.h.l, D.val (Value.int IntKind.u64 (↑s.k.i.n : Int)), D.arr IntKind.u8 (64 : Nat) s.k.i.l], D.st [D.arr IntKind.u32 (8 : Nat) s.k.o.h.l, D.val (Value.int IntKind.u64 (↑s.k.o.n : Int)), D.arr IntKind.u8 (64 : Nat) s.k.o.l]]))
    (List.take ((↑(8 : Nat) : Int).toNat - Int.toNat (0 : Int)) (List.drop (0 : Nat) (be8N (s.p / (32 : Nat)) x)))).o.n :
    Int)),
    D.arr IntKind.u8 (64 : Nat)
    (mWr (ofM (D.st [D.st [D.arr IntKind.u32 (8 : Nat) s.k.i.h.l, D.val (Value.int IntKind.u64 (↑s.k.i.n : Int)), D.arr IntKind.u8 (64 : Nat) s.k.i.l], D.st [D.arr IntKind.u32 (8 : Nat) s.k.o.h.l, D.val (Value.int IntKind.u64 (↑s.k.o.n : Int)), D.arr IntKind.u8 (64 : Nat) s.k.o.l]]))
    (List.take ((↑(8 : Nat) : Int).toNat - Int.toNat (0 : Int)) (List.drop (0 : Nat) (be8N (s.p / (32 : Nat)) x)))).o.l]]] =
    [D.st [D.st [D.arr IntKind.u32 (8 : Nat) s_1.i.h.l, D.val (Value.int IntKind.u64 (↑s_1.i.n : Int)), D.arr IntKind.u8 (64 : Nat) s_1.i.l], D.st [D.arr IntKind.u32 (8 : Nat) s_1.o.h.l, D.val (Value.int IntKind.u64 (↑s_1.o.n : Int)), D.arr IntKind.u8 (64 : Nat) s_1.o.l]]] ∧
    okM s_1) ∧
    True ∧
    (Sk.st [Sk.st [Sk.st [Sk.arr (8 : Nat), Sk.one, Sk.arr (64 : Nat)], Sk.st [Sk.arr (8 : Nat), Sk.one, Sk.arr (64 : Nat)]], Sk.one, Sk.arr (32 : Nat), Sk.one] = Sk.st [Sk.st [Sk.st [Sk.arr (8 : Nat), Sk.one, Sk.arr (64 : Nat)], Sk.st [Sk.arr (8 : Nat), Sk.one, Sk.arr (64 : Nat)]], Sk.one, Sk.arr (32 : Nat), Sk.one] ∧
    (2 : Nat) < (4 : Nat)) ∧
    (((2 : Nat) < (4 : Nat) ∧ Sk.arr (32 : Nat) = Sk.arr (32 : Nat)) ∧ (32 : Nat) ≠ (0 : Nat) ∧ (32 : Nat) = (32 : Nat) ∧ false = false) ∧
    True ∧
    (Sk.st [Sk.st [Sk.st [Sk.arr (8 : Nat), Sk.one, Sk.arr (64 : Nat)], Sk.st [Sk.arr (8 : Nat), Sk.one, Sk.arr (64 : Nat)]], Sk.one, Sk.arr (32 : Nat), Sk.one] = Sk.st [Sk.st [Sk.st [Sk.arr (8 : Nat), Sk.one, Sk.arr (64 : Nat)], Sk.st [Sk.arr (8 : Nat), Sk.one, Sk.arr (64 : Nat)]], Sk.one, Sk.arr (32 : Nat), Sk.one] ∧
    (3 : Nat) < (4 : Nat)) ∧
    (((3 : Nat) < (4 : Nat) ∧ Sk.one = Sk.one) ∧ (1 : Nat) ≠ (0 : Nat) ∧ (1 : Nat) = (1 : Nat) ∧ false = false) ∧
    (True ∧
    (some
    (Blk.fix
    (D.st
    [D.st [D.st [D.arr IntKind.u32 (8 : Nat) s.k.i.h.l, D.val (Value.int IntKind.u64 (↑s.k.i.n : Int)), D.arr IntKind.u8 (64 : Nat) s.k.i.l], D.st [D.arr IntKind.u32 (8 : Nat) s.k.o.h.l, D.val (Value.int IntKind.u64 (↑s.k.o.n : Int)), D.arr IntKind.u8 (64 : Nat) s.k.o.l]],
    D.val (Value.int IntKind.u64 (↑s.p : Int)),
    D.arr IntKind.u8 (32 : Nat)
    (mSum
    (ofM
    (D.st
    [D.st
    [D.arr IntKind.u32 (8 : Nat)
    (mWr (ofM (D.st [D.st [D.arr IntKind.u32 (8 : Nat) s.k.i.h.l, D.val (Value.int IntKind.u64 (↑s.k.i.n : Int)), D.arr IntKind.u8 (64 : Nat) s.k.i.l], D.st [D.arr IntKind.u32 (8 : Nat) s.k.o.h.l, D.val (Value.int IntKind.u64 (↑s.k.o.n : Int)), D.arr IntKind.u8 (64 : Nat) s.k.o.l]]))
    (List.take ((↑(8 : Nat) : Int).toNat - Int.toNat (0 : Int)) (List.drop (0 : Nat) (be8N (s.p / (32 : Nat)) x)))).i.h.l,
    D.val
    (Value.int IntKind.u64
    (↑(mWr (ofM (D.st [D.st [D.arr IntKind.u32 (8 : Nat) s.k.i.h.l, D.val (Value.int IntKind.u64 (↑s.k.i.n : Int)), D.arr IntKind.u8 (64 : Nat) s.k.i.l], D.st [D.arr IntKind.u32 (8 : Nat) s.k.o.h.l, D.val (Value.int IntKind.u64 (↑s.k.o.n : Int)), D.arr IntKind.u8 (64 : Nat) s.k.o.l]]))
    (List.take ((↑(8 : Nat) : Int).toNat - Int.toNat (0 : Int)) (List.drop (0 : Nat) (be8N (s.p / (32 : Nat)) x)))).i.n :
    Int)),
    D.arr IntKind.u8 (64 : Nat)
    (mWr (ofM (D.st [D.st [D.arr IntKind.u32 (8 : Nat) s.k.i.h.l, D.val (Value.int IntKind.u64 (↑s.k.i.n : Int)), D.arr IntKind.u8 (64 : Nat) s.k.i.l], D.st [D.arr IntKind.u32 (8 : Nat) s.k.o.h.l, D.val (Value.int IntKind.u64 (↑s.k.o.n : Int)), D.arr IntKind.u8 (64 : Nat) s.k.o.l]]))
    (List.take ((↑(8 : Nat) : Int).toNat - Int.toNat (0 : Int)) (List.drop (0 : Nat) (be8N (s.p / (32 : Nat)) x)))).i.l],
    D.st
    [D.arr IntKind.u32 (8 : Nat)
    (mWr (ofM (D.st [D.st [D.arr IntKind.u32 (8 : Nat) s.k.i.h.l, D.val (Value.int IntKind.u64 (↑s.k.i.n : Int)), D.arr IntKind.u8 (64 : Nat) s.k.i.l], D.st [D.arr IntKind.u32 (8 : Nat) s.k.o.h.l, D.val (Value.int IntKind.u64 (↑s.k.o.n : Int)), D.arr IntKind.u8 (64 : Nat) s.k.o.l]]))
    (List.take ((↑(8 : Nat) : Int).toNat - Int.toNat (0 : Int)) (List.drop (0 : Nat) (be8N (s.p / (32 : Nat)) x)))).o.h.l,
    D.val
    (Value.int IntKind.u64
    (↑(mWr (ofM (D.st [D.st [D.arr IntKind.u32 (8 : Nat) s.k.i.h.l, D.val (Value.int IntKind.u64 (↑s.k.i.n : Int)), D.arr IntKind.u8 (64 : Nat) s.k.i.l], D.st [D.arr IntKind.u32 (8 : Nat) s.k.o.h.l, D.val (Value.int IntKind.u64 (↑s.k.o.n : Int)), D.arr IntKind.u8 (64 : Nat) s.k.o.l]]))
    (List.take ((↑(8 : Nat) : Int).toNat - Int.toNat (0 : Int)) (List.drop (0 : Nat) (be8N (s.p / (32 : Nat)) x)))).o.n :
    Int)),
    D.arr IntKind.u8 (64 : Nat)
    (mWr (ofM (D.st [D.st [D.arr IntKind.u32 (8 : Nat) s.k.i.h.l, D.val (Value.int IntKind.u64 (↑s.k.i.n : Int)), D.arr IntKind.u8 (64 : Nat) s.k.i.l], D.st [D.arr IntKind.u32 (8 : Nat) s.k.o.h.l, D.val (Value.int IntKind.u64 (↑s.k.o.n : Int)), D.arr IntKind.u8 (64 : Nat) s.k.o.l]]))
    (List.take ((↑(8 : Nat) : Int).toNat - Int.toNat (0 : Int)) (List.drop (0 : Nat) (be8N (s.p / (32 : Nat)) x)))).o.l]]))),
    D.val (Value.bool true)])) =
    some
    (Blk.fix
    (D.st
    [D.st [D.st [D.arr IntKind.u32 (8 : Nat) s.k.i.h.l, D.val (Value.int IntKind.u64 (↑s.k.i.n : Int)), D.arr IntKind.u8 (64 : Nat) s.k.i.l], D.st [D.arr IntKind.u32 (8 : Nat) s.k.o.h.l, D.val (Value.int IntKind.u64 (↑s.k.o.n : Int)), D.arr IntKind.u8 (64 : Nat) s.k.o.l]],
    D.val (Value.int IntKind.u64 (↑s.p : Int)), D.arr IntKind.u8 (32 : Nat) (nxB s), D.val (Value.bool true)])) ∧
    True) ∧
    true = true) ∧
    True
  | false =>
   (True ∧
   (some
   (Blk.fix
   (D.st
   [D.st [D.st [D.arr IntKind.u32 (8 : Nat) s.k.i.h.l, D.val (Value.int IntKind.u64 (↑s.k.i.n : Int)), D.arr IntKind.u8 (64 : Nat) s.k.i.l], D.st [D.arr IntKind.u32 (8 : Nat) s.k.o.h.l, D.val (Value.int IntKind.u64 (↑s.k.o.n : Int)), D.arr IntKind.u8 (64 : Nat) s.k.o.l]], D.val (Value.int IntKind.u64 (↑s.p : Int)), D.arr IntKind.u8 (32 : Nat) s.b,
   D.val (Value.bool s.m)])) =
   some
   (Blk.fix
   (D.st
   [D.st [D.st [D.arr IntKind.u32 (8 : Nat) s.k.i.h.l, D.val (Value.int IntKind.u64 (↑s.k.i.n : Int)), D.arr IntKind.u8 (64 : Nat) s.k.i.l], D.st [D.arr IntKind.u32 (8 : Nat) s.k.o.h.l, D.val (Value.int IntKind.u64 (↑s.k.o.n : Int)), D.arr IntKind.u8 (64 : Nat) s.k.o.l]], D.val (Value.int IntKind.u64 (↑s.p : Int)),
   D.arr IntKind.u8 (32 : Nat) (nxB s), D.val (Value.bool true)])) ∧
   True) ∧
   true = true) ∧
   True) ∧
   ∀ (z : Nat),
   True →
   true = true ∧
   True ∧
   True ∧
   True ∧
   (Sk.st [Sk.st [Sk.st [Sk.arr (8 : Nat), Sk.one, Sk.arr (64 : Nat)], Sk.st [Sk.arr (8 : Nat), Sk.one, Sk.arr (64 : Nat)]], Sk.one, Sk.arr (32 : Nat), Sk.one] = Sk.st [Sk.st [Sk.st [Sk.arr (8 : Nat), Sk.one, Sk.arr (64 : Nat)], Sk.st [Sk.arr (8 : Nat), Sk.one, Sk.arr (64 : Nat)]], Sk.one, Sk.arr (32 : Nat), Sk.one] ∧ (1 : Nat) < (4 : Nat)) ∧
   ((1 : Nat) ≠ (0 : Nat) ∧ (1 : Nat) = (1 : Nat) ∧ false = false) ∧
   (32 : Int) ≠ (0 : Int) ∧
   True ∧
   (Sk.st [Sk.st [Sk.st [Sk.arr (8 : Nat), Sk.one, Sk.arr (64 : Nat)], Sk.st [Sk.arr (8 : Nat), Sk.one, Sk.arr (64 : Nat)]], Sk.one, Sk.arr (32 : Nat), Sk.one] = Sk.st [Sk.st [Sk.st [Sk.arr (8 : Nat), Sk.one, Sk.arr (64 : Nat)], Sk.st [Sk.arr (8 : Nat), Sk.one, Sk.arr (64 : Nat)]], Sk.one, Sk.arr (32 : Nat), Sk.one] ∧ (2 : Nat) < (4 : Nat)) ∧
   ((0 : Int) ≤ (↑s.p : Int).tmod (32 : Int) ∧ (↑s.p : Int).tmod (32 : Int) < (↑(32 : Nat) : Int) ∧ (32 : Nat) = (32 : Nat) ∧ (1 : Nat) = (1 : Nat)) ∧
   ((1 : Nat) ≠ (0 : Nat) ∧ (1 : Nat) = (1 : Nat) ∧ false = false) ∧
   True ∧
   True ∧
   True ∧
   (Sk.st [Sk.st [Sk.st [Sk.arr (8 : Nat), Sk.one, Sk.arr (64 : Nat)], Sk.st [Sk.arr (8 : Nat), Sk.one, Sk.arr (64 : Nat)]], Sk.one, Sk.arr (32 : Nat), Sk.one] = Sk.st [Sk.st [Sk.st [Sk.arr (8 : Nat), Sk.one, Sk.arr (64 : Nat)], Sk.st [Sk.arr (8 : Nat), Sk.one, Sk.arr (64 : Nat)]], Sk.one, Sk.arr (32 : Nat), Sk.one] ∧
   (1 : Nat) < (4 : Nat)) ∧
   ((1 : Nat) ≠ (0 : Nat) ∧ (1 : Nat) = (1 : Nat) ∧ false = false) ∧
   True ∧
   True ∧
   (Sk.st [Sk.st [Sk.st [Sk.arr (8 : Nat), Sk.one, Sk.arr (64 : Nat)], Sk.st [Sk.arr (8 : Nat), Sk.one, Sk.arr (64 : Nat)]], Sk.one, Sk.arr (32 : Nat), Sk.one] = Sk.st [Sk.st [Sk.st [Sk.arr (8 : Nat), Sk.one, Sk.arr (64 : Nat)], Sk.st [Sk.arr (8 : Nat), Sk.one, Sk.arr (64 : Nat)]], Sk.one, Sk.arr (32 : Nat), Sk.one] ∧
   (1 : Nat) < (4 : Nat)) ∧
   (((1 : Nat) < (4 : Nat) ∧ Sk.one = Sk.one) ∧ (1 : Nat) ≠ (0 : Nat) ∧ (1 : Nat) = (1 : Nat) ∧ false = false) ∧
   True ∧
   True ∧
   (false = false ∧ True) ∧
   Sk.st [Sk.st [Sk.st [Sk.arr (8 : Nat), Sk.one, Sk.arr (64 : Nat)], Sk.st [Sk.arr (8 : Nat), Sk.one, Sk.arr (64 : Nat)]], Sk.one, Sk.arr (32 : Nat), Sk.one] = Sk.st [Sk.st [Sk.st [Sk.arr (8 : Nat), Sk.one, Sk.arr (64 : Nat)], Sk.st [Sk.arr (8 : Nat), Sk.one, Sk.arr (64 : Nat)]], Sk.one, Sk.arr (32 : Nat), Sk.one] ∧
   D.tup
   [D.val (Value.int IntKind.u8 ((nxB s).getD ((↑s.p : Int).tmod (32 : Int)).toNat (0 : Int))),
   D.st
   [D.st [D.st [D.arr IntKind.u32 (8 : Nat) s.k.i.h.l, D.val (Value.int IntKind.u64 (↑s.k.i.n : Int)), D.arr IntKind.u8 (64 : Nat) s.k.i.l], D.st [D.arr IntKind.u32 (8 : Nat) s.k.o.h.l, D.val (Value.int IntKind.u64 (↑s.k.o.n : Int)), D.arr IntKind.u8 (64 : Nat) s.k.o.l]],
   D.val (Value.int IntKind.u64 (IntKind.u64.wrap ((↑s.p : Int) + (1 : Int)))), D.arr IntKind.u8 (32 : Nat) (nxB s), D.val (Value.bool true)]] =
   F) := by kernel_rfl
end Go.Proofs.YtkicjckhkefnpaaDoor
namespace Go.Proofs.YtkicjckhkefnpaaDoor
open Go Go.Vg
theorem srOf_eq (s : SR) : srOf (stR s) = s := by
 show SR.mk (ofM (stM s.k)) (s.p : Int).toNat s.b s.m = s
 rw [ofM_eq, Int.toNat_natCast]
theorem srOf' (s : SR) : srOf (D.st [D.st [D.st [D.arr .u32 8 s.k.i.h.l, D.val (.int .u64 (s.k.i.n : Int)), D.arr .u8 64 s.k.i.l], D.st [D.arr .u32 8 s.k.o.h.l, D.val (.int .u64 (s.k.o.n : Int)), D.arr .u8 64 s.k.o.l]], D.val (.int .u64 (s.p : Int)), D.arr .u8 32 s.b, D.val (.bool s.m)]) = s := srOf_eq s
theorem be8N_len (q i : Nat) (h : i ≤ 8) : (be8N q i).length = 8 := by
 unfold be8N
 rw [List.length_append, List.length_map, List.length_range, List.length_replicate]
 omega
theorem be8_len (q : Nat) : (be8 q).length = 8 := by unfold be8; simp
theorem be8_bytes (q : Nat) : isBytes (be8 q) := by
 intro x hx
 unfold be8 at hx
 obtain ⟨i, _, rfl⟩ := List.mem_map.1 hx
 unfold bE
 omega
theorem be8_B (q : Nat) : isB (be8 q) := ⟨be8_bytes q, by rw [be8_len]; omega⟩
theorem be8N_zero (q : Nat) : be8N q 0 = List.replicate 8 0 := rfl
theorem be8N_end (q : Nat) : be8N q 8 = be8 q := by unfold be8N be8; simp
theorem be8N_set (q i : Nat) (h : i < 8) : (be8N q i).set i (bE q i) = be8N q (i + 1) := by
 unfold be8N
 have e : ((List.range i).map (bE q)).length = i := by simp
 rw [List.set_append_right _ _ (by omega), e, Nat.sub_self, show 8 - i = (8 - (i + 1)) + 1 by omega, List.replicate_succ, List.set_cons_zero, List.range_succ, List.map_append, List.append_assoc]
 rfl
theorem bE_eq (p : Nat) (hp : p < 18446744073709551616) {x : Nat} (hx : x < 8) :
  IntKind.u8.wrap (ishr .u64 (IntKind.u64.wrap ((p : Int).tdiv 32)) (IntKind.u64.wrap (IntKind.i64.wrap (56 - IntKind.i64.wrap (8 * (x : Int)))))) = bE (p / 32) x := by
 have e1 : IntKind.u64.wrap ((p : Int).tdiv 32) = ((p / 32 : Nat) : Int) := by
  rw [show (32 : Int) = ((32 : Nat) : Int) from rfl, tdivN, wN64, Nat.mod_eq_of_lt (by omega)]
 have e2 : IntKind.i64.wrap (8 * (x : Int)) = 8 * (x : Int) := wi (by omega) (by omega)
 have e3 : IntKind.i64.wrap (56 - 8 * (x : Int)) = ((56 - 8 * x : Nat) : Int) := by rw [wi (by omega) (by omega)]; omega
 rw [e1, e2, e3, wN64, Nat.mod_eq_of_lt (by omega), ishrN .u64 (show 56 - 8 * x ≤ 64 by omega), wN8]
 rfl
theorem mSum_len (s : MS) : (mSum s).length = 32 := sumL_len _
theorem mSum_bytes (s : MS) : isBytes (mSum s) := sumL_bytes _
theorem nxB_len {s : SR} (h : okR s) : (nxB s).length = 32 := by
 unfold nxB blkS
 split
 ·exact mSum_len _
 ·exact h.2.2.2
theorem nxB_bytes {s : SR} (h : okR s) : isBytes (nxB s) := by
 unfold nxB blkS
 split
 ·exact mSum_bytes _
 ·exact h.2.2.1
theorem nxS_ok {s : SR} (h : okR s) : okR (nxS s) := ⟨h.1, Nat.mod_lt _ (by decide), nxB_bytes h, nxB_len h⟩
theorem itS_ok {s : SR} (h : okR s) : ∀ n, okR (itS s n)
 | 0 => h
 | n + 1 => nxS_ok (itS_ok h n)
set_option maxRecDepth 100000 in
theorem m92 : MeetsQ Tryd.prog 92 sp92 := by
 refine meetsNew_of_owed (C := c92) ⟨tab_ok, lkS_ok ⟨m82, trivial⟩⟩ (by kernel_rfl) (by kernel_rfl : Tryd.prog.funcs[92]? = some Tryd.f92) (by kernel_rfl) (by kernel_rfl) (by kernel_rfl) _ ⟨by kernel_rfl, by kernel_rfl, by kernel_rfl, by kernel_rfl⟩ ?_
 rintro _ ⟨k, p, rfl, hk⟩
 refine ⟨fun _ => none, ?_⟩
 show owedNew c92 (fun _ => none) Tryd.f92 [.ints .u8 k, u64 p] (.tup [stR (sr0 k (p : Int).toNat)])
 rw [vc92, Int.toNat_natCast]
 simp (decide := true) only [eq_self, true_and, and_true, ne_eq, not_false_eq_true]
 exact ⟨⟨k, rfl, hk⟩, rfl⟩
set_option maxRecDepth 100000 in
theorem m40 : MeetsQ Tryd.prog 40 sp40 := by
 refine meetsNew_of_owed (C := c40) ⟨tab_ok, lkS_ok ⟨m92, trivial⟩⟩ (by kernel_rfl) (by kernel_rfl : Tryd.prog.funcs[40]? = some Tryd.f40) (by kernel_rfl) (by kernel_rfl) (by kernel_rfl) _ ⟨by kernel_rfl, by kernel_rfl, by kernel_rfl, by kernel_rfl⟩ ?_
 rintro _ ⟨k, rfl, hk⟩
 refine ⟨fun _ => none, ?_⟩
 show owedNew c40 (fun _ => none) Tryd.f40 [.ints .u8 k] (.tup [stR (sr0 k 0)])
 rw [vc40]
 simp (decide := true) only [eq_self, true_and, and_true, ne_eq, not_false_eq_true]
 exact ⟨⟨k, 0, rfl, hk⟩, rfl⟩
set_option maxRecDepth 100000 in
theorem m43 : Meets Tryd.prog 43 sp43 := by
 refine meets_of_owed (C := c0) ⟨tab_ok, fun f s h => by cases h⟩ (by kernel_rfl) (by kernel_rfl : Tryd.prog.funcs[43]? = some Tryd.f43) (by kernel_rfl) (by kernel_rfl) (by kernel_rfl) _ ?_
 rintro _ ⟨s, rfl⟩
 refine ⟨fun _ => rfl, fun _ => none, ?_⟩
 show owed c0 (fun _ => none) Tryd.f43 [.ref (stR s)] (u64 ((srOf (stR s)).p : Int))
 rw [vc43, srOf_eq]
 simp (decide := true) only [eq_self, true_and, and_true, ne_eq, not_false_eq_true]
set_option maxRecDepth 100000 in
theorem m101 : Meets Tryd.prog 101 sp101 := by
 refine meets_of_owed (C := c0) ⟨tab_ok, fun f s h => by cases h⟩ (by kernel_rfl) (by kernel_rfl : Tryd.prog.funcs[101]? = some Tryd.f101) (by kernel_rfl) (by kernel_rfl) (by kernel_rfl) _ ?_
 rintro _ ⟨n, rfl⟩
 refine ⟨fun _ => rfl, fun _ => none, ?_⟩
 show owed c0 (fun _ => none) Tryd.f101 [i64 n] (i64 (fitE n))
 rw [vc101]
 unfold fitE
 split
 ·rename_i h
  have h := of_decide_eq_true h
  rw [if_pos h]
  and_intros <;> first | rfl | trivial
 rename_i h
 have h := of_decide_eq_false h
 rw [if_neg h]
 split
 ·rename_i h
  have h := of_decide_eq_true h
  rw [if_pos h]
  and_intros <;> first | rfl | trivial
 rename_i h
 have h := of_decide_eq_false h
 rw [if_neg h]
 and_intros <;> first | rfl | trivial
set_option maxRecDepth 100000 in
theorem m44 : MeetsQ Tryd.prog 44 sp44 := by
 refine meetsIo_of_owed (C := c44) ⟨tab_ok, lkS_ok ⟨m101, trivial⟩⟩ (by kernel_rfl) (by kernel_rfl : Tryd.prog.funcs[44]? = some Tryd.f44) (by kernel_rfl) (by kernel_rfl) (by kernel_rfl) _ ⟨by kernel_rfl, by kernel_rfl, by kernel_rfl⟩ ?_
 rintro x ds ⟨s, n, he, hs⟩
 obtain ⟨rfl, rfl⟩ := List.cons.inj he
 refine ⟨fun _ => none, ?_⟩
 show owedIo c44 (fun _ => none) Tryd.f44 (stR s) [i64 n] (.tup [i64 (fitE n), stR (skS (srOf (stR s)) n)])
 rw [vc44, srOf_eq]
 unfold skS
 split
 ·rename_i h
  have h : fitE n ≠ 0 := by
   intro e
   rw [e] at h
   exact absurd h (by decide)
  rw [if_neg h]
  simp (decide := true) only [eq_self, true_and, and_true, ne_eq, not_false_eq_true]
  exact ⟨n, rfl⟩
 ·rename_i h
  have h : fitE n = 0 := by
   by_cases e : fitE n = 0
   ·exact e
   ·have : (fitE n != 0) = true := by simpa using e
    rw [this] at h
    cases h
  have hn : 0 ≤ n ∧ n ≤ 4096 := by
   unfold fitE at h
   split at h
   ·exact absurd h (by decide)
   ·split at h
    ·exact absurd h (by decide)
    ·omega
  obtain ⟨m, rfl⟩ := Int.eq_ofNat_of_zero_le hn.1
  have e1 : IntKind.u64.wrap ((s.p : Int) + IntKind.u64.wrap (m : Int)) = (((s.p + m) % 18446744073709551616 : Nat) : Int) := by
   rw [wN64, Nat.mod_eq_of_lt (show m < 18446744073709551616 by omega), ← Int.natCast_add, wN64]
  rw [if_pos h, e1, h, Int.toNat_natCast]
  simp (decide := true) only [eq_self, true_and, and_true, ne_eq, not_false_eq_true]
  exact ⟨(m : Int), rfl⟩
set_option maxRecDepth 100000 in
theorem m95 : MeetsQ Tryd.prog 95 sp95 := by
 refine meetsIo_of_owed (C := c95) ⟨tab_ok, lkS_ok ⟨m83, m84, trivial⟩⟩ (by kernel_rfl) (by kernel_rfl : Tryd.prog.funcs[95]? = some Tryd.f95) (by kernel_rfl) (by kernel_rfl) (by kernel_rfl) _ ⟨by kernel_rfl, by kernel_rfl, by kernel_rfl⟩ ?_
 rintro x ds ⟨s, he, hs⟩
 obtain ⟨rfl, rfl⟩ := List.cons.inj he
 refine ⟨inv95 s, ?_⟩
 show owedIo c95 (inv95 s) Tryd.f95 (stR s) [] (.tup [u8 (nxV (srOf (stR s))), stR (nxS (srOf (stR s)))])
 rw [vc95, srOf_eq]
 have hp := hs.2.1
 have e32 : (s.p : Int).tmod 32 = ((s.p % 32 : Nat) : Int) := by rw [show (32 : Int) = ((32 : Nat) : Int) from rfl, tmodN]
 have t8 : ∀ i, i ≤ 8 → List.take 8 (be8N (s.p / 32) i) = be8N (s.p / 32) i := fun i h => List.take_of_length_le (by rw [be8N_len _ _ h]; omega)
 simp (decide := true) only [e32, Int.toNat_natCast, be8N_zero, ofM', srOf', List.drop_zero, show Int.toNat 8 = 8 from rfl, show Int.toNat 0 = 0 from rfl, Nat.sub_zero, sm, eq_self, true_and, and_true, ne_eq, not_false_eq_true]
 have ew : IntKind.u64.wrap ((s.p : Int) + 1) = (((s.p + 1) % 18446744073709551616 : Nat) : Int) := by
  rw [show (s.p : Int) + 1 = ((s.p + 1 : Nat) : Int) by omega, wN64]
 split
 ·rename_i h
  have h : s.p % 32 = 0 := by have := of_decide_eq_true h; omega
  have hB : nxB s = blkS s.k (s.p / 32) := by unfold nxB; rw [if_pos (.inl h)]
  refine ⟨?_, fun _ _ => ⟨⟨by omega, by omega⟩, by rw [ew]; rfl⟩⟩
  refine ⟨⟨rfl, rfl⟩, fun x hx => ?_⟩
  split
  ·rename_i h
   have h : x < 8 := by have := of_decide_eq_true h; omega
   have e1 : IntKind.i64.wrap ((x : Int) + 1) = ((x + 1 : Nat) : Int) := by rw [wi (by omega) (by omega)]; omega
   simp only [bE_eq s.p hp h, be8N_set _ _ h, e1, Int.toNat_natCast]
   refine ⟨by rw [w64]; omega, ⟨by omega, by omega⟩, h, by and_intros <;> first | trivial | rfl, by omega, by omega⟩
  ·rename_i h
   have h := of_decide_eq_false h
   obtain rfl : x = 8 := by omega
   rw [t8 8 (Nat.le_refl 8), be8N_end]
   refine ⟨⟨s.k, _, rfl, hs.1, be8_B _⟩, ⟨_, rfl, mWr_ok hs.1 (be8_bytes _)⟩, ?_⟩
   rw [hB]
   rfl
 ·rename_i h
  have h : ¬ s.p % 32 = 0 := by have := of_decide_eq_false h; omega
  refine ⟨?_, fun _ _ => ⟨⟨by omega, by omega⟩, by rw [ew]; rfl⟩⟩
  split
  ·rename_i h2
   have hB : nxB s = blkS s.k (s.p / 32) := by unfold nxB; rw [if_pos (.inr (by simpa using h2))]
   refine ⟨⟨rfl, rfl⟩, fun x hx => ?_⟩
   split
   ·rename_i h
    have h : x < 8 := by have := of_decide_eq_true h; omega
    have e1 : IntKind.i64.wrap ((x : Int) + 1) = ((x + 1 : Nat) : Int) := by rw [wi (by omega) (by omega)]; omega
    simp only [bE_eq s.p hp h, be8N_set _ _ h, e1, Int.toNat_natCast]
    refine ⟨by rw [w64]; omega, ⟨by omega, by omega⟩, h, by and_intros <;> first | trivial | rfl, by omega, by omega⟩
   ·rename_i h
    have h := of_decide_eq_false h
    obtain rfl : x = 8 := by omega
    rw [t8 8 (Nat.le_refl 8), be8N_end]
    refine ⟨⟨s.k, _, rfl, hs.1, be8_B _⟩, ⟨_, rfl, mWr_ok hs.1 (be8_bytes _)⟩, ?_⟩
    rw [hB]
    rfl
  ·rename_i h2
   have h2 : s.m = true := by simpa using h2
   have hB : nxB s = s.b := by unfold nxB; rw [if_neg (by rw [h2]; simp [h])]
   rw [hB, h2]
end Go.Proofs.YtkicjckhkefnpaaDoor
namespace Go.Proofs.YtkicjckhkefnpaaDoor
open Go Go.Vg
theorem itV_len (s : SR) (n : Nat) : (itV s n).length = n := by unfold itV; simp
theorem itV_succ (s : SR) (n : Nat) : itV s (n + 1) = itV s n ++ [nxV (itS s n)] := by
 unfold itV
 rw [List.range_succ, List.map_append]
 rfl
def stQ (s : SR) : D := stR s
def sp95q : Go.Vg.Spec := ⟨fun ds => ∃ s, ds = [stQ s] ∧ okR s, fun ds => .tup [u8 (nxV (srOf (ds.headD default))), stQ (nxS (srOf (ds.headD default)))], true, [9000000]⟩
theorem sp95_q : sp95q = sp95 := rfl
set_option maxRecDepth 100000 in
theorem m95q : MeetsQ Tryd.prog 95 sp95q := (congrArg (MeetsQ Tryd.prog 95) sp95_q).mpr m95
theorem srOq (s : SR) : srOf (stQ s) = s := srOf_eq s
def c45q : Ctx := ⟨tab, lkS [(101, sp101), (95, sp95q)], [], []⟩
def inv45 (s : SR) (n : Nat) : Nat → Option Inv
 | 6 => some ⟨Nat, fun i => [(18, .d (i64 i))], fun i => [(15, .fix (.arr .u8 n (itV s i ++ List.replicate (n - i) 0))), (1000, .fix (stQ (itS s i)))], fun t => (slotN t 18).toNat, fun _ i => i ≤ n, fun i => n - i⟩
 | _ => none
def plcB (k : List Int) (p : Nat) : Int := (mkL k (be8 (p / 32))).getD (p % 32) 0
def drwL (k : List Int) (p n : Nat) : List Int := (List.range n).map fun i => plcB k ((p + i) % 18446744073709551616)
def sp46 : Go.Vg.Spec := ⟨fun ds => ∃ k, ∃ p : Nat, ∃ n : Nat, ds = [.str k, u64 p, i64 n] ∧ isB k ∧ p < 18446744073709551616 ∧ n ≤ 1000000, fun ds => .str (drwL (strOf (ds.headD default)) (numOf (ds.getD 1 default)).toNat (numOf (ds.getD 2 default)).toNat), true, [9, 73, 3]⟩
def c46 : Ctx := ⟨tab, lkS [(79, sp79)], [], []⟩
def lastQ (p i : Nat) : Nat := if i = 0 then 0 else ((p + (i - 1)) % 18446744073709551616) / 32
def lastD (k : List Int) (p i : Nat) : List Int := if i = 0 then List.replicate 32 0 else mkL k (be8 (lastQ p i))
def inv46 (k : List Int) (p n : Nat) : Nat → Option Inv
 | 5 => some ⟨Nat, fun i => [(16, .d (i64 i)), (7, .d (.str (drwL k p i))), (8, .d (u64 (lastQ p i)))], fun i => [(9, .fix (.arr .u8 32 (lastD k p i)))], fun t => (slotN t 16).toNat, fun _ i => i ≤ n, fun i => n - i⟩
 | 13 => some ⟨Nat × Nat, fun x => [(33, .d (i64 (x.1 : Int))), (13, .d (.str ((be8 x.2).take x.1)))], fun _ => [], fun t => ((slotN t 33).toNat, (slotN t 12).toNat), fun s x => x.1 ≤ 8 ∧ (x.2 : Int) = slotN s 12, fun x => 8 - x.1⟩
 | 100010 => some ⟨Nat, fun q => [(8, .d (u64 q))], fun q => [(9, .fix (.arr .u8 32 (mkL k (be8 q))))], fun t => (slotN t 8).toNat, fun s q => (q : Int) = slotN s 12, fun _ => 0⟩
 | _ => none
set_option maxRecDepth 100000 in
theorem vc45  (s : SR) (n : Int) (F : D)  :
    (owedIo c45q (inv45 s n.toNat) Tryd.f45 (stQ s) [i64 n] F) = (
 True ∧
 True ∧
 True ∧
 (∃ (n_1 : Int), [D.val (Value.int IntKind.i64 n)] = [D.val (Value.int IntKind.i64 n_1)]) ∧
 True ∧
 True ∧
 True ∧
 match fitE n != (0 : Int) with
 | true =>
  True ∧
  True ∧
  True ∧
  (false = false ∧ false = false ∧ True) ∧
  Sk.st [Sk.st [Sk.st [Sk.arr (8 : Nat), Sk.one, Sk.arr (64 : Nat)], Sk.st [Sk.arr (8 : Nat), Sk.one, Sk.arr (64 : Nat)]], Sk.one, Sk.arr (32 : Nat), Sk.one] = Sk.st [Sk.st [Sk.st [Sk.arr (8 : Nat), Sk.one, Sk.arr (64 : Nat)], Sk.st [Sk.arr (8 : Nat), Sk.one, Sk.arr (64 : Nat)]], Sk.one, Sk.arr (32 : Nat), Sk.one] ∧
  D.tup [D.tup [D.ints IntKind.u8 [], D.val (Value.int IntKind.i64 (fitE n))], stQ s] = F
 | false =>
  True ∧
  ((0 : Int) ≤ n ∧ n = n ∧ n ≤ (281474976710656 : Int) ∧ (↑(1 : Nat) : Int) * n ≤ (281474976710656 : Int) ∧ (1 : Nat) = (1 : Nat)) ∧
  True ∧
  True ∧
  True ∧
  True ∧
  (((AV.d (D.val (Value.int IntKind.i64 (0 : Int))) = AV.d (D.val (Value.int IntKind.i64 (↑(Int.toNat (0 : Int)) : Int))) ∧ True) ∧
  (some (Blk.fix (D.arr IntKind.u8 n.toNat (List.replicate n.toNat (0 : Int)))) = some (Blk.fix (D.arr IntKind.u8 n.toNat (itV s (Int.toNat (0 : Int)) ++ List.replicate (n.toNat - Int.toNat (0 : Int)) (0 : Int)))) ∧ some (Blk.fix (stQ s)) = some (Blk.fix (stQ (itS s (Int.toNat (0 : Int))))) ∧ True) ∧ true = true) ∧
  Int.toNat (0 : Int) ≤ n.toNat) ∧
  ∀ (x : Nat),
  x ≤ n.toNat →
  true = true ∧
  True ∧
  match decide ((↑x : Int) < (↑n.toNat : Int)) with
  | true =>
   True ∧
   True ∧
   True ∧
   True ∧
   True ∧
   (∃ (s_1 : SR), [stQ (itS s x)] = [stQ s_1] ∧ okR s_1) ∧
   ((0 : Int) ≤ (↑x : Int) ∧ (↑x : Int) < (↑n.toNat : Int) ∧ (1 : Nat) = (1 : Nat)) ∧
   (((0 : Nat) + (↑x : Int).toNat < n.toNat ∧ ([] : List Nat) = [] ∧ true = true) ∧ (1 : Nat) ≠ (0 : Nat) ∧ (1 : Nat) = (1 : Nat) ∧ false = false) ∧
   True ∧
   True ∧
   ((AV.d (D.val (Value.int IntKind.i64 (IntKind.i64.wrap ((↑x : Int) + (1 : Int))))) = AV.d (D.val (Value.int IntKind.i64 (↑(IntKind.i64.wrap ((↑x : Int) + (1 : Int))).toNat : Int))) ∧ True) ∧
   (some (Blk.fix (D.arr IntKind.u8 n.toNat ((itV s x ++ List.replicate (n.toNat - x) (0 : Int)).set ((0 : Nat) + (↑x : Int).toNat) (nxV (srOf (stQ (itS s x))))))) =
   some (Blk.fix (D.arr IntKind.u8 n.toNat (itV s (IntKind.i64.wrap ((↑x : Int) + (1 : Int))).toNat ++ List.replicate (n.toNat - (IntKind.i64.wrap ((↑x : Int) + (1 : Int))).toNat) (0 : Int)))) ∧
   some (Blk.fix (stQ (nxS (srOf (stQ (itS s x)))))) = some (Blk.fix (stQ (itS s (IntKind.i64.wrap ((↑x : Int) + (1 : Int))).toNat))) ∧ True) ∧
   true = true) ∧
   (IntKind.i64.wrap ((↑x : Int) + (1 : Int))).toNat ≤ n.toNat ∧ n.toNat - (IntKind.i64.wrap ((↑x : Int) + (1 : Int))).toNat < n.toNat - x
  | false =>
   True ∧
   True ∧
   True ∧
   (false = false ∧ false = false ∧ True) ∧
   Sk.st [Sk.st [Sk.st [Sk.arr (8 : Nat), Sk.one, Sk.arr (64 : Nat)], Sk.st [Sk.arr (8 : Nat), Sk.one, Sk.arr (64 : Nat)]], Sk.one, Sk.arr (32 : Nat), Sk.one] = Sk.st [Sk.st [Sk.st [Sk.arr (8 : Nat), Sk.one, Sk.arr (64 : Nat)], Sk.st [Sk.arr (8 : Nat), Sk.one, Sk.arr (64 : Nat)]], Sk.one, Sk.arr (32 : Nat), Sk.one] ∧
   D.tup [D.tup [D.ints IntKind.u8 (List.take n.toNat (List.drop (0 : Nat) (itV s x ++ List.replicate (n.toNat - x) (0 : Int)))), D.val (Value.int IntKind.i64 (0 : Int))], stQ (itS s x)] = F) := by kernel_rfl
set_option maxRecDepth 100000 in
theorem vc46  (k : List Int) (p n : Nat) (F : D)  :
    (owed c46 (inv46 k p n) Tryd.f46 [.str k, u64 p, i64 n] F) = (
 True ∧
 True ∧
 True ∧
 (True ∧ (32 : Nat) ≠ (0 : Nat)) ∧
 True ∧
 True ∧
 (((AV.d (D.val (Value.int IntKind.i64 (0 : Int))) = AV.d (D.val (Value.int IntKind.i64 (↑(Int.toNat (0 : Int)) : Int))) ∧ AV.d (D.str (ints { data := { toList := [] } })) = AV.d (D.str (drwL k p (Int.toNat (0 : Int)))) ∧ AV.d (D.val (Value.int IntKind.u64 (0 : Int))) = AV.d (D.val (Value.int IntKind.u64 (↑(lastQ p (Int.toNat (0 : Int))) : Int))) ∧ True) ∧
 (some
 (Blk.fix
 (D.arr IntKind.u8 (32 : Nat)
 [(0 : Int), (0 : Int), (0 : Int), (0 : Int), (0 : Int), (0 : Int), (0 : Int), (0 : Int), (0 : Int), (0 : Int), (0 : Int), (0 : Int), (0 : Int), (0 : Int), (0 : Int), (0 : Int), (0 : Int), (0 : Int), (0 : Int), (0 : Int), (0 : Int), (0 : Int), (0 : Int), (0 : Int), (0 : Int), (0 : Int), (0 : Int), (0 : Int), (0 : Int), (0 : Int), (0 : Int), (0 : Int)])) =
 some (Blk.fix (D.arr IntKind.u8 (32 : Nat) (lastD k p (Int.toNat (0 : Int))))) ∧
 True) ∧
 true = true) ∧
 Int.toNat (0 : Int) ≤ n) ∧
 ∀ (x : Nat),
 x ≤ n →
 true = true ∧
 True ∧
 match decide ((↑x : Int) < (↑n : Int)) with
 | true =>
  True ∧
  True ∧
  True ∧
  True ∧
  True ∧
  True ∧
  True ∧
  True ∧
  (32 : Int) ≠ (0 : Int) ∧
  True ∧
  True ∧
  True ∧
  True ∧
  match (↑x : Int) == (0 : Int) with
  | true =>
   True ∧
   (True ∧
   True ∧
   True ∧
   True ∧
   (((AV.d (D.val (Value.int IntKind.i64 (0 : Int))) = AV.d (D.val (Value.int IntKind.i64 (↑(0 : Nat) : Int))) ∧ AV.d (D.str (ints { data := { toList := [] } })) = AV.d (D.str (List.take (0 : Nat) (be8 (IntKind.u64.wrap ((IntKind.u64.wrap ((↑p : Int) + IntKind.u64.wrap (↑x : Int))).tdiv (32 : Int))).toNat))) ∧ True) ∧
   (sm (some (Blk.fix (D.arr IntKind.u8 (32 : Nat) (lastD k p x)))) ∧ True) ∧ true = true) ∧
   (0 : Nat) ≤ (8 : Nat) ∧ (↑(IntKind.u64.wrap ((IntKind.u64.wrap ((↑p : Int) + IntKind.u64.wrap (↑x : Int))).tdiv (32 : Int))).toNat : Int) = IntKind.u64.wrap ((IntKind.u64.wrap ((↑p : Int) + IntKind.u64.wrap (↑x : Int))).tdiv (32 : Int))) ∧
   ∀ (x_1 : Nat × Nat),
   x_1.fst ≤ (8 : Nat) ∧ (↑x_1.snd : Int) = IntKind.u64.wrap ((IntKind.u64.wrap ((↑p : Int) + IntKind.u64.wrap (↑x : Int))).tdiv (32 : Int)) →
   true = true ∧
   True ∧
   match decide ((↑x_1.fst : Int) < (8 : Int)) with
   | true =>
    True ∧
    True ∧
    True ∧
    True ∧
    True ∧
    True ∧
    True ∧
    (0 : Int) ≤ IntKind.i64.wrap ((56 : Int) - IntKind.i64.wrap ((8 : Int) * (↑x_1.fst : Int))) ∧
    True ∧
    ((1 : Nat) = (1 : Nat) ∧ (1 : Nat) ≤ (4096 : Nat)) ∧
    isBytes [IntKind.u8.wrap (ishr IntKind.u64 (IntKind.u64.wrap ((IntKind.u64.wrap ((↑p : Int) + IntKind.u64.wrap (↑x : Int))).tdiv (32 : Int))) (IntKind.i64.wrap ((56 : Int) - IntKind.i64.wrap ((8 : Int) * (↑x_1.fst : Int)))))] ∧
    (↑((List.take x_1.fst (be8 x_1.snd)).length + (1 : Nat)) : Int) ≤ (9223372036854775807 : Int) ∧
    True ∧
    True ∧
    True ∧
    ((AV.d (D.val (Value.int IntKind.i64 (IntKind.i64.wrap ((↑x_1.fst : Int) + (1 : Int))))) = AV.d (D.val (Value.int IntKind.i64 (↑(IntKind.i64.wrap ((↑x_1.fst : Int) + (1 : Int))).toNat : Int))) ∧
    AV.d (D.str (List.take x_1.fst (be8 x_1.snd) ++ [IntKind.u8.wrap (ishr IntKind.u64 (IntKind.u64.wrap ((IntKind.u64.wrap ((↑p : Int) + IntKind.u64.wrap (↑x : Int))).tdiv (32 : Int))) (IntKind.i64.wrap ((56 : Int) - IntKind.i64.wrap ((8 : Int) * (↑x_1.fst : Int)))))])) =
    AV.d (D.str (List.take (IntKind.i64.wrap ((↑x_1.fst : Int) + (1 : Int))).toNat (be8 (IntKind.u64.wrap ((IntKind.u64.wrap ((↑p : Int) + IntKind.u64.wrap (↑x : Int))).tdiv (32 : Int))).toNat))) ∧
    True) ∧
    (sm (some (Blk.fix (D.arr IntKind.u8 (32 : Nat) (lastD k p x)))) ∧ True) ∧ true = true) ∧
    ((IntKind.i64.wrap ((↑x_1.fst : Int) + (1 : Int))).toNat ≤ (8 : Nat) ∧ (↑(IntKind.u64.wrap ((IntKind.u64.wrap ((↑p : Int) + IntKind.u64.wrap (↑x : Int))).tdiv (32 : Int))).toNat : Int) = IntKind.u64.wrap ((IntKind.u64.wrap ((↑p : Int) + IntKind.u64.wrap (↑x : Int))).tdiv (32 : Int))) ∧
    (8 : Nat) - (IntKind.i64.wrap ((↑x_1.fst : Int) + (1 : Int))).toNat < (8 : Nat) - x_1.fst
   | false =>
    True ∧
    True ∧
    (∃ (k_1 : List Int), ∃ (p : List Int), [D.str k, D.str (List.take x_1.fst (be8 x_1.snd))] = [D.str k_1, D.str p] ∧ isB k_1 ∧ isBytes p ∧ p.length ≤ (500000000000000 : Nat)) ∧
    (Sk.arr (32 : Nat) = Sk.arr (32 : Nat) ∧ (32 : Nat) ≠ (0 : Nat) ∧ (32 : Nat) = (32 : Nat) ∧ false = false) ∧
    ((AV.d (D.val (Value.int IntKind.u64 (IntKind.u64.wrap ((IntKind.u64.wrap ((↑p : Int) + IntKind.u64.wrap (↑x : Int))).tdiv (32 : Int))))) = AV.d (D.val (Value.int IntKind.u64 (↑(IntKind.u64.wrap ((IntKind.u64.wrap ((↑p : Int) + IntKind.u64.wrap (↑x : Int))).tdiv (32 : Int))).toNat : Int))) ∧ True) ∧
    (some (Blk.fix (D.arr IntKind.u8 (32 : Nat) (mkL k (List.take x_1.fst (be8 x_1.snd))))) = some (Blk.fix (D.arr IntKind.u8 (32 : Nat) (mkL k (be8 (IntKind.u64.wrap ((IntKind.u64.wrap ((↑p : Int) + IntKind.u64.wrap (↑x : Int))).tdiv (32 : Int))).toNat)))) ∧ True) ∧ true = true) ∧
    (↑(IntKind.u64.wrap ((IntKind.u64.wrap ((↑p : Int) + IntKind.u64.wrap (↑x : Int))).tdiv (32 : Int))).toNat : Int) = IntKind.u64.wrap ((IntKind.u64.wrap ((↑p : Int) + IntKind.u64.wrap (↑x : Int))).tdiv (32 : Int))) ∧
   ∀ (z : Nat),
   (↑z : Int) = IntKind.u64.wrap ((IntKind.u64.wrap ((↑p : Int) + IntKind.u64.wrap (↑x : Int))).tdiv (32 : Int)) →
   true = true ∧
   True ∧
   True ∧
   (32 : Int) ≠ (0 : Int) ∧
   True ∧
   (32 : Int) ≠ (0 : Int) ∧
   True ∧
   ((0 : Int) ≤ (IntKind.u64.wrap ((↑p : Int) + IntKind.u64.wrap (↑x : Int))).tmod (32 : Int) ∧
   (IntKind.u64.wrap ((↑p : Int) + IntKind.u64.wrap (↑x : Int))).tmod (32 : Int) ≤ IntKind.u64.wrap ((IntKind.u64.wrap ((↑p : Int) + IntKind.u64.wrap (↑x : Int))).tmod (32 : Int) + (1 : Int)) ∧
   IntKind.u64.wrap ((IntKind.u64.wrap ((↑p : Int) + IntKind.u64.wrap (↑x : Int))).tmod (32 : Int) + (1 : Int)) ≤ (↑(32 : Nat) : Int) ∧ (32 : Nat) = (32 : Nat) ∧ (1 : Nat) = (1 : Nat)) ∧
   isBytes
   (List.take ((IntKind.u64.wrap ((IntKind.u64.wrap ((↑p : Int) + IntKind.u64.wrap (↑x : Int))).tmod (32 : Int) + (1 : Int))).toNat - ((IntKind.u64.wrap ((↑p : Int) + IntKind.u64.wrap (↑x : Int))).tmod (32 : Int)).toNat)
   (List.drop ((IntKind.u64.wrap ((↑p : Int) + IntKind.u64.wrap (↑x : Int))).tmod (32 : Int)).toNat (mkL k (be8 z)))) ∧
   (↑((drwL k p x).length +
   (List.take ((IntKind.u64.wrap ((IntKind.u64.wrap ((↑p : Int) + IntKind.u64.wrap (↑x : Int))).tmod (32 : Int) + (1 : Int))).toNat - ((IntKind.u64.wrap ((↑p : Int) + IntKind.u64.wrap (↑x : Int))).tmod (32 : Int)).toNat)
   (List.drop ((IntKind.u64.wrap ((↑p : Int) + IntKind.u64.wrap (↑x : Int))).tmod (32 : Int)).toNat (mkL k (be8 z)))).length) :
   Int) ≤
   (9223372036854775807 : Int) ∧
   True ∧
   True ∧
   True ∧
   ((AV.d (D.val (Value.int IntKind.i64 (IntKind.i64.wrap ((↑x : Int) + (1 : Int))))) = AV.d (D.val (Value.int IntKind.i64 (↑(IntKind.i64.wrap ((↑x : Int) + (1 : Int))).toNat : Int))) ∧
   AV.d
   (D.str
   (drwL k p x ++
   List.take ((IntKind.u64.wrap ((IntKind.u64.wrap ((↑p : Int) + IntKind.u64.wrap (↑x : Int))).tmod (32 : Int) + (1 : Int))).toNat - ((IntKind.u64.wrap ((↑p : Int) + IntKind.u64.wrap (↑x : Int))).tmod (32 : Int)).toNat)
   (List.drop ((IntKind.u64.wrap ((↑p : Int) + IntKind.u64.wrap (↑x : Int))).tmod (32 : Int)).toNat (mkL k (be8 z))))) =
   AV.d (D.str (drwL k p (IntKind.i64.wrap ((↑x : Int) + (1 : Int))).toNat)) ∧
   AV.d (D.val (Value.int IntKind.u64 (↑z : Int))) = AV.d (D.val (Value.int IntKind.u64 (↑(lastQ p (IntKind.i64.wrap ((↑x : Int) + (1 : Int))).toNat) : Int))) ∧ True) ∧
   (some (Blk.fix (D.arr IntKind.u8 (32 : Nat) (mkL k (be8 z)))) = some (Blk.fix (D.arr IntKind.u8 (32 : Nat) (lastD k p (IntKind.i64.wrap ((↑x : Int) + (1 : Int))).toNat))) ∧ True) ∧ true = true) ∧
   (IntKind.i64.wrap ((↑x : Int) + (1 : Int))).toNat ≤ n ∧ n - (IntKind.i64.wrap ((↑x : Int) + (1 : Int))).toNat < n - x
  | false =>
   True ∧
   True ∧
   True ∧
   True ∧
   (match IntKind.u64.wrap ((IntKind.u64.wrap ((↑p : Int) + IntKind.u64.wrap (↑x : Int))).tdiv (32 : Int)) != (↑(lastQ p x) : Int) with
   | true =>
    True ∧
    True ∧
    True ∧
    True ∧
    (((AV.d (D.val (Value.int IntKind.i64 (0 : Int))) = AV.d (D.val (Value.int IntKind.i64 (↑(0 : Nat) : Int))) ∧ AV.d (D.str (ints { data := { toList := [] } })) = AV.d (D.str (List.take (0 : Nat) (be8 (IntKind.u64.wrap ((IntKind.u64.wrap ((↑p : Int) + IntKind.u64.wrap (↑x : Int))).tdiv (32 : Int))).toNat))) ∧ True) ∧
    (sm (some (Blk.fix (D.arr IntKind.u8 (32 : Nat) (lastD k p x)))) ∧ True) ∧ true = true) ∧
    (0 : Nat) ≤ (8 : Nat) ∧ (↑(IntKind.u64.wrap ((IntKind.u64.wrap ((↑p : Int) + IntKind.u64.wrap (↑x : Int))).tdiv (32 : Int))).toNat : Int) = IntKind.u64.wrap ((IntKind.u64.wrap ((↑p : Int) + IntKind.u64.wrap (↑x : Int))).tdiv (32 : Int))) ∧
    ∀ (x_1 : Nat × Nat),
    x_1.fst ≤ (8 : Nat) ∧ (↑x_1.snd : Int) = IntKind.u64.wrap ((IntKind.u64.wrap ((↑p : Int) + IntKind.u64.wrap (↑x : Int))).tdiv (32 : Int)) →
    true = true ∧
    True ∧
    match decide ((↑x_1.fst : Int) < (8 : Int)) with
    | true =>
     True ∧
     True ∧
     True ∧
     True ∧
     True ∧
     True ∧
     True ∧
     (0 : Int) ≤ IntKind.i64.wrap ((56 : Int) - IntKind.i64.wrap ((8 : Int) * (↑x_1.fst : Int))) ∧
     True ∧
     ((1 : Nat) = (1 : Nat) ∧ (1 : Nat) ≤ (4096 : Nat)) ∧
     isBytes [IntKind.u8.wrap (ishr IntKind.u64 (IntKind.u64.wrap ((IntKind.u64.wrap ((↑p : Int) + IntKind.u64.wrap (↑x : Int))).tdiv (32 : Int))) (IntKind.i64.wrap ((56 : Int) - IntKind.i64.wrap ((8 : Int) * (↑x_1.fst : Int)))))] ∧
     (↑((List.take x_1.fst (be8 x_1.snd)).length + (1 : Nat)) : Int) ≤ (9223372036854775807 : Int) ∧
     True ∧
     True ∧
     True ∧
     ((AV.d (D.val (Value.int IntKind.i64 (IntKind.i64.wrap ((↑x_1.fst : Int) + (1 : Int))))) = AV.d (D.val (Value.int IntKind.i64 (↑(IntKind.i64.wrap ((↑x_1.fst : Int) + (1 : Int))).toNat : Int))) ∧
     AV.d (D.str (List.take x_1.fst (be8 x_1.snd) ++ [IntKind.u8.wrap (ishr IntKind.u64 (IntKind.u64.wrap ((IntKind.u64.wrap ((↑p : Int) + IntKind.u64.wrap (↑x : Int))).tdiv (32 : Int))) (IntKind.i64.wrap ((56 : Int) - IntKind.i64.wrap ((8 : Int) * (↑x_1.fst : Int)))))])) =
     AV.d (D.str (List.take (IntKind.i64.wrap ((↑x_1.fst : Int) + (1 : Int))).toNat (be8 (IntKind.u64.wrap ((IntKind.u64.wrap ((↑p : Int) + IntKind.u64.wrap (↑x : Int))).tdiv (32 : Int))).toNat))) ∧
     True) ∧
     (sm (some (Blk.fix (D.arr IntKind.u8 (32 : Nat) (lastD k p x)))) ∧ True) ∧ true = true) ∧
     ((IntKind.i64.wrap ((↑x_1.fst : Int) + (1 : Int))).toNat ≤ (8 : Nat) ∧
     (↑(IntKind.u64.wrap ((IntKind.u64.wrap ((↑p : Int) + IntKind.u64.wrap (↑x : Int))).tdiv (32 : Int))).toNat : Int) = IntKind.u64.wrap ((IntKind.u64.wrap ((↑p : Int) + IntKind.u64.wrap (↑x : Int))).tdiv (32 : Int))) ∧
     (8 : Nat) - (IntKind.i64.wrap ((↑x_1.fst : Int) + (1 : Int))).toNat < (8 : Nat) - x_1.fst
    | false =>
     True ∧
     True ∧
     (∃ (k_1 : List Int), ∃ (p : List Int), [D.str k, D.str (List.take x_1.fst (be8 x_1.snd))] = [D.str k_1, D.str p] ∧ isB k_1 ∧ isBytes p ∧ p.length ≤ (500000000000000 : Nat)) ∧
     (Sk.arr (32 : Nat) = Sk.arr (32 : Nat) ∧ (32 : Nat) ≠ (0 : Nat) ∧ (32 : Nat) = (32 : Nat) ∧ false = false) ∧
     ((AV.d (D.val (Value.int IntKind.u64 (IntKind.u64.wrap ((IntKind.u64.wrap ((↑p : Int) + IntKind.u64.wrap (↑x : Int))).tdiv (32 : Int))))) = AV.d (D.val (Value.int IntKind.u64 (↑(IntKind.u64.wrap ((IntKind.u64.wrap ((↑p : Int) + IntKind.u64.wrap (↑x : Int))).tdiv (32 : Int))).toNat : Int))) ∧ True) ∧
     (some (Blk.fix (D.arr IntKind.u8 (32 : Nat) (mkL k (List.take x_1.fst (be8 x_1.snd))))) = some (Blk.fix (D.arr IntKind.u8 (32 : Nat) (mkL k (be8 (IntKind.u64.wrap ((IntKind.u64.wrap ((↑p : Int) + IntKind.u64.wrap (↑x : Int))).tdiv (32 : Int))).toNat)))) ∧ True) ∧ true = true) ∧
     (↑(IntKind.u64.wrap ((IntKind.u64.wrap ((↑p : Int) + IntKind.u64.wrap (↑x : Int))).tdiv (32 : Int))).toNat : Int) = IntKind.u64.wrap ((IntKind.u64.wrap ((↑p : Int) + IntKind.u64.wrap (↑x : Int))).tdiv (32 : Int))
   | false =>
    ((AV.d (D.val (Value.int IntKind.u64 (↑(lastQ p x) : Int))) = AV.d (D.val (Value.int IntKind.u64 (↑(↑(lastQ p x) : Int).toNat : Int))) ∧ True) ∧ (some (Blk.fix (D.arr IntKind.u8 (32 : Nat) (lastD k p x))) = some (Blk.fix (D.arr IntKind.u8 (32 : Nat) (mkL k (be8 (↑(lastQ p x) : Int).toNat)))) ∧ True) ∧ true = true) ∧
    (↑(↑(lastQ p x) : Int).toNat : Int) = IntKind.u64.wrap ((IntKind.u64.wrap ((↑p : Int) + IntKind.u64.wrap (↑x : Int))).tdiv (32 : Int))) ∧
    ∀ (z : Nat),
    (↑z : Int) = IntKind.u64.wrap ((IntKind.u64.wrap ((↑p : Int) + IntKind.u64.wrap (↑x : Int))).tdiv (32 : Int)) →
    true = true ∧
    True ∧
    True ∧
    (32 : Int) ≠ (0 : Int) ∧
    True ∧
    (32 : Int) ≠ (0 : Int) ∧
    True ∧
    ((0 : Int) ≤ (IntKind.u64.wrap ((↑p : Int) + IntKind.u64.wrap (↑x : Int))).tmod (32 : Int) ∧
    (IntKind.u64.wrap ((↑p : Int) + IntKind.u64.wrap (↑x : Int))).tmod (32 : Int) ≤ IntKind.u64.wrap ((IntKind.u64.wrap ((↑p : Int) + IntKind.u64.wrap (↑x : Int))).tmod (32 : Int) + (1 : Int)) ∧
    IntKind.u64.wrap ((IntKind.u64.wrap ((↑p : Int) + IntKind.u64.wrap (↑x : Int))).tmod (32 : Int) + (1 : Int)) ≤ (↑(32 : Nat) : Int) ∧ (32 : Nat) = (32 : Nat) ∧ (1 : Nat) = (1 : Nat)) ∧
    isBytes
    (List.take ((IntKind.u64.wrap ((IntKind.u64.wrap ((↑p : Int) + IntKind.u64.wrap (↑x : Int))).tmod (32 : Int) + (1 : Int))).toNat - ((IntKind.u64.wrap ((↑p : Int) + IntKind.u64.wrap (↑x : Int))).tmod (32 : Int)).toNat)
    (List.drop ((IntKind.u64.wrap ((↑p : Int) + IntKind.u64.wrap (↑x : Int))).tmod (32 : Int)).toNat (mkL k (be8 z)))) ∧
    (↑((drwL k p x).length +
    (List.take ((IntKind.u64.wrap ((IntKind.u64.wrap ((↑p : Int) + IntKind.u64.wrap (↑x : Int))).tmod (32 : Int) + (1 : Int))).toNat - ((IntKind.u64.wrap ((↑p : Int) + IntKind.u64.wrap (↑x : Int))).tmod (32 : Int)).toNat)
    (List.drop ((IntKind.u64.wrap ((↑p : Int) + IntKind.u64.wrap (↑x : Int))).tmod (32 : Int)).toNat (mkL k (be8 z)))).length) :
    Int) ≤
    (9223372036854775807 : Int) ∧
    True ∧
    True ∧
    True ∧
    ((AV.d (D.val (Value.int IntKind.i64 (IntKind.i64.wrap ((↑x : Int) + (1 : Int))))) = AV.d (D.val (Value.int IntKind.i64 (↑(IntKind.i64.wrap ((↑x : Int) + (1 : Int))).toNat : Int))) ∧
    AV.d
    (D.str
    (drwL k p x ++
    List.take ((IntKind.u64.wrap ((IntKind.u64.wrap ((↑p : Int) + IntKind.u64.wrap (↑x : Int))).tmod (32 : Int) + (1 : Int))).toNat - ((IntKind.u64.wrap ((↑p : Int) + IntKind.u64.wrap (↑x : Int))).tmod (32 : Int)).toNat)
    (List.drop ((IntKind.u64.wrap ((↑p : Int) + IntKind.u64.wrap (↑x : Int))).tmod (32 : Int)).toNat (mkL k (be8 z))))) =
    AV.d (D.str (drwL k p (IntKind.i64.wrap ((↑x : Int) + (1 : Int))).toNat)) ∧
    AV.d (D.val (Value.int IntKind.u64 (↑z : Int))) = AV.d (D.val (Value.int IntKind.u64 (↑(lastQ p (IntKind.i64.wrap ((↑x : Int) + (1 : Int))).toNat) : Int))) ∧ True) ∧
    (some (Blk.fix (D.arr IntKind.u8 (32 : Nat) (mkL k (be8 z)))) = some (Blk.fix (D.arr IntKind.u8 (32 : Nat) (lastD k p (IntKind.i64.wrap ((↑x : Int) + (1 : Int))).toNat))) ∧ True) ∧ true = true) ∧
    (IntKind.i64.wrap ((↑x : Int) + (1 : Int))).toNat ≤ n ∧ n - (IntKind.i64.wrap ((↑x : Int) + (1 : Int))).toNat < n - x
 | false => True ∧ True ∧ (false = false ∧ True) ∧ D.str (drwL k p x) = F) := by kernel_rfl
end Go.Proofs.YtkicjckhkefnpaaDoor
namespace Go.Proofs.YtkicjckhkefnpaaDoor
open Go Go.Vg
theorem itV_set (s : SR) {n x : Nat} (h : x < n) : (itV s x ++ List.replicate (n - x) 0).set x (nxV (itS s x)) = itV s (x + 1) ++ List.replicate (n - (x + 1)) 0 := by
 rw [List.set_append_right _ _ (by rw [itV_len]; omega), itV_len, Nat.sub_self, show n - x = (n - (x + 1)) + 1 by omega, List.replicate_succ, List.set_cons_zero, itV_succ, List.append_assoc]
 rfl
theorem fit_of {n : Int} (h : fitE n = 0) : 0 ≤ n ∧ n ≤ 4096 := by
 unfold fitE at h
 split at h
 ·exact absurd h (by decide)
 ·split at h
  ·exact absurd h (by decide)
  ·omega
set_option maxRecDepth 100000 in
theorem m45 : MeetsQ Tryd.prog 45 sp45 := by
 refine meetsIo_of_owed (C := c45q) ⟨tab_ok, lkS_ok ⟨m101, m95q, trivial⟩⟩ (by kernel_rfl) (by kernel_rfl : Tryd.prog.funcs[45]? = some Tryd.f45) (by kernel_rfl) (by kernel_rfl) (by kernel_rfl) _ ⟨by kernel_rfl, by kernel_rfl, by kernel_rfl⟩ ?_
 rintro x ds ⟨s, n, he, hs⟩
 obtain ⟨rfl, rfl⟩ := List.cons.inj he
 refine ⟨inv45 s n.toNat, ?_⟩
 show owedIo c45q (inv45 s n.toNat) Tryd.f45 (stQ s) [i64 n] (.tup [bysR (srOf (stQ s)) n, stR (bysS (srOf (stQ s)) n)])
 rw [srOq]
 by_cases h : fitE n = 0
 ·have hn := fit_of h
  rw [vc45, h]
  obtain ⟨m, rfl⟩ := Int.eq_ofNat_of_zero_le hn.1
  unfold bysR bysS
  rw [if_pos h, if_pos h, Int.toNat_natCast]
  simp (decide := true) only [Int.toNat_natCast, srOq, List.drop_zero, Nat.zero_add, show Int.toNat 0 = 0 from rfl, Nat.sub_zero, eq_self, true_and, and_true, ne_eq, not_false_eq_true]
  refine ⟨⟨_, rfl⟩, ⟨⟨by omega, by omega, by omega⟩, ⟨⟨rfl, rfl, rfl⟩, Nat.zero_le _⟩, fun x hx => ?_⟩⟩
  split
  ·rename_i hlt
   have hlt : x < m := by have := of_decide_eq_true hlt; omega
   have e1 : IntKind.i64.wrap ((x : Int) + 1) = ((x + 1 : Nat) : Int) := by rw [wi (by omega) (by omega)]; omega
   simp only [e1, Int.toNat_natCast, itV_set s hlt]
   refine ⟨⟨_, rfl, itS_ok hs x⟩, ⟨by omega, by omega⟩, hlt, by and_intros <;> first | trivial | rfl, by omega, by omega⟩
  ·rename_i hlt
   have hlt := of_decide_eq_false hlt
   obtain rfl : x = m := by omega
   have e : List.take x (itV s x ++ List.replicate (x - x) 0) = itV s x := by
    rw [Nat.sub_self, List.replicate_zero, List.append_nil, List.take_of_length_le (by rw [itV_len]; omega)]
   rw [e]
   rfl
 ·rw [vc45]
  have hne : (fitE n != 0) = true := by simpa using h
  rw [hne]
  unfold bysR bysS
  rw [if_neg h, if_neg h]
  simp (decide := true) only [eq_self, true_and, and_true, ne_eq, not_false_eq_true]
  exact ⟨⟨_, rfl⟩, rfl⟩
theorem drw_succ (k : List Int) (p n : Nat) : drwL k p (n + 1) = drwL k p n ++ [plcB k ((p + n) % 18446744073709551616)] := by
 unfold drwL
 rw [List.range_succ, List.map_append]
 rfl
theorem drw_len (k : List Int) (p n : Nat) : (drwL k p n).length = n := by unfold drwL; simp
theorem be8_get (q : Nat) {i : Nat} (h : i < 8) : (be8 q).getD i 0 = bE q i := by
 unfold be8
 rw [List.getD_eq_getElem?_getD, List.getElem?_map, List.getElem?_range h]
 rfl
theorem plc_at (k : List Int) (p : Nat) : [plcB k p] = ((mkL k (be8 (p / 32))).drop (p % 32)).take 1 := by
 have hl : p % 32 < (mkL k (be8 (p / 32))).length := by
  have : (mkL k (be8 (p / 32))).length = 32 := digL_len _
  omega
 rw [List.drop_eq_getElem_cons hl, List.take_succ_cons, List.take_zero]
 unfold plcB
 rw [List.getD_eq_getElem?_getD, List.getElem?_eq_getElem hl]
 rfl
set_option maxRecDepth 100000 in
theorem m46 : Meets Tryd.prog 46 sp46 := by
 refine meets_of_owed (C := c46) ⟨tab_ok, lkS_ok ⟨m79, trivial⟩⟩ (by kernel_rfl) (by kernel_rfl : Tryd.prog.funcs[46]? = some Tryd.f46) (by kernel_rfl) (by kernel_rfl) (by kernel_rfl) _ ?_
 rintro _ ⟨k, p, n, rfl, hk, hp, hn⟩
 refine ⟨fun _ => rfl, inv46 k p n, ?_⟩
 show owed c46 (inv46 k p n) Tryd.f46 [.str k, u64 p, i64 n] (.str (drwL k (p : Int).toNat (n : Int).toNat))
 rw [vc46, Int.toNat_natCast, Int.toNat_natCast]
 simp (decide := true) only [Int.toNat_natCast, sm, show Int.toNat 0 = 0 from rfl, eq_self, true_and, and_true, ne_eq, not_false_eq_true]
 refine ⟨⟨⟨by and_intros <;> first | trivial | rfl, by rfl⟩, Nat.zero_le _⟩, fun x hx => ?_⟩
 obtain ⟨P, hP⟩ : ∃ P, P = (p + x) % 18446744073709551616 := ⟨_, rfl⟩
 have hPl : P < 18446744073709551616 := by omega
 have eP : IntKind.u64.wrap ((p : Int) + IntKind.u64.wrap (x : Int)) = (P : Int) := by
  rw [wN64, Nat.mod_eq_of_lt (show x < 18446744073709551616 by omega), ← Int.natCast_add, wN64, hP]
 have eq1 : IntKind.u64.wrap ((P : Int).tdiv 32) = ((P / 32 : Nat) : Int) := by
  rw [show (32 : Int) = ((32 : Nat) : Int) from rfl, tdivN, wN64, Nat.mod_eq_of_lt (by omega)]
 have eq2 : (P : Int).tmod 32 = ((P % 32 : Nat) : Int) := by rw [show (32 : Int) = ((32 : Nat) : Int) from rfl, tmodN]
 have eq3 : IntKind.u64.wrap (((P % 32 : Nat) : Int) + 1) = ((P % 32 + 1 : Nat) : Int) := by
  rw [show ((P % 32 : Nat) : Int) + 1 = ((P % 32 + 1 : Nat) : Int) by omega, wN64, Nat.mod_eq_of_lt (by omega)]
 have e1 : IntKind.i64.wrap ((x : Int) + 1) = ((x + 1 : Nat) : Int) := by rw [wi (by omega) (by omega)]; omega
 split
 ·rename_i hlt
  have hlt : x < n := by have := of_decide_eq_true hlt; omega
  rw [eP]
  simp (decide := true) only [eq1, eq2, eq3, e1, Int.toNat_natCast, sm, eq_self, true_and, and_true, ne_eq, not_false_eq_true]
  have hlq : lastQ p (x + 1) = P / 32 := by unfold lastQ; rw [if_neg (by omega), Nat.add_sub_cancel, ← hP]
  have hld : lastD k p (x + 1) = mkL k (be8 (P / 32)) := by unfold lastD; rw [if_neg (by omega), hlq]
  have hB : ∀ z : Nat, (z : Int) = ((P / 32 : Nat) : Int) → (0 ≤ ((P % 32 : Nat) : Int) ∧ ((P % 32 : Nat) : Int) ≤ ((P % 32 + 1 : Nat) : Int) ∧ ((P % 32 + 1 : Nat) : Int) ≤ ((32 : Nat) : Int)) ∧
      isBytes (List.take (P % 32 + 1 - P % 32) (List.drop (P % 32) (mkL k (be8 z)))) ∧
       (((drwL k p x).length + (List.take (P % 32 + 1 - P % 32) (List.drop (P % 32) (mkL k (be8 z)))).length : Nat) : Int) ≤ 9223372036854775807 ∧
        ((AV.d (D.str (drwL k p x ++ List.take (P % 32 + 1 - P % 32) (List.drop (P % 32) (mkL k (be8 z))))) = AV.d (D.str (drwL k p (x + 1))) ∧
           AV.d (D.val (Value.int IntKind.u64 z)) = AV.d (D.val (Value.int IntKind.u64 (lastQ p (x + 1) : Nat)))) ∧
          some (Blk.fix (D.arr IntKind.u8 32 (mkL k (be8 z)))) = some (Blk.fix (D.arr IntKind.u8 32 (lastD k p (x + 1))))) ∧
         x + 1 ≤ n ∧ n - (x + 1) < n - x := by
   intro z hz
   obtain rfl : z = P / 32 := by omega
   rw [Nat.add_sub_cancel_left, ← plc_at k P, hlq, hld, drw_succ, ← hP, drw_len]
   refine ⟨⟨by omega, by omega, by omega⟩, fun z hz => ?_, by simp only [List.length_singleton]; omega, ⟨⟨rfl, rfl⟩, rfl⟩, by omega, by omega⟩
   rw [List.mem_singleton] at hz
   subst hz
   unfold plcB
   obtain ⟨b, e, hb⟩ := byte_at (l := mkL k (be8 (P / 32))) (digL_bytes _) (i := P % 32) (by have : (mkL k (be8 (P / 32))).length = 32 := digL_len _; omega)
   rw [e]
   omega
  split
  ·refine ⟨?_, hB⟩
   refine ⟨⟨rfl, rfl⟩, fun y hy => ?_⟩
   obtain ⟨j, q⟩ := y
   obtain ⟨hj, hq⟩ := hy
   simp only at hj hq ⊢
   obtain rfl : q = P / 32 := by omega
   split
   ·rename_i h
    have h : j < 8 := by have := of_decide_eq_true h; omega
    have e3 : IntKind.i64.wrap ((j : Int) + 1) = ((j + 1 : Nat) : Int) := by rw [wi (by omega) (by omega)]; omega
    have e4 : IntKind.i64.wrap (56 - IntKind.i64.wrap (8 * (j : Int))) = ((56 - 8 * j : Nat) : Int) := by
     rw [wi (n := 8 * (j : Int)) (by omega) (by omega), wi (by omega) (by omega)]; omega
    have e5 : IntKind.u8.wrap (ishr .u64 ((P / 32 : Nat) : Int) ((56 - 8 * j : Nat) : Int)) = bE (P / 32) j := by
     rw [ishrN .u64 (show 56 - 8 * j ≤ 64 by omega), wN8]; rfl
    have e6 : List.take (j + 1) (be8 (P / 32)) = List.take j (be8 (P / 32)) ++ [bE (P / 32) j] := by
     rw [take_snoc (by rw [be8_len]; exact h), be8_get _ h]
    have e7 : (List.take j (be8 (P / 32))).length = j := by rw [List.length_take, be8_len]; omega
    simp only [e3, e4, e5, e6, e7, Int.toNat_natCast]
    refine ⟨by omega, fun z hz => ?_, by omega, by and_intros <;> first | trivial | rfl, by omega, by omega⟩
    rw [List.mem_singleton] at hz
    subst hz
    unfold bE
    omega
   ·rename_i h
    have h := of_decide_eq_false h
    obtain rfl : j = 8 := by omega
    have e8 : List.take 8 (be8 (P / 32)) = be8 (P / 32) := List.take_of_length_le (by rw [be8_len]; omega)
    rw [e8]
    exact ⟨⟨k, _, rfl, hk, be8_bytes _, by rw [be8_len]; omega⟩, rfl⟩
  ·rename_i hx0
   have hx0 : x ≠ 0 := by have := of_decide_eq_false hx0; omega
   refine ⟨?_, hB⟩
   split
   ·refine ⟨⟨rfl, rfl⟩, fun y hy => ?_⟩
    obtain ⟨j, q⟩ := y
    obtain ⟨hj, hq⟩ := hy
    simp only at hj hq ⊢
    obtain rfl : q = P / 32 := by omega
    split
    ·rename_i h
     have h : j < 8 := by have := of_decide_eq_true h; omega
     have e3 : IntKind.i64.wrap ((j : Int) + 1) = ((j + 1 : Nat) : Int) := by rw [wi (by omega) (by omega)]; omega
     have e4 : IntKind.i64.wrap (56 - IntKind.i64.wrap (8 * (j : Int))) = ((56 - 8 * j : Nat) : Int) := by
      rw [wi (n := 8 * (j : Int)) (by omega) (by omega), wi (by omega) (by omega)]; omega
     have e5 : IntKind.u8.wrap (ishr .u64 ((P / 32 : Nat) : Int) ((56 - 8 * j : Nat) : Int)) = bE (P / 32) j := by
      rw [ishrN .u64 (show 56 - 8 * j ≤ 64 by omega), wN8]; rfl
     have e6 : List.take (j + 1) (be8 (P / 32)) = List.take j (be8 (P / 32)) ++ [bE (P / 32) j] := by
      rw [take_snoc (by rw [be8_len]; exact h), be8_get _ h]
     have e7 : (List.take j (be8 (P / 32))).length = j := by rw [List.length_take, be8_len]; omega
     simp only [e3, e4, e5, e6, e7, Int.toNat_natCast]
     refine ⟨by omega, fun z hz => ?_, by omega, by and_intros <;> first | trivial | rfl, by omega, by omega⟩
     rw [List.mem_singleton] at hz
     subst hz
     unfold bE
     omega
    ·rename_i h
     have h := of_decide_eq_false h
     obtain rfl : j = 8 := by omega
     have e8 : List.take 8 (be8 (P / 32)) = be8 (P / 32) := List.take_of_length_le (by rw [be8_len]; omega)
     rw [e8]
     exact ⟨⟨k, _, rfl, hk, be8_bytes _, by rw [be8_len]; omega⟩, rfl⟩
   ·rename_i hq
    have hq : P / 32 = lastQ p x := by
     have : (((P / 32 : Nat) : Int) == ((lastQ p x : Nat) : Int)) = true := by simpa [bne] using hq
     have := of_decide_eq_true this
     omega
    refine ⟨?_, by omega⟩
    have : lastD k p x = mkL k (be8 (lastQ p x)) := by unfold lastD; rw [if_neg hx0]
    rw [this]
 ·rename_i hlt
  have hlt := of_decide_eq_false hlt
  obtain rfl : x = n := by omega
  simp (decide := true) only [eq_self, true_and, and_true, ne_eq, not_false_eq_true]
end Go.Proofs.YtkicjckhkefnpaaDoor
namespace Go.Proofs.YtkicjckhkefnpaaDoor
open Go Go.Vg
def fstB (g : Nat → Nat) (v : Nat) : Nat → Nat → Option Nat
 | 0, _ => none
 | n + 1, t => if g t < v then some t else fstB g v n (t + 1)
def gT (s : SR) (v t : Nat) : Nat := vB 256 (itV (itS s (32 * t)) 32) % 2 ^ bl2 (v - 1)
def gR (k : List Int) (p v t : Nat) : Nat := vB 256 (drwL k ((p + 32 * t) % 18446744073709551616) 32) % 2 ^ bl2 (v - 1)
def bwV (g : Nat → Nat) (v : Nat) : List Int := if v = 0 then nB 18446744073709551616 4 0 else match fstB g v 100 0 with | some t => nB 18446744073709551616 4 (g t) | none => nB 18446744073709551616 4 0
def bwE (g : Nat → Nat) (v : Nat) : Int := if v = 0 then 1 else match fstB g v 100 0 with | some _ => 0 | none => 6
def bwN (g : Nat → Nat) (v : Nat) : Nat := if v = 0 then 0 else match fstB g v 100 0 with | some t => 32 * (t + 1) | none => 3200
def bwS (s : SR) (v : Nat) : SR := itS s (bwN (gT s v) v)
def sp97 : Go.Vg.Spec := ⟨fun ds => ∃ l, ds = [.arr .u8 32 l] ∧ isBytes l ∧ l.length = 32, fun ds => num4 (nB 18446744073709551616 4 (vB 256 (arrOf (ds.headD default)))), true, [28]⟩
def sp41 : Go.Vg.Spec := ⟨fun ds => ∃ s l, ds = [stQ s, num4 l] ∧ okR s ∧ isN l, fun ds => .tup [.tup [num4 (bwV (gT (srOf (ds.headD default)) (wv (arrOf (ds.getD 1 default)))) (wv (arrOf (ds.getD 1 default)))), i64 (bwE (gT (srOf (ds.headD default)) (wv (arrOf (ds.getD 1 default)))) (wv (arrOf (ds.getD 1 default))))], stQ (bwS (srOf (ds.headD default)) (wv (arrOf (ds.getD 1 default))))], true, [9000000, 75]⟩
def sp42 : Go.Vg.Spec := ⟨fun ds => ∃ k, ∃ p : Nat, ∃ l, ds = [.str k, u64 p, num4 l] ∧ isB k ∧ p < 18446744073709551616 ∧ isN l, fun ds => .tup [num4 (bwV (gR (strOf (ds.headD default)) (numOf (ds.getD 1 default)).toNat (wv (arrOf (ds.getD 2 default)))) (wv (arrOf (ds.getD 2 default)))), i64 (bwN (gR (strOf (ds.headD default)) (numOf (ds.getD 1 default)).toNat (wv (arrOf (ds.getD 2 default)))) (wv (arrOf (ds.getD 2 default))) : Nat), i64 (bwE (gR (strOf (ds.headD default)) (numOf (ds.getD 1 default)).toNat (wv (arrOf (ds.getD 2 default)))) (wv (arrOf (ds.getD 2 default))))], true, [9, 73, 75]⟩
def inv97 (l : List Int) : Nat → Option Inv
 | 3 => some ⟨Nat, fun i => [(7, .d (i64 i))], fun i => [(3, .fix (num4 (nB 18446744073709551616 4 (vB 256 (l.take i)))))], fun t => (slotN t 7).toNat, fun _ i => i ≤ 32, fun i => 32 - i⟩
 | _ => none
noncomputable def shL (l : List Int) (n : Int) : List Int := opq (nB 18446744073709551616 4 (shf (vB 18446744073709551616 l) n))
noncomputable def ofB (l : List Int) : List Int := opq (nB 18446744073709551616 4 (vB 256 l))
noncomputable def lnL (l : List Int) : Int := opq ((bl2 (vB 18446744073709551616 l) : Nat) : Int)
noncomputable def cmL (l m : List Int) : Int := opq (cmpN (vB 18446744073709551616 l) (vB 18446744073709551616 m))
noncomputable def sp96o : Go.Vg.Spec := ⟨sp96.pre, fun ds => num4 (shL (arrOf (ds.headD default)) (numOf (ds.getD 1 default))), true, [75, 3]⟩
noncomputable def sp97o : Go.Vg.Spec := ⟨sp97.pre, fun ds => num4 (ofB (arrOf (ds.headD default))), true, [28]⟩
noncomputable def sp94o : Go.Vg.Spec := ⟨sp94.pre, fun ds => i64 (lnL (arrOf (ds.headD default))), true, [75]⟩
noncomputable def sp98o : Go.Vg.Spec := ⟨sp98.pre, fun ds => i64 (cmL (arrOf (ds.headD default)) (arrOf (ds.getD 1 default))), true, [75, 75]⟩
noncomputable def c41 : Ctx := ⟨tab, lkS [(93, sp93), (94, sp94o), (95, sp95q), (97, sp97o), (96, sp96o), (98, sp98o)], [], []⟩
noncomputable def c42 : Ctx := ⟨tab, lkS [(48, sp48), (100, sp100), (99, sp99), (46, sp46), (54, sp54), (53, sp53), (51, sp51), (50, sp50)], [], []⟩
def nob (g : Nat → Nat) (v x : Nat) : Prop := x ≤ 100 ∧ ∀ t, t < x → ¬ g t < v
def inv41 (s : SR) (l : List Int) : Nat → Option Inv
 | 7 => some ⟨Nat, fun x => [(26, .d (i64 x))], fun x => [(1000, .fix (stQ (itS s (32 * x))))], fun t => (slotN t 26).toNat, fun _ x => nob (gT s (wv l)) (wv l) x, fun x => 100 - x⟩
 | 10 => some ⟨Nat × Nat, fun y => [(28, .d (i64 (y.1 : Int)))], fun y => [(10, .fix (.arr .u8 32 (itV (itS s (32 * y.2)) y.1 ++ List.replicate (32 - y.1) 0))), (1000, .fix (stQ (itS s (32 * y.2 + y.1))))], fun t => ((slotN t 28).toNat, (slotN t 26).toNat), fun s0 y => y.1 ≤ 32 ∧ (y.2 : Int) = slotN s0 26, fun y => 32 - y.1⟩
 | _ => none
def inv42 (k : List Int) (p : Nat) (l : List Int) : Nat → Option Inv
 | 5 => some ⟨Nat, fun n => [(10, .d (i64 n))], fun _ => [], fun t => (slotN t 10).toNat, fun _ n => n ≤ bl2 (wv l - 1), fun n => bl2 (wv l - 1) - n⟩
 | 8 => some ⟨Nat, fun x => [(28, .d (i64 x))], fun _ => [], fun t => (slotN t 28).toNat, fun _ x => nob (gR k p (wv l)) (wv l) x, fun x => 100 - x⟩
 | 13 => some ⟨Nat × List Int, fun y => [(14, .d (i64 (31 - (y.1 : Int)))), (13, .d (dgs (dg (vB 256 (y.2.drop (32 - y.1))))))], fun _ => [], fun t => ((31 - slotN t 14).toNat, strOf (slotD t 12)), fun s0 y => y.1 ≤ 32 ∧ y.2 = strOf (slotD s0 12), fun y => 32 - y.1⟩
 | _ => none
set_option maxRecDepth 100000 in
theorem vc97  (l : List Int) (F : D)  :
    (owed c0 (inv97 l) Tryd.f97 [.arr .u8 32 l] F) = (
 (True ∧ false = false) ∧
 (True ∧ (4 : Nat) ≠ (0 : Nat)) ∧
 (True ∧ (4 : Nat) ≠ (0 : Nat)) ∧
 ((32 : Nat) ≠ (0 : Nat) ∧ (32 : Nat) = (32 : Nat) ∧ true = true) ∧
 True ∧
 (((AV.d (D.val (Value.int IntKind.i64 (0 : Int))) = AV.d (D.val (Value.int IntKind.i64 (↑(Int.toNat (0 : Int)) : Int))) ∧ True) ∧
 (sm (some (Blk.fix (D.arr IntKind.u8 (32 : Nat) l))) ∧
 sm (some (Blk.fix (D.arr IntKind.u64 (4 : Nat) [(0 : Int), (0 : Int), (0 : Int), (0 : Int)]))) ∧ some (Blk.fix (D.arr IntKind.u64 (4 : Nat) [(0 : Int), (0 : Int), (0 : Int), (0 : Int)])) = some (Blk.fix (D.arr IntKind.u64 (4 : Nat) (nB (18446744073709551616 : Nat) (4 : Nat) (vB (256 : Nat) (List.take (Int.toNat (0 : Int)) l))))) ∧ True) ∧
 true = true) ∧
 Int.toNat (0 : Int) ≤ (32 : Nat)) ∧
 ∀ (x : Nat),
 x ≤ (32 : Nat) →
 true = true ∧
 True ∧
 match decide ((↑x : Int) < (32 : Int)) with
 | true =>
  True ∧
  ((0 : Int) ≤ (↑x : Int) ∧ (↑x : Int) < (↑(32 : Nat) : Int) ∧ (32 : Nat) = (32 : Nat) ∧ Ty.int IntKind.u8 = Ty.int IntKind.u8 ∧ (1 : Nat) = (1 : Nat)) ∧
  True ∧
  True ∧
  True ∧
  (8 : Int) ≠ (0 : Int) ∧
  ((0 : Int) ≤ IntKind.i64.wrap ((↑x : Int).tdiv (8 : Int)) ∧ IntKind.i64.wrap ((↑x : Int).tdiv (8 : Int)) < (↑(4 : Nat) : Int) ∧ (4 : Nat) = (4 : Nat) ∧ (1 : Nat) = (1 : Nat)) ∧
  ((1 : Nat) ≠ (0 : Nat) ∧ (1 : Nat) = (1 : Nat) ∧ false = false) ∧
  True ∧
  True ∧
  True ∧
  (8 : Int) ≠ (0 : Int) ∧
  True ∧
  True ∧
  (0 : Int) ≤ IntKind.u64.wrap (IntKind.i64.wrap ((↑x : Int).tmod (8 : Int) * (8 : Int))) ∧
  True ∧
  ((0 : Int) ≤ IntKind.i64.wrap ((↑x : Int).tdiv (8 : Int)) ∧ IntKind.i64.wrap ((↑x : Int).tdiv (8 : Int)) < (↑(4 : Nat) : Int) ∧ (4 : Nat) = (4 : Nat) ∧ (1 : Nat) = (1 : Nat)) ∧
  (((IntKind.i64.wrap ((↑x : Int).tdiv (8 : Int))).toNat < (4 : Nat) ∧ ([] : List Nat) = [] ∧ true = true) ∧ (1 : Nat) ≠ (0 : Nat) ∧ (1 : Nat) = (1 : Nat) ∧ false = false) ∧
  True ∧
  True ∧
  ((AV.d (D.val (Value.int IntKind.i64 (IntKind.i64.wrap ((↑x : Int) + (1 : Int))))) = AV.d (D.val (Value.int IntKind.i64 (↑(IntKind.i64.wrap ((↑x : Int) + (1 : Int))).toNat : Int))) ∧ True) ∧
  (sm (some (Blk.fix (D.arr IntKind.u8 (32 : Nat) l))) ∧
  sm (some (Blk.fix (D.arr IntKind.u64 (4 : Nat) [(0 : Int), (0 : Int), (0 : Int), (0 : Int)]))) ∧
  some
  (Blk.fix
  (D.arr IntKind.u64 (4 : Nat)
  ((nB (18446744073709551616 : Nat) (4 : Nat) (vB (256 : Nat) (List.take x l))).set (IntKind.i64.wrap ((↑x : Int).tdiv (8 : Int))).toNat
  (ior IntKind.u64 ((nB (18446744073709551616 : Nat) (4 : Nat) (vB (256 : Nat) (List.take x l))).getD (IntKind.i64.wrap ((↑x : Int).tdiv (8 : Int))).toNat (0 : Int))
  (ishl IntKind.u64 (IntKind.u64.wrap (l.getD (↑x : Int).toNat (0 : Int))) (IntKind.u64.wrap (IntKind.i64.wrap ((↑x : Int).tmod (8 : Int) * (8 : Int))))))))) =
  some (Blk.fix (D.arr IntKind.u64 (4 : Nat) (nB (18446744073709551616 : Nat) (4 : Nat) (vB (256 : Nat) (List.take (IntKind.i64.wrap ((↑x : Int) + (1 : Int))).toNat l))))) ∧
  True) ∧
  true = true) ∧
  (IntKind.i64.wrap ((↑x : Int) + (1 : Int))).toNat ≤ (32 : Nat) ∧ (32 : Nat) - (IntKind.i64.wrap ((↑x : Int) + (1 : Int))).toNat < (32 : Nat) - x
 | false => ((4 : Nat) ≠ (0 : Nat) ∧ (4 : Nat) = (4 : Nat) ∧ true = true) ∧ (Sk.arr (4 : Nat) = Sk.arr (4 : Nat) ∧ (4 : Nat) ≠ (0 : Nat) ∧ (4 : Nat) = (4 : Nat) ∧ false = false) ∧ (((4 : Nat) ≠ (0 : Nat) ∧ (4 : Nat) = (4 : Nat) ∧ true = true) ∧ True) ∧ D.arr IntKind.u64 (4 : Nat) (nB (18446744073709551616 : Nat) (4 : Nat) (vB (256 : Nat) (List.take x l))) = F) := by kernel_rfl
set_option maxRecDepth 100000 in
theorem vc41  (s : SR) (l : List Int) (F : D)  :
    (owedIo c41 (inv41 s l) Tryd.f41 (stQ s) [num4 l] F) = (
 (True ∧ false = false) ∧
 (True ∧ (4 : Nat) ≠ (0 : Nat)) ∧
 True ∧
 (True ∧ (4 : Nat) ≠ (0 : Nat)) ∧
 ((4 : Nat) ≠ (0 : Nat) ∧ (4 : Nat) = (4 : Nat) ∧ true = true) ∧
 ((4 : Nat) ≠ (0 : Nat) ∧ (4 : Nat) = (4 : Nat) ∧ true = true) ∧
 (IntKind.u64 = IntKind.u64 ∧ IntKind.u64 = IntKind.u64 ∧ (4 : Nat) = (4 : Nat) ∧ (4 : Nat) = (4 : Nat) ∧ (1 : Nat) = (1 : Nat)) ∧
 match eqB l [(0 : Int), (0 : Int), (0 : Int), (0 : Int)] with
 | true =>
  ((4 : Nat) ≠ (0 : Nat) ∧ (4 : Nat) = (4 : Nat) ∧ true = true) ∧
  (Sk.arr (4 : Nat) = Sk.arr (4 : Nat) ∧ (4 : Nat) ≠ (0 : Nat) ∧ (4 : Nat) = (4 : Nat) ∧ false = false) ∧
  True ∧
  (((4 : Nat) ≠ (0 : Nat) ∧ (4 : Nat) = (4 : Nat) ∧ true = true) ∧ false = false ∧ True) ∧
  Sk.st [Sk.st [Sk.st [Sk.arr (8 : Nat), Sk.one, Sk.arr (64 : Nat)], Sk.st [Sk.arr (8 : Nat), Sk.one, Sk.arr (64 : Nat)]], Sk.one, Sk.arr (32 : Nat), Sk.one] = Sk.st [Sk.st [Sk.st [Sk.arr (8 : Nat), Sk.one, Sk.arr (64 : Nat)], Sk.st [Sk.arr (8 : Nat), Sk.one, Sk.arr (64 : Nat)]], Sk.one, Sk.arr (32 : Nat), Sk.one] ∧
  D.tup [D.tup [D.arr IntKind.u64 (4 : Nat) [(0 : Int), (0 : Int), (0 : Int), (0 : Int)], D.val (Value.int IntKind.i64 (1 : Int))], stQ s] = F
 | false =>
  ((4 : Nat) ≠ (0 : Nat) ∧ (4 : Nat) = (4 : Nat) ∧ true = true) ∧
  ((1 : Nat) = (1 : Nat) ∧ false = false ∧ ((0 : Nat) < (4 : Nat) ∧ ([] : List Nat) = [] ∧ true = true) ∧ True) ∧
  (∃ (l_1 : List Int), ∃ (m : List Int), [D.arr IntKind.u64 (4 : Nat) l, D.arr IntKind.u64 (4 : Nat) [(1 : Int), (0 : Int), (0 : Int), (0 : Int)]] = [D.arr IntKind.u64 (4 : Nat) l_1, D.arr IntKind.u64 (4 : Nat) m] ∧ (okw l_1 ∧ l_1.length = (4 : Nat)) ∧ okw m ∧ m.length = (4 : Nat)) ∧
  True ∧
  ((0 : Nat) < (2 : Nat) ∧ false = false) ∧
  ((1 : Nat) < (2 : Nat) ∧ false = false) ∧
  (True ∧ (4 : Nat) ≠ (0 : Nat)) ∧
  (Sk.arr (4 : Nat) = Sk.arr (4 : Nat) ∧ (4 : Nat) ≠ (0 : Nat) ∧ (4 : Nat) = (4 : Nat) ∧ false = false) ∧
  True ∧
  ((4 : Nat) ≠ (0 : Nat) ∧ (4 : Nat) = (4 : Nat) ∧ true = true) ∧
  (∃ (l_1 : List Int), [D.arr IntKind.u64 (4 : Nat) (nB (18446744073709551616 : Nat) (4 : Nat) (dif (vB (18446744073709551616 : Nat) l) (vB (18446744073709551616 : Nat) [(1 : Int), (0 : Int), (0 : Int), (0 : Int)])))] = [D.arr IntKind.u64 (4 : Nat) l_1] ∧ isN l_1) ∧
  True ∧
  True ∧
  True ∧
  (((AV.d (D.val (Value.int IntKind.i64 (0 : Int))) = AV.d (D.val (Value.int IntKind.i64 (↑(Int.toNat (0 : Int)) : Int))) ∧ True) ∧
  (sm (some (Blk.fix (D.arr IntKind.u64 (4 : Nat) l))) ∧
  sm (some (Blk.fix (D.arr IntKind.u64 (4 : Nat) [(0 : Int), (0 : Int), (0 : Int), (0 : Int)]))) ∧
  sm (some (Blk.fix (D.arr IntKind.u64 (4 : Nat) [(0 : Int), (0 : Int), (0 : Int), (0 : Int)]))) ∧
  sm (some (Blk.fix (D.arr IntKind.u64 (4 : Nat) (nB (18446744073709551616 : Nat) (4 : Nat) (dif (vB (18446744073709551616 : Nat) l) (vB (18446744073709551616 : Nat) [(1 : Int), (0 : Int), (0 : Int), (0 : Int)])))))) ∧ some (Blk.fix (stQ s)) = some (Blk.fix (stQ (itS s (0 : Nat)))) ∧ True) ∧
  true = true) ∧
  nob (gT s (vB (18446744073709551616 : Nat) l)) (vB (18446744073709551616 : Nat) l) (Int.toNat (0 : Int))) ∧
  ∀ (x : Nat),
  nob (gT s (vB (18446744073709551616 : Nat) l)) (vB (18446744073709551616 : Nat) l) x →
  true = true ∧
  True ∧
  match decide ((↑x : Int) < (100 : Int)) with
  | true =>
   (True ∧ (32 : Nat) ≠ (0 : Nat)) ∧
   True ∧
   (((AV.d (D.val (Value.int IntKind.i64 (0 : Int))) = AV.d (D.val (Value.int IntKind.i64 (↑(0 : Nat) : Int))) ∧ True) ∧
   (sm (some (Blk.fix (D.arr IntKind.u64 (4 : Nat) l))) ∧
   sm (some (Blk.fix (D.arr IntKind.u64 (4 : Nat) [(0 : Int), (0 : Int), (0 : Int), (0 : Int)]))) ∧
   sm (some (Blk.fix (D.arr IntKind.u64 (4 : Nat) [(0 : Int), (0 : Int), (0 : Int), (0 : Int)]))) ∧
   sm (some (Blk.fix (D.arr IntKind.u64 (4 : Nat) (nB (18446744073709551616 : Nat) (4 : Nat) (dif (vB (18446744073709551616 : Nat) l) (vB (18446744073709551616 : Nat) [(1 : Int), (0 : Int), (0 : Int), (0 : Int)])))))) ∧
   some
   (Blk.fix
   (D.arr IntKind.u8 (32 : Nat)
   [(0 : Int), (0 : Int), (0 : Int), (0 : Int), (0 : Int), (0 : Int), (0 : Int), (0 : Int), (0 : Int), (0 : Int), (0 : Int), (0 : Int), (0 : Int), (0 : Int), (0 : Int), (0 : Int), (0 : Int), (0 : Int), (0 : Int), (0 : Int), (0 : Int), (0 : Int), (0 : Int), (0 : Int), (0 : Int), (0 : Int), (0 : Int), (0 : Int),
   (0 : Int), (0 : Int), (0 : Int), (0 : Int)])) =
   some
   (Blk.fix
   (D.arr IntKind.u8 (32 : Nat)
   (itV (itS s ((32 : Nat) * (↑x : Int).toNat)) (0 : Nat) ++
   [(0 : Int), (0 : Int), (0 : Int), (0 : Int), (0 : Int), (0 : Int), (0 : Int), (0 : Int), (0 : Int), (0 : Int), (0 : Int), (0 : Int), (0 : Int), (0 : Int), (0 : Int), (0 : Int), (0 : Int), (0 : Int), (0 : Int), (0 : Int), (0 : Int), (0 : Int), (0 : Int), (0 : Int), (0 : Int), (0 : Int), (0 : Int), (0 : Int),
   (0 : Int), (0 : Int), (0 : Int), (0 : Int)]))) ∧
   some (Blk.fix (stQ (itS s ((32 : Nat) * x)))) = some (Blk.fix (stQ (itS s ((32 : Nat) * (↑x : Int).toNat + (0 : Nat))))) ∧ True) ∧
   true = true) ∧
   (0 : Nat) ≤ (32 : Nat) ∧ (↑(↑x : Int).toNat : Int) = (↑x : Int)) ∧
   ∀ (x_1 : Nat × Nat),
   x_1.fst ≤ (32 : Nat) ∧ (↑x_1.snd : Int) = (↑x : Int) →
   true = true ∧
   True ∧
   match decide ((↑x_1.fst : Int) < (32 : Int)) with
   | true =>
    True ∧
    True ∧
    True ∧
    True ∧
    (∃ (s_1 : SR), [stQ (itS s ((32 : Nat) * x_1.snd + x_1.fst))] = [stQ s_1] ∧ okR s_1) ∧
    ((0 : Int) ≤ (↑x_1.fst : Int) ∧ (↑x_1.fst : Int) < (↑(32 : Nat) : Int) ∧ (32 : Nat) = (32 : Nat) ∧ (1 : Nat) = (1 : Nat)) ∧
    (((↑x_1.fst : Int).toNat < (32 : Nat) ∧ ([] : List Nat) = [] ∧ true = true) ∧ (1 : Nat) ≠ (0 : Nat) ∧ (1 : Nat) = (1 : Nat) ∧ false = false) ∧
    True ∧
    True ∧
    ((AV.d (D.val (Value.int IntKind.i64 (IntKind.i64.wrap ((↑x_1.fst : Int) + (1 : Int))))) = AV.d (D.val (Value.int IntKind.i64 (↑(IntKind.i64.wrap ((↑x_1.fst : Int) + (1 : Int))).toNat : Int))) ∧ True) ∧
    (sm (some (Blk.fix (D.arr IntKind.u64 (4 : Nat) l))) ∧
    sm (some (Blk.fix (D.arr IntKind.u64 (4 : Nat) [(0 : Int), (0 : Int), (0 : Int), (0 : Int)]))) ∧
    sm (some (Blk.fix (D.arr IntKind.u64 (4 : Nat) [(0 : Int), (0 : Int), (0 : Int), (0 : Int)]))) ∧
    sm (some (Blk.fix (D.arr IntKind.u64 (4 : Nat) (nB (18446744073709551616 : Nat) (4 : Nat) (dif (vB (18446744073709551616 : Nat) l) (vB (18446744073709551616 : Nat) [(1 : Int), (0 : Int), (0 : Int), (0 : Int)])))))) ∧
    some (Blk.fix (D.arr IntKind.u8 (32 : Nat) ((itV (itS s ((32 : Nat) * x_1.snd)) x_1.fst ++ List.replicate ((32 : Nat) - x_1.fst) (0 : Int)).set (↑x_1.fst : Int).toNat (nxV (srOf (stQ (itS s ((32 : Nat) * x_1.snd + x_1.fst)))))))) =
    some (Blk.fix (D.arr IntKind.u8 (32 : Nat) (itV (itS s ((32 : Nat) * (↑x : Int).toNat)) (IntKind.i64.wrap ((↑x_1.fst : Int) + (1 : Int))).toNat ++ List.replicate ((32 : Nat) - (IntKind.i64.wrap ((↑x_1.fst : Int) + (1 : Int))).toNat) (0 : Int)))) ∧
    some (Blk.fix (stQ (nxS (srOf (stQ (itS s ((32 : Nat) * x_1.snd + x_1.fst))))))) = some (Blk.fix (stQ (itS s ((32 : Nat) * (↑x : Int).toNat + (IntKind.i64.wrap ((↑x_1.fst : Int) + (1 : Int))).toNat)))) ∧ True) ∧
    true = true) ∧
    ((IntKind.i64.wrap ((↑x_1.fst : Int) + (1 : Int))).toNat ≤ (32 : Nat) ∧ (↑(↑x : Int).toNat : Int) = (↑x : Int)) ∧ (32 : Nat) - (IntKind.i64.wrap ((↑x_1.fst : Int) + (1 : Int))).toNat < (32 : Nat) - x_1.fst
   | false =>
    ((32 : Nat) ≠ (0 : Nat) ∧ (32 : Nat) = (32 : Nat) ∧ true = true) ∧
    (∃ (l : List Int), [D.arr IntKind.u8 (32 : Nat) (itV (itS s ((32 : Nat) * x_1.snd)) x_1.fst ++ List.replicate ((32 : Nat) - x_1.fst) (0 : Int))] = [D.arr IntKind.u8 (32 : Nat) l] ∧ isBytes l ∧ l.length = (32 : Nat)) ∧
    True ∧
    True ∧
    (∃ (l_1 : List Int),
    ∃ (n : Int),
    [D.arr IntKind.u64 (4 : Nat) (ofB (itV (itS s ((32 : Nat) * x_1.snd)) x_1.fst ++ List.replicate ((32 : Nat) - x_1.fst) (0 : Int))),
    D.val (Value.int IntKind.i64 (IntKind.i64.wrap ((0 : Int) - IntKind.i64.wrap (lnL (nB (18446744073709551616 : Nat) (4 : Nat) (dif (vB (18446744073709551616 : Nat) l) (vB (18446744073709551616 : Nat) [(1 : Int), (0 : Int), (0 : Int), (0 : Int)]))) - (256 : Int)))))] =
    [D.arr IntKind.u64 (4 : Nat) l_1, D.val (Value.int IntKind.i64 n)] ∧
    (okw l_1 ∧ l_1.length = (4 : Nat)) ∧ i64ok n) ∧
    True ∧
    (∃ (l_1 : List Int),
    ∃ (n : Int),
    [D.arr IntKind.u64 (4 : Nat)
    (shL (ofB (itV (itS s ((32 : Nat) * x_1.snd)) x_1.fst ++ List.replicate ((32 : Nat) - x_1.fst) (0 : Int)))
    (IntKind.i64.wrap ((0 : Int) - IntKind.i64.wrap (lnL (nB (18446744073709551616 : Nat) (4 : Nat) (dif (vB (18446744073709551616 : Nat) l) (vB (18446744073709551616 : Nat) [(1 : Int), (0 : Int), (0 : Int), (0 : Int)]))) - (256 : Int))))),
    D.val (Value.int IntKind.i64 (IntKind.i64.wrap (lnL (nB (18446744073709551616 : Nat) (4 : Nat) (dif (vB (18446744073709551616 : Nat) l) (vB (18446744073709551616 : Nat) [(1 : Int), (0 : Int), (0 : Int), (0 : Int)]))) - (256 : Int))))] =
    [D.arr IntKind.u64 (4 : Nat) l_1, D.val (Value.int IntKind.i64 n)] ∧
    (okw l_1 ∧ l_1.length = (4 : Nat)) ∧ i64ok n) ∧
    (True ∧ (4 : Nat) ≠ (0 : Nat)) ∧
    (Sk.arr (4 : Nat) = Sk.arr (4 : Nat) ∧ (4 : Nat) ≠ (0 : Nat) ∧ (4 : Nat) = (4 : Nat) ∧ false = false) ∧
    ((4 : Nat) ≠ (0 : Nat) ∧ (4 : Nat) = (4 : Nat) ∧ true = true) ∧
    ((4 : Nat) ≠ (0 : Nat) ∧ (4 : Nat) = (4 : Nat) ∧ true = true) ∧
    (∃ (l_1 : List Int),
    ∃ (m : List Int),
    [D.arr IntKind.u64 (4 : Nat)
    (shL
    (shL (ofB (itV (itS s ((32 : Nat) * x_1.snd)) x_1.fst ++ List.replicate ((32 : Nat) - x_1.fst) (0 : Int)))
    (IntKind.i64.wrap ((0 : Int) - IntKind.i64.wrap (lnL (nB (18446744073709551616 : Nat) (4 : Nat) (dif (vB (18446744073709551616 : Nat) l) (vB (18446744073709551616 : Nat) [(1 : Int), (0 : Int), (0 : Int), (0 : Int)]))) - (256 : Int)))))
    (IntKind.i64.wrap (lnL (nB (18446744073709551616 : Nat) (4 : Nat) (dif (vB (18446744073709551616 : Nat) l) (vB (18446744073709551616 : Nat) [(1 : Int), (0 : Int), (0 : Int), (0 : Int)]))) - (256 : Int)))),
    D.arr IntKind.u64 (4 : Nat) l] =
    [D.arr IntKind.u64 (4 : Nat) l_1, D.arr IntKind.u64 (4 : Nat) m] ∧
    (okw l_1 ∧ l_1.length = (4 : Nat)) ∧ okw m ∧ m.length = (4 : Nat)) ∧
    True ∧
    match
    decide
    (cmL
    (shL
    (shL (ofB (itV (itS s ((32 : Nat) * x_1.snd)) x_1.fst ++ List.replicate ((32 : Nat) - x_1.fst) (0 : Int)))
    (IntKind.i64.wrap ((0 : Int) - IntKind.i64.wrap (lnL (nB (18446744073709551616 : Nat) (4 : Nat) (dif (vB (18446744073709551616 : Nat) l) (vB (18446744073709551616 : Nat) [(1 : Int), (0 : Int), (0 : Int), (0 : Int)]))) - (256 : Int)))))
    (IntKind.i64.wrap (lnL (nB (18446744073709551616 : Nat) (4 : Nat) (dif (vB (18446744073709551616 : Nat) l) (vB (18446744073709551616 : Nat) [(1 : Int), (0 : Int), (0 : Int), (0 : Int)]))) - (256 : Int))))
    l <
    (0 : Int)) with
    | true =>
     ((4 : Nat) ≠ (0 : Nat) ∧ (4 : Nat) = (4 : Nat) ∧ true = true) ∧
     (Sk.arr (4 : Nat) = Sk.arr (4 : Nat) ∧ (4 : Nat) ≠ (0 : Nat) ∧ (4 : Nat) = (4 : Nat) ∧ false = false) ∧
     True ∧
     (((4 : Nat) ≠ (0 : Nat) ∧ (4 : Nat) = (4 : Nat) ∧ true = true) ∧ false = false ∧ True) ∧
     Sk.st [Sk.st [Sk.st [Sk.arr (8 : Nat), Sk.one, Sk.arr (64 : Nat)], Sk.st [Sk.arr (8 : Nat), Sk.one, Sk.arr (64 : Nat)]], Sk.one, Sk.arr (32 : Nat), Sk.one] =
     Sk.st [Sk.st [Sk.st [Sk.arr (8 : Nat), Sk.one, Sk.arr (64 : Nat)], Sk.st [Sk.arr (8 : Nat), Sk.one, Sk.arr (64 : Nat)]], Sk.one, Sk.arr (32 : Nat), Sk.one] ∧
     D.tup
     [D.tup
     [D.arr IntKind.u64 (4 : Nat)
     (shL
     (shL (ofB (itV (itS s ((32 : Nat) * x_1.snd)) x_1.fst ++ List.replicate ((32 : Nat) - x_1.fst) (0 : Int)))
     (IntKind.i64.wrap ((0 : Int) - IntKind.i64.wrap (lnL (nB (18446744073709551616 : Nat) (4 : Nat) (dif (vB (18446744073709551616 : Nat) l) (vB (18446744073709551616 : Nat) [(1 : Int), (0 : Int), (0 : Int), (0 : Int)]))) - (256 : Int)))))
     (IntKind.i64.wrap (lnL (nB (18446744073709551616 : Nat) (4 : Nat) (dif (vB (18446744073709551616 : Nat) l) (vB (18446744073709551616 : Nat) [(1 : Int), (0 : Int), (0 : Int), (0 : Int)]))) - (256 : Int)))),
     D.val (Value.int IntKind.i64 (0 : Int))],
     stQ (itS s ((32 : Nat) * x_1.snd + x_1.fst))] =
     F
    | false =>
     True ∧
     True ∧
     ((AV.d (D.val (Value.int IntKind.i64 (IntKind.i64.wrap ((↑x : Int) + (1 : Int))))) = AV.d (D.val (Value.int IntKind.i64 (↑(IntKind.i64.wrap ((↑x : Int) + (1 : Int))).toNat : Int))) ∧ True) ∧
     (sm (some (Blk.fix (D.arr IntKind.u64 (4 : Nat) l))) ∧
     sm (some (Blk.fix (D.arr IntKind.u64 (4 : Nat) [(0 : Int), (0 : Int), (0 : Int), (0 : Int)]))) ∧
     sm (some (Blk.fix (D.arr IntKind.u64 (4 : Nat) [(0 : Int), (0 : Int), (0 : Int), (0 : Int)]))) ∧
     sm (some (Blk.fix (D.arr IntKind.u64 (4 : Nat) (nB (18446744073709551616 : Nat) (4 : Nat) (dif (vB (18446744073709551616 : Nat) l) (vB (18446744073709551616 : Nat) [(1 : Int), (0 : Int), (0 : Int), (0 : Int)])))))) ∧
     some (Blk.fix (stQ (itS s ((32 : Nat) * x_1.snd + x_1.fst)))) = some (Blk.fix (stQ (itS s ((32 : Nat) * (IntKind.i64.wrap ((↑x : Int) + (1 : Int))).toNat)))) ∧ True) ∧
     true = true) ∧
     nob (gT s (vB (18446744073709551616 : Nat) l)) (vB (18446744073709551616 : Nat) l) (IntKind.i64.wrap ((↑x : Int) + (1 : Int))).toNat ∧ (100 : Nat) - (IntKind.i64.wrap ((↑x : Int) + (1 : Int))).toNat < (100 : Nat) - x
  | false =>
   ((4 : Nat) ≠ (0 : Nat) ∧ (4 : Nat) = (4 : Nat) ∧ true = true) ∧
   (Sk.arr (4 : Nat) = Sk.arr (4 : Nat) ∧ (4 : Nat) ≠ (0 : Nat) ∧ (4 : Nat) = (4 : Nat) ∧ false = false) ∧
   True ∧
   (((4 : Nat) ≠ (0 : Nat) ∧ (4 : Nat) = (4 : Nat) ∧ true = true) ∧ false = false ∧ True) ∧
   Sk.st [Sk.st [Sk.st [Sk.arr (8 : Nat), Sk.one, Sk.arr (64 : Nat)], Sk.st [Sk.arr (8 : Nat), Sk.one, Sk.arr (64 : Nat)]], Sk.one, Sk.arr (32 : Nat), Sk.one] = Sk.st [Sk.st [Sk.st [Sk.arr (8 : Nat), Sk.one, Sk.arr (64 : Nat)], Sk.st [Sk.arr (8 : Nat), Sk.one, Sk.arr (64 : Nat)]], Sk.one, Sk.arr (32 : Nat), Sk.one] ∧
   D.tup [D.tup [D.arr IntKind.u64 (4 : Nat) [(0 : Int), (0 : Int), (0 : Int), (0 : Int)], D.val (Value.int IntKind.i64 (6 : Int))], stQ (itS s ((32 : Nat) * x))] = F) := by kernel_rfl
set_option maxRecDepth 100000 in
theorem vc42  (k : List Int) (p : Nat) (l : List Int) (F : D)  :
    (owed c42 (inv42 k p l) Tryd.f42 [.str k, u64 p, num4 l] F) = (
 (True ∧ false = false) ∧
 (True ∧ (4 : Nat) ≠ (0 : Nat)) ∧
 True ∧
 True ∧
 ((4 : Nat) ≠ (0 : Nat) ∧ (4 : Nat) = (4 : Nat) ∧ true = true) ∧
 (∃ (l_1 : List Int), [D.arr IntKind.u64 (4 : Nat) l] = [D.arr IntKind.u64 (4 : Nat) l_1] ∧ okw l_1 ∧ l_1.length = (4 : Nat)) ∧
 True ∧
 True ∧
 True ∧
 True ∧
 match (↑(dg (vB (18446744073709551616 : Nat) l)).length : Int) == (0 : Int) with
 | true =>
  ((1 : Nat) = (1 : Nat) ∧ True) ∧
  (Sk.arr (4 : Nat) = Sk.arr (4 : Nat) ∧ (4 : Nat) ≠ (0 : Nat) ∧ (4 : Nat) = (4 : Nat) ∧ false = false) ∧
  True ∧ True ∧ (((4 : Nat) ≠ (0 : Nat) ∧ (4 : Nat) = (4 : Nat) ∧ true = true) ∧ false = false ∧ false = false ∧ True) ∧ D.tup [D.arr IntKind.u64 (4 : Nat) [(0 : Int), (0 : Int), (0 : Int), (0 : Int)], D.val (Value.int IntKind.i64 (0 : Int)), D.val (Value.int IntKind.i64 (1 : Int))] = F
 | false =>
  True ∧
  (((AV.d (D.val (Value.int IntKind.i64 (0 : Int))) = AV.d (D.val (Value.int IntKind.i64 (↑(Int.toNat (0 : Int)) : Int))) ∧ True) ∧ (sm (some (Blk.fix (D.arr IntKind.u64 (4 : Nat) l))) ∧ sm (some (Blk.fix (D.arr IntKind.u64 (4 : Nat) [(0 : Int), (0 : Int), (0 : Int), (0 : Int)]))) ∧ True) ∧ true = true) ∧
  Int.toNat (0 : Int) ≤ bl2 (vB (18446744073709551616 : Nat) l - (1 : Nat))) ∧
  ∀ (x : Nat),
  x ≤ bl2 (vB (18446744073709551616 : Nat) l - (1 : Nat)) →
  true = true ∧
  True ∧
  (∃ (n : Int), [D.val (Value.int IntKind.i64 (↑x : Int))] = [D.val (Value.int IntKind.i64 n)] ∧ (0 : Int) ≤ n ∧ n ≤ (1048576 : Int)) ∧
  True ∧
  (∃ (l_1 : List Int), ∃ (m : List Int), [D.ints IntKind.i64 (dgP (↑x : Int).toNat), D.ints IntKind.i64 (dg (vB (18446744073709551616 : Nat) l))] = [D.ints IntKind.i64 l_1, D.ints IntKind.i64 m] ∧ (okd l_1 ∧ lenS l_1) ∧ okd m ∧ lenS m) ∧
  True ∧
  match decide (cmpN (vB (65536 : Nat) (dgP (↑x : Int).toNat)) (vB (65536 : Nat) (dg (vB (18446744073709551616 : Nat) l))) < (0 : Int)) with
  | true =>
   True ∧
   True ∧
   True ∧
   ((AV.d (D.val (Value.int IntKind.i64 (IntKind.i64.wrap ((↑x : Int) + (1 : Int))))) = AV.d (D.val (Value.int IntKind.i64 (↑(IntKind.i64.wrap ((↑x : Int) + (1 : Int))).toNat : Int))) ∧ True) ∧
   (sm (some (Blk.fix (D.arr IntKind.u64 (4 : Nat) l))) ∧ sm (some (Blk.fix (D.arr IntKind.u64 (4 : Nat) [(0 : Int), (0 : Int), (0 : Int), (0 : Int)]))) ∧ True) ∧ true = true) ∧
   (IntKind.i64.wrap ((↑x : Int) + (1 : Int))).toNat ≤ bl2 (vB (18446744073709551616 : Nat) l - (1 : Nat)) ∧ bl2 (vB (18446744073709551616 : Nat) l - (1 : Nat)) - (IntKind.i64.wrap ((↑x : Int) + (1 : Int))).toNat < bl2 (vB (18446744073709551616 : Nat) l - (1 : Nat)) - x
  | false =>
   True ∧
   (((AV.d (D.val (Value.int IntKind.i64 (0 : Int))) = AV.d (D.val (Value.int IntKind.i64 (↑(Int.toNat (0 : Int)) : Int))) ∧ True) ∧ (sm (some (Blk.fix (D.arr IntKind.u64 (4 : Nat) l))) ∧ sm (some (Blk.fix (D.arr IntKind.u64 (4 : Nat) [(0 : Int), (0 : Int), (0 : Int), (0 : Int)]))) ∧ True) ∧ true = true) ∧
   nob (gR k p (vB (18446744073709551616 : Nat) l)) (vB (18446744073709551616 : Nat) l) (Int.toNat (0 : Int))) ∧
   ∀ (x_1 : Nat),
   nob (gR k p (vB (18446744073709551616 : Nat) l)) (vB (18446744073709551616 : Nat) l) x_1 →
   true = true ∧
   True ∧
   match decide ((↑x_1 : Int) < (100 : Int)) with
   | true =>
    True ∧
    True ∧
    True ∧
    True ∧
    True ∧
    True ∧
    True ∧
    True ∧
    (∃ (k_1 : List Int),
    ∃ (p_1 : Nat),
    ∃ (n : Nat),
    [D.str k, D.val (Value.int IntKind.u64 (IntKind.u64.wrap ((↑p : Int) + IntKind.u64.wrap ((32 : Int) * IntKind.u64.wrap (↑x_1 : Int))))), D.val (Value.int IntKind.i64 (32 : Int))] = [D.str k_1, D.val (Value.int IntKind.u64 (↑p_1 : Int)), D.val (Value.int IntKind.i64 (↑n : Int))] ∧
    isB k_1 ∧ p_1 < (18446744073709551616 : Nat) ∧ n ≤ (1000000 : Nat)) ∧
    True ∧
    True ∧
    True ∧
    (((AV.d (D.val (Value.int IntKind.i64 (31 : Int))) = AV.d (D.val (Value.int IntKind.i64 ((31 : Int) - (↑((31 : Int) - (31 : Int)).toNat : Int)))) ∧
    dg (vB (256 : Nat) (List.drop ((32 : Nat) - ((31 : Int) - (31 : Int)).toNat) (drwL k (IntKind.u64.wrap ((↑p : Int) + IntKind.u64.wrap ((32 : Int) * IntKind.u64.wrap (↑x_1 : Int)))).toNat (32 : Nat)))) = [] ∧ True) ∧
    (sm (some (Blk.fix (D.arr IntKind.u64 (4 : Nat) l))) ∧ sm (some (Blk.fix (D.arr IntKind.u64 (4 : Nat) [(0 : Int), (0 : Int), (0 : Int), (0 : Int)]))) ∧ True) ∧ true = true) ∧
    ((31 : Int) - (31 : Int)).toNat ≤ (32 : Nat) ∧ drwL k (IntKind.u64.wrap ((↑p : Int) + IntKind.u64.wrap ((32 : Int) * IntKind.u64.wrap (↑x_1 : Int)))).toNat (32 : Nat) = drwL k (IntKind.u64.wrap ((↑p : Int) + IntKind.u64.wrap ((32 : Int) * IntKind.u64.wrap (↑x_1 : Int)))).toNat (32 : Nat)) ∧
    ∀ (x_2 : Nat × List Int),
    x_2.fst ≤ (32 : Nat) ∧ x_2.snd = drwL k (IntKind.u64.wrap ((↑p : Int) + IntKind.u64.wrap ((32 : Int) * IntKind.u64.wrap (↑x_1 : Int)))).toNat (32 : Nat) →
    true = true ∧
    True ∧
    True ∧
    match decide ((31 : Int) - (↑x_2.fst : Int) ≥ (0 : Int)) with
    | true =>
     True ∧
     ((1 : Nat) = (1 : Nat) ∧ (1 : Nat) ≤ (4096 : Nat)) ∧
     (∃ (l : List Int), ∃ (m : List Int), [D.ints IntKind.i64 (dg (vB (256 : Nat) (List.drop ((32 : Nat) - x_2.fst) x_2.snd))), D.ints IntKind.i64 [(256 : Int)]] = [D.ints IntKind.i64 l, D.ints IntKind.i64 m] ∧ (okd l ∧ lenS l) ∧ okd m ∧ lenS m) ∧
     True ∧
     True ∧
     ((0 : Int) ≤ (31 : Int) - (↑x_2.fst : Int) ∧ (31 : Int) - (↑x_2.fst : Int) < (↑(drwL k (IntKind.u64.wrap ((↑p : Int) + IntKind.u64.wrap ((32 : Int) * IntKind.u64.wrap (↑x_1 : Int)))).toNat (32 : Nat)).length : Int)) ∧
     True ∧
     ((1 : Nat) = (1 : Nat) ∧ (1 : Nat) ≤ (4096 : Nat)) ∧
     (∃ (l : List Int),
     ∃ (m : List Int),
     [D.ints IntKind.i64 (dg (vB (65536 : Nat) (dg (vB (256 : Nat) (List.drop ((32 : Nat) - x_2.fst) x_2.snd))) * vB (65536 : Nat) [(256 : Int)])),
     D.ints IntKind.i64 [IntKind.i64.wrap ((drwL k (IntKind.u64.wrap ((↑p : Int) + IntKind.u64.wrap ((32 : Int) * IntKind.u64.wrap (↑x_1 : Int)))).toNat (32 : Nat)).getD ((31 : Int) - (↑x_2.fst : Int)).toNat (0 : Int))]] =
     [D.ints IntKind.i64 l, D.ints IntKind.i64 m] ∧
     (okd l ∧ lenS l) ∧ okd m ∧ lenS m) ∧
     True ∧
     True ∧
     True ∧
     True ∧
     ((AV.d (D.val (Value.int IntKind.i64 (IntKind.i64.wrap ((31 : Int) - (↑x_2.fst : Int) - (1 : Int))))) = AV.d (D.val (Value.int IntKind.i64 ((31 : Int) - (↑((31 : Int) - IntKind.i64.wrap ((31 : Int) - (↑x_2.fst : Int) - (1 : Int))).toNat : Int)))) ∧
     AV.d
     (D.ints IntKind.i64
     (dg
     (vB (65536 : Nat) (dg (vB (65536 : Nat) (dg (vB (256 : Nat) (List.drop ((32 : Nat) - x_2.fst) x_2.snd))) * vB (65536 : Nat) [(256 : Int)])) +
     vB (65536 : Nat) [IntKind.i64.wrap ((drwL k (IntKind.u64.wrap ((↑p : Int) + IntKind.u64.wrap ((32 : Int) * IntKind.u64.wrap (↑x_1 : Int)))).toNat (32 : Nat)).getD ((31 : Int) - (↑x_2.fst : Int)).toNat (0 : Int))]))) =
     AV.d
     (D.ints IntKind.i64
     (dg (vB (256 : Nat) (List.drop ((32 : Nat) - ((31 : Int) - IntKind.i64.wrap ((31 : Int) - (↑x_2.fst : Int) - (1 : Int))).toNat) (drwL k (IntKind.u64.wrap ((↑p : Int) + IntKind.u64.wrap ((32 : Int) * IntKind.u64.wrap (↑x_1 : Int)))).toNat (32 : Nat)))))) ∧
     True) ∧
     (sm (some (Blk.fix (D.arr IntKind.u64 (4 : Nat) l))) ∧ sm (some (Blk.fix (D.arr IntKind.u64 (4 : Nat) [(0 : Int), (0 : Int), (0 : Int), (0 : Int)]))) ∧ True) ∧ true = true) ∧
     (((31 : Int) - IntKind.i64.wrap ((31 : Int) - (↑x_2.fst : Int) - (1 : Int))).toNat ≤ (32 : Nat) ∧
     drwL k (IntKind.u64.wrap ((↑p : Int) + IntKind.u64.wrap ((32 : Int) * IntKind.u64.wrap (↑x_1 : Int)))).toNat (32 : Nat) = drwL k (IntKind.u64.wrap ((↑p : Int) + IntKind.u64.wrap ((32 : Int) * IntKind.u64.wrap (↑x_1 : Int)))).toNat (32 : Nat)) ∧
     (32 : Nat) - ((31 : Int) - IntKind.i64.wrap ((31 : Int) - (↑x_2.fst : Int) - (1 : Int))).toNat < (32 : Nat) - x_2.fst
    | false =>
     True ∧
     True ∧
     (∃ (n : Int), [D.val (Value.int IntKind.i64 (↑x : Int))] = [D.val (Value.int IntKind.i64 n)] ∧ (0 : Int) ≤ n ∧ n ≤ (1048576 : Int)) ∧
     (∃ (l : List Int), ∃ (m : List Int), [D.ints IntKind.i64 (dg (vB (256 : Nat) (List.drop ((32 : Nat) - x_2.fst) x_2.snd))), D.ints IntKind.i64 (dgP (↑x : Int).toNat)] = [D.ints IntKind.i64 l, D.ints IntKind.i64 m] ∧ (okd l ∧ len1 l) ∧ (okd m ∧ len1 m) ∧ vB (65536 : Nat) m ≠ (0 : Nat)) ∧
     True ∧
     True ∧
     True ∧
     (∃ (l_1 : List Int),
     ∃ (m : List Int),
     [D.ints IntKind.i64 (dg (vB (65536 : Nat) (dg (vB (256 : Nat) (List.drop ((32 : Nat) - x_2.fst) x_2.snd))) % vB (65536 : Nat) (dgP (↑x : Int).toNat))), D.ints IntKind.i64 (dg (vB (18446744073709551616 : Nat) l))] = [D.ints IntKind.i64 l_1, D.ints IntKind.i64 m] ∧
     (okd l_1 ∧ lenS l_1) ∧ okd m ∧ lenS m) ∧
     True ∧
     match decide (cmpN (vB (65536 : Nat) (dg (vB (65536 : Nat) (dg (vB (256 : Nat) (List.drop ((32 : Nat) - x_2.fst) x_2.snd))) % vB (65536 : Nat) (dgP (↑x : Int).toNat)))) (vB (65536 : Nat) (dg (vB (18446744073709551616 : Nat) l))) < (0 : Int)) with
     | true =>
      True ∧
      (∃ (l : List Int), [D.ints IntKind.i64 (dg (vB (65536 : Nat) (dg (vB (256 : Nat) (List.drop ((32 : Nat) - x_2.fst) x_2.snd))) % vB (65536 : Nat) (dgP (↑x : Int).toNat)))] = [D.ints IntKind.i64 l] ∧ okd l ∧ lenOk l) ∧
      True ∧
      True ∧
      True ∧
      (Sk.arr (4 : Nat) = Sk.arr (4 : Nat) ∧ (4 : Nat) ≠ (0 : Nat) ∧ (4 : Nat) = (4 : Nat) ∧ false = false) ∧
      True ∧
      True ∧
      (((4 : Nat) ≠ (0 : Nat) ∧ (4 : Nat) = (4 : Nat) ∧ true = true) ∧ false = false ∧ false = false ∧ True) ∧
      D.tup
      [D.arr IntKind.u64 (4 : Nat) (nB (18446744073709551616 : Nat) (4 : Nat) (vB (65536 : Nat) (dg (vB (65536 : Nat) (dg (vB (256 : Nat) (List.drop ((32 : Nat) - x_2.fst) x_2.snd))) % vB (65536 : Nat) (dgP (↑x : Int).toNat))))),
      D.val (Value.int IntKind.i64 (IntKind.i64.wrap ((32 : Int) * IntKind.i64.wrap ((↑x_1 : Int) + (1 : Int))))), D.val (Value.int IntKind.i64 (0 : Int))] =
      F
     | false =>
      True ∧
      True ∧
      ((AV.d (D.val (Value.int IntKind.i64 (IntKind.i64.wrap ((↑x_1 : Int) + (1 : Int))))) = AV.d (D.val (Value.int IntKind.i64 (↑(IntKind.i64.wrap ((↑x_1 : Int) + (1 : Int))).toNat : Int))) ∧ True) ∧
      (sm (some (Blk.fix (D.arr IntKind.u64 (4 : Nat) l))) ∧ sm (some (Blk.fix (D.arr IntKind.u64 (4 : Nat) [(0 : Int), (0 : Int), (0 : Int), (0 : Int)]))) ∧ True) ∧ true = true) ∧
      nob (gR k p (vB (18446744073709551616 : Nat) l)) (vB (18446744073709551616 : Nat) l) (IntKind.i64.wrap ((↑x_1 : Int) + (1 : Int))).toNat ∧ (100 : Nat) - (IntKind.i64.wrap ((↑x_1 : Int) + (1 : Int))).toNat < (100 : Nat) - x_1
   | false =>
    ((1 : Nat) = (1 : Nat) ∧ True) ∧
    (Sk.arr (4 : Nat) = Sk.arr (4 : Nat) ∧ (4 : Nat) ≠ (0 : Nat) ∧ (4 : Nat) = (4 : Nat) ∧ false = false) ∧
    True ∧ True ∧ (((4 : Nat) ≠ (0 : Nat) ∧ (4 : Nat) = (4 : Nat) ∧ true = true) ∧ false = false ∧ false = false ∧ True) ∧ D.tup [D.arr IntKind.u64 (4 : Nat) [(0 : Int), (0 : Int), (0 : Int), (0 : Int)], D.val (Value.int IntKind.i64 (3200 : Int)), D.val (Value.int IntKind.i64 (6 : Int))] = F) := by kernel_rfl
end Go.Proofs.YtkicjckhkefnpaaDoor
namespace Go.Proofs.YtkicjckhkefnpaaDoor
open Go Go.Vg
theorem fst_skip {g : Nat → Nat} {v : Nat} : ∀ {x : Nat}, x ≤ 100 → (∀ t, t < x → ¬ g t < v) → fstB g v 100 0 = fstB g v (100 - x) x
 | 0, _, _ => rfl
 | x + 1, h, hn => by
  rw [fst_skip (x := x) (by omega) (fun t ht => hn t (by omega)), show 100 - x = (100 - (x + 1)) + 1 by omega, fstB, if_neg (hn x (by omega))]
theorem fst_hit {g : Nat → Nat} {v x : Nat} (h : nob g v x) (hx : x < 100) (hg : g x < v) : fstB g v 100 0 = some x := by
 rw [fst_skip h.1 h.2, show 100 - x = (99 - x) + 1 by omega, fstB, if_pos hg]
theorem fst_end {g : Nat → Nat} {v : Nat} (h : nob g v 100) : fstB g v 100 0 = none := by
 rw [fst_skip h.1 h.2]
 rfl
theorem nob_succ {g : Nat → Nat} {v x : Nat} (h : nob g v x) (hx : x < 100) (hg : ¬ g x < v) : nob g v (x + 1) := by
 refine ⟨by omega, fun t ht => ?_⟩
 rcases Nat.lt_succ_iff_lt_or_eq.1 ht with h1 | rfl
 ·exact h.2 t h1
 ·exact hg
theorem itS_add (s : SR) (a : Nat) : ∀ b, itS s (a + b) = itS (itS s a) b
 | 0 => rfl
 | b + 1 => by
  show nxS (itS s (a + b)) = nxS (itS (itS s a) b)
  rw [itS_add s a b]
theorem nxV_byte {s : SR} (h : okR s) : 0 ≤ nxV s ∧ nxV s < 256 := by
 unfold nxV
 obtain ⟨b, e, hb⟩ := byte_at (nxB_bytes h) (i := s.p % 32) (by rw [nxB_len h]; omega)
 rw [e]
 omega
theorem itV_bytes {s : SR} (h : okR s) (n : Nat) : isBytes (itV s n) := by
 intro x hx
 unfold itV at hx
 obtain ⟨i, _, rfl⟩ := List.mem_map.1 hx
 exact nxV_byte (itS_ok h i)
theorem bl2_le {x n : Nat} (h : x < 2 ^ n) : bl2 x ≤ n := by
 unfold bl2
 split
 ·omega
 ·rename_i h0
  have := (Nat.log2_lt h0).2 h
  omega
theorem lt_bl2 (x : Nat) : x < 2 ^ bl2 x := by
 unfold bl2
 split
 ·rename_i h; rw [h]; decide
 ·exact Nat.lt_log2_self
theorem bl2_iff {n v : Nat} (hv : v ≠ 0) : 2 ^ n < v ↔ n < bl2 (v - 1) := by
 constructor
 ·intro h
  apply Classical.byContradiction
  intro hn
  have h1 := lt_bl2 (v - 1)
  have h2 : 2 ^ bl2 (v - 1) ≤ 2 ^ n := Nat.pow_le_pow_right (by decide) (by omega)
  omega
 ·intro h
  apply Classical.byContradiction
  intro hn
  have := bl2_le (x := v - 1) (n := n) (by omega)
  omega
theorem zeroN : nB 18446744073709551616 4 0 = [0, 0, 0, 0] := by decide
set_option maxRecDepth 100000 in
theorem m97 : Meets Tryd.prog 97 sp97 := by
 refine meets_of_owed (C := c0) ⟨tab_ok, fun f s h => by cases h⟩ (by kernel_rfl) (by kernel_rfl : Tryd.prog.funcs[97]? = some Tryd.f97) (by kernel_rfl) (by kernel_rfl) (by kernel_rfl) _ ?_
 rintro _ ⟨l, rfl, hb, hl⟩
 refine ⟨fun _ => rfl, inv97 l, ?_⟩
 show owed c0 (inv97 l) Tryd.f97 [.arr .u8 32 l] (num4 (nB 18446744073709551616 4 (vB 256 l)))
 rw [vc97]
 simp (decide := true) only [Int.toNat_natCast, sm, show Int.toNat 0 = 0 from rfl, eq_self, true_and, and_true, ne_eq, not_false_eq_true]
 refine ⟨⟨rfl, by rw [List.take_zero, show vB 256 [] = 0 from rfl, zeroN]⟩, fun x hx => ?_⟩
 split
 ·rename_i hlt
  have hlt : x < 32 := by have := of_decide_eq_true hlt; omega
  have hq : IntKind.i64.wrap ((x : Int).tdiv 8) = ((x / 8 : Nat) : Int) := by
   rw [show (8 : Int) = ((8 : Nat) : Int) from rfl, tdivN, wi (by omega) (by omega)]
  have hr : IntKind.u64.wrap (IntKind.i64.wrap ((x : Int).tmod 8 * 8)) = ((x % 8 * 8 : Nat) : Int) := by
   rw [show (8 : Int) = ((8 : Nat) : Int) from rfl, tmodN, show ((x % 8 : Nat) : Int) * ((8 : Nat) : Int) = ((x % 8 * 8 : Nat) : Int) by simp, wi (by omega) (by omega), wu (by omega) (by omega)]
  have hw : IntKind.u64.wrap (l.getD x 0) = l.getD x 0 := by
   have := hb _ (getD_mem (l := l) (n := x) (by omega))
   exact wu (by omega) (by omega)
  have hn : IntKind.i64.wrap ((x : Int) + 1) = ((x + 1 : Nat) : Int) := by rw [wi (by omega) (by omega)]; omega
  rw [hq, hr, hn]
  simp only [Int.toNat_natCast, hw, wordG hb 4 (by omega) x (by omega)]
  and_intros <;> first | trivial | rfl | omega
 ·rename_i hlt
  have hlt := of_decide_eq_false hlt
  obtain rfl : x = 32 := by omega
  rw [List.take_of_length_le (by omega)]
theorem m96o : Meets Tryd.prog 96 sp96o := by
 have e : sp96o = sp96 := by
  unfold sp96o shL
  simp only [opq_eq]
  rfl
 rw [e]; exact m96
theorem m97o : Meets Tryd.prog 97 sp97o := by
 have e : sp97o = sp97 := by
  unfold sp97o ofB
  simp only [opq_eq]
  rfl
 rw [e]; exact m97
theorem m94o : Meets Tryd.prog 94 sp94o := by
 have e : sp94o = sp94 := by
  unfold sp94o lnL
  simp only [opq_eq]
  rfl
 rw [e]; exact m94
theorem m98o : Meets Tryd.prog 98 sp98o := by
 have e : sp98o = sp98 := by
  unfold sp98o cmL
  simp only [opq_eq]
  rfl
 rw [e]; exact m98
theorem sh_sh {w L : Nat} (hw : w < 2 ^ 256) (hL : L ≤ 256) (l : List Int) (hl : l = nB 18446744073709551616 4 w) :
  shL (shL l (256 - (L : Int))) ((L : Int) - 256) = nB 18446744073709551616 4 (w % 2 ^ L) := by
 have hp : (18446744073709551616 : Nat) ^ 4 = 2 ^ 256 := by decide
 unfold shL
 rw [opq_eq, opq_eq, hl, vB_nB, vB_nB, hp, Nat.mod_eq_of_lt hw]
 have e1 : shf w (256 - (L : Int)) = w * 2 ^ (256 - L) := by
  unfold shf
  rw [if_pos (by omega), show (256 - (L : Int)).toNat = 256 - L by omega]
 have e2 : shf (w * 2 ^ (256 - L) % 2 ^ 256) ((L : Int) - 256) = w * 2 ^ (256 - L) % 2 ^ 256 / 2 ^ (256 - L) := by
  unfold shf
  split
  ·obtain rfl : L = 256 := by omega
   simp
  ·rw [show (-((L : Int) - 256)).toNat = 256 - L by omega]
 have e3 : w * 2 ^ (256 - L) % 2 ^ 256 = w % 2 ^ L * 2 ^ (256 - L) := by
  have : (2 : Nat) ^ 256 = 2 ^ L * 2 ^ (256 - L) := by rw [← Nat.pow_add, show L + (256 - L) = 256 by omega]
  rw [this, Nat.mul_mod_mul_right]
 rw [e1, e2, e3, Nat.mul_div_cancel _ (Nat.two_pow_pos _)]
theorem wv_one1 : vB 18446744073709551616 [(1 : Int), 0, 0, 0] = 1 := by decide
theorem isN_nB (v : Nat) : isN (nB 18446744073709551616 4 v) := ⟨nB_okw 4 v, nB_length _ _ _⟩
theorem n4v' {v : Nat} (h : v < 2 ^ 256) : vB 18446744073709551616 (nB 18446744073709551616 4 v) = v := by
 rw [vB_nB, show (18446744073709551616 : Nat) ^ 4 = 2 ^ 256 by decide, Nat.mod_eq_of_lt h]
theorem dif_one {v : Nat} (h0 : v ≠ 0) (h : v < 2 ^ 256) : dif v 1 = v - 1 := by
 have := dif_ge (X := v) (M := 1)
 unfold dif
 omega
set_option maxRecDepth 100000 in
theorem m41 : MeetsQ Tryd.prog 41 sp41 := by
 refine meetsIo_of_owed (C := c41) ⟨tab_ok, lkS_ok ⟨m93, m94o, m95q, m97o, m96o, m98o, trivial⟩⟩ (by kernel_rfl) (by kernel_rfl : Tryd.prog.funcs[41]? = some Tryd.f41) (by kernel_rfl) (by kernel_rfl) (by kernel_rfl) _ ⟨by kernel_rfl, by kernel_rfl, by kernel_rfl⟩ ?_
 rintro x ds ⟨s, l, he, hs, hl⟩
 obtain ⟨rfl, rfl⟩ := List.cons.inj he
 refine ⟨inv41 s l, ?_⟩
 show owedIo c41 (inv41 s l) Tryd.f41 (stQ s) [num4 l] (.tup [.tup [num4 (bwV (gT (srOf (stQ s)) (vB 18446744073709551616 l)) (vB 18446744073709551616 l)), i64 (bwE (gT (srOf (stQ s)) (vB 18446744073709551616 l)) (vB 18446744073709551616 l))], stQ (bwS (srOf (stQ s)) (vB 18446744073709551616 l))])
 rw [vc41, srOq]
 obtain ⟨v, hv⟩ : ∃ v, v = vB 18446744073709551616 l := ⟨_, rfl⟩
 have hvl : v < 2 ^ 256 := hv ▸ wv_lt hl.1 hl.2
 have hlv : l = nB 18446744073709551616 4 v := by rw [hv, ← hl.2, nB_vB hl.1]
 have ez : eqB l [0, 0, 0, 0] = decide (v = 0) := hv ▸ wv_zero hl.1 hl.2
 rw [ez, ← hv]
 unfold bwS
 simp (decide := true) only [Int.toNat_natCast, sm, wv_one1, show Int.toNat 0 = 0 from rfl, eq_self, true_and, and_true, ne_eq, not_false_eq_true]
 by_cases h0 : v = 0
 ·rw [decide_eq_true h0]
  unfold bwV bwE bwN
  rw [if_pos h0, if_pos h0, if_pos h0, zeroN]
  rfl
 have htop : nB 18446744073709551616 4 (dif v 1) = nB 18446744073709551616 4 (v - 1) := by rw [dif_one h0 hvl]
 obtain ⟨L, hL⟩ : ∃ L, L = bl2 (v - 1) := ⟨_, rfl⟩
 have hL256 : L ≤ 256 := hL ▸ bl2_le (by omega)
 have hln : lnL (nB 18446744073709551616 4 (v - 1)) = (L : Int) := by
  unfold lnL
  rw [opq_eq, n4v' (by omega), ← hL]
 have hoff : IntKind.i64.wrap ((L : Int) - 256) = (L : Int) - 256 := wi (by omega) (by omega)
 have hneg : IntKind.i64.wrap (0 - ((L : Int) - 256)) = 256 - (L : Int) := by rw [wi (by omega) (by omega)]; omega
 rw [decide_eq_false h0]
 simp only [htop, hln, hoff, hneg]
 refine ⟨⟨l, _, rfl, hl, by intro z hz; simp only [List.mem_cons, List.not_mem_nil, or_false] at hz; rcases hz with rfl | rfl | rfl | rfl <;> omega, rfl⟩, ⟨_, rfl, isN_nB _⟩, ⟨⟨rfl, rfl⟩, Nat.zero_le _, fun t ht => absurd ht (Nat.not_lt_zero t)⟩, fun x hx => ?_⟩
 split
 ·rename_i hlt
  have hlt : x < 100 := by have := of_decide_eq_true hlt; omega
  refine ⟨⟨rfl, rfl, rfl⟩, fun y hy => ?_⟩
  obtain ⟨j, x'⟩ := y
  obtain ⟨hj, hx'⟩ := hy
  simp only at hj hx' ⊢
  obtain rfl : x' = x := by omega
  have e1 : IntKind.i64.wrap ((x' : Int) + 1) = ((x' + 1 : Nat) : Int) := by rw [wi (by omega) (by omega)]; omega
  split
  ·rename_i h
   have h : j < 32 := by have := of_decide_eq_true h; omega
   have e2 : IntKind.i64.wrap ((j : Int) + 1) = ((j + 1 : Nat) : Int) := by rw [wi (by omega) (by omega)]; omega
   have e3 : nxV (itS s (32 * x' + j)) = nxV (itS (itS s (32 * x')) j) := by rw [itS_add]
   have e4 : nxS (itS s (32 * x' + j)) = itS s (32 * x' + (j + 1)) := rfl
   simp only [e2, Int.toNat_natCast, srOq, e3, itV_set _ h, e4]
   exact ⟨⟨_, rfl, itS_ok hs _⟩, ⟨by omega, by omega⟩, h, by and_intros <;> first | trivial | rfl, by omega, by omega⟩
  ·rename_i h
   have h := of_decide_eq_false h
   obtain rfl : j = 32 := by omega
   have hso : okR (itS s (32 * x')) := itS_ok hs _
   have e5 : itV (itS s (32 * x')) 32 ++ List.replicate (32 - 32) 0 = itV (itS s (32 * x')) 32 := by rw [Nat.sub_self, List.replicate_zero, List.append_nil]
   have hb := itV_bytes hso 32
   have hbl := itV_len (itS s (32 * x')) 32
   obtain ⟨w, hw⟩ : ∃ w, w = vB 256 (itV (itS s (32 * x')) 32) := ⟨_, rfl⟩
   have hwl : w < 2 ^ 256 := by
    have := vB_lt (b := 256) hb
    rw [hbl] at this
    rw [hw]
    exact Nat.lt_of_lt_of_le this (by decide)
   have hof : ofB (itV (itS s (32 * x')) 32) = nB 18446744073709551616 4 w := by unfold ofB; rw [opq_eq, ← hw]
   have hg : w % 2 ^ L = gT s v x' := by unfold gT; rw [← hw, ← hL]
   have hss := sh_sh hwl hL256 _ hof
   have hN1 : isN (shL (ofB (itV (itS s (32 * x')) 32)) (256 - (L : Int))) := by unfold shL; rw [opq_eq]; exact isN_nB _
   have hgl : gT s v x' < 2 ^ 256 := by rw [← hg]; exact Nat.lt_of_le_of_lt (Nat.mod_le _ _) hwl
   have hcm : cmL (nB 18446744073709551616 4 (gT s v x')) l = cmpN (gT s v x') v := by unfold cmL; rw [opq_eq, n4v' hgl, ← hv]
   have hN0 : isN (ofB (itV (itS s (32 * x')) 32)) := hof ▸ isN_nB _
   rw [e5]
   rw [hss, hg, hcm]
   refine ⟨⟨_, rfl, hb, hbl⟩, ⟨_, _, rfl, hN0, by unfold i64ok; omega⟩, ⟨_, _, rfl, hN1, by unfold i64ok; omega⟩, ⟨_, _, rfl, isN_nB _, hl⟩, ?_⟩
   by_cases hc : gT s v x' < v
   ·have : cmpN (gT s v x') v = -1 := by unfold cmpN; rw [if_pos hc]
    rw [this]
    unfold bwV bwE bwN
    rw [if_neg h0, if_neg h0, if_neg h0, fst_hit hx hlt hc]
    rfl
   ·have : ¬ cmpN (gT s v x') v < 0 := by unfold cmpN; rw [if_neg hc]; split <;> decide
    rw [decide_eq_false this]
    simp only [e1, Int.toNat_natCast, show 32 * (x' + 1) = 32 * x' + 32 by omega]
    exact ⟨by and_intros <;> first | trivial | rfl, nob_succ hx hlt hc, by omega⟩
 ·rename_i hlt
  have hlt := of_decide_eq_false hlt
  obtain rfl : x = 100 := by have := hx.1; omega
  unfold bwV bwE bwN
  rw [if_neg h0, if_neg h0, if_neg h0, fst_end hx, zeroN]
end Go.Proofs.YtkicjckhkefnpaaDoor
namespace Go.Proofs.YtkicjckhkefnpaaDoor
open Go Go.Vg
theorem plc_byte (k : List Int) (p : Nat) : 0 ≤ plcB k p ∧ plcB k p < 256 := by
 unfold plcB
 obtain ⟨b, e, hb⟩ := byte_at (l := mkL k (be8 (p / 32))) (digL_bytes _) (i := p % 32) (by have : (mkL k (be8 (p / 32))).length = 32 := digL_len _; omega)
 rw [e]
 omega
theorem drw_bytes (k : List Int) (p n : Nat) : isBytes (drwL k p n) := by
 intro x hx
 unfold drwL at hx
 obtain ⟨i, _, rfl⟩ := List.mem_map.1 hx
 exact plc_byte _ _
theorem dg_len0 (v : Nat) : ((((dg v).length : Nat) : Int) == 0) = decide (v = 0) := by
 by_cases h : v = 0
 ·rw [h]; rfl
 ·have h2 : (dg v).length ≠ 0 := by
   intro e
   have := vl_dg v
   rw [List.eq_nil_of_length_eq_zero e] at this
   exact h this.symm
  rw [decide_eq_false h]
  simp [h2]
theorem dgP_eq (n : Nat) : dgP n = dg (2 ^ n) := by unfold dgP; rw [opq_eq]
set_option maxRecDepth 100000 in
theorem m42 : Meets Tryd.prog 42 sp42 := by
 refine meets_of_owed (C := c42) ⟨tab_ok, lkS_ok ⟨m48, m100, m99, m46, m54, m53, m51, m50, trivial⟩⟩ (by kernel_rfl) (by kernel_rfl : Tryd.prog.funcs[42]? = some Tryd.f42) (by kernel_rfl) (by kernel_rfl) (by kernel_rfl) _ ?_
 rintro _ ⟨k, p, l, rfl, hk, hp, hl⟩
 refine ⟨fun _ => rfl, inv42 k p l, ?_⟩
 show owed c42 (inv42 k p l) Tryd.f42 [.str k, u64 p, num4 l] (.tup [num4 (bwV (gR k (p : Int).toNat (vB 18446744073709551616 l)) (vB 18446744073709551616 l)), i64 (bwN (gR k (p : Int).toNat (vB 18446744073709551616 l)) (vB 18446744073709551616 l) : Nat), i64 (bwE (gR k (p : Int).toNat (vB 18446744073709551616 l)) (vB 18446744073709551616 l))])
 rw [vc42, Int.toNat_natCast]
 obtain ⟨v, hv⟩ : ∃ v, v = vB 18446744073709551616 l := ⟨_, rfl⟩
 have hvl : v < 2 ^ 256 := hv ▸ wv_lt hl.1 hl.2
 rw [← hv]
 simp (decide := true) only [dg_len0, dgP_eq, vl_dg, Int.toNat_natCast, sm, show Int.toNat 0 = 0 from rfl, show ((31 : Int) - 31).toNat = 0 from rfl, eq_self, true_and, and_true, ne_eq, not_false_eq_true]
 refine ⟨⟨l, rfl, hl.1, hl.2⟩, ?_⟩
 by_cases h0 : v = 0
 ·rw [decide_eq_true h0]
  unfold bwV bwE bwN
  rw [if_pos h0, if_pos h0, if_pos h0, zeroN]
  rfl
 obtain ⟨L, hL⟩ : ∃ L, L = bl2 (v - 1) := ⟨_, rfl⟩
 have hL256 : L ≤ 256 := hL ▸ bl2_le (by omega)
 rw [decide_eq_false h0, ← hL]
 refine ⟨⟨rfl, Nat.zero_le _⟩, fun n hn => ?_⟩
 have hn2 : 2 ^ n ≤ 2 ^ 256 := Nat.pow_le_pow_right (by decide) (by omega)
 have hB1 : (2 : Nat) ^ 256 < 65536 ^ 64 := by decide
 have hln := lens (x := 2 ^ n) (by omega)
 have hlv := lens (x := v) (by omega)
 refine ⟨⟨_, rfl, by omega, by omega⟩, ⟨_, _, rfl, ⟨hln.1, hln.2.2.1⟩, hlv.1, hlv.2.2.1⟩, ?_⟩
 by_cases hc : 2 ^ n < v
 ·have e1 : cmpN (2 ^ n) v = -1 := by unfold cmpN; rw [if_pos hc]
  have hnL : n < L := hL ▸ (bl2_iff h0).1 hc
  have e2 : IntKind.i64.wrap ((n : Int) + 1) = ((n + 1 : Nat) : Int) := by rw [wi (by omega) (by omega)]; omega
  rw [e1]
  simp only [e2, Int.toNat_natCast]
  exact ⟨by and_intros <;> first | trivial | rfl, by omega, by omega⟩
 have e1 : ¬ cmpN (2 ^ n) v < 0 := by unfold cmpN; rw [if_neg hc]; split <;> decide
 obtain rfl : n = L := by
  apply Classical.byContradiction
  intro hne
  exact hc ((bl2_iff h0).2 (hL ▸ by omega))
 rw [decide_eq_false e1]
 refine ⟨⟨rfl, Nat.zero_le _, fun t ht => absurd ht (Nat.not_lt_zero t)⟩, fun x hx => ?_⟩
 split
 ·rename_i hlt
  have hlt : x < 100 := by have := of_decide_eq_true hlt; omega
  have e2 : IntKind.u64.wrap ((p : Int) + IntKind.u64.wrap (32 * IntKind.u64.wrap (x : Int))) = (((p + 32 * x) % 18446744073709551616 : Nat) : Int) := by
   rw [wN64, Nat.mod_eq_of_lt (by omega), show (32 : Int) * ((x : Nat) : Int) = ((32 * x : Nat) : Int) by omega, wN64, Nat.mod_eq_of_lt (by omega), ← Int.natCast_add, wN64]
  obtain ⟨S, hS⟩ : ∃ S, S = drwL k ((p + 32 * x) % 18446744073709551616) 32 := ⟨_, rfl⟩
  have hSl : S.length = 32 := by rw [hS, drw_len]
  have hSb : isBytes S := by rw [hS]; exact drw_bytes _ _ _
  simp only [e2, Int.toNat_natCast, ← hS, hSl]
  have h256 : vB 65536 [256] = 256 := rfl
  have hA : ∀ i, vB 256 (S.drop i) < 256 ^ 64 := fun i => b64 (fun y hy => hSb y (List.mem_of_mem_drop hy)) (by rw [List.length_drop]; omega)
  refine ⟨⟨k, _, 32, rfl, hk, Nat.mod_lt _ (by decide), by decide⟩, ⟨rfl, by rw [Nat.sub_zero, List.drop_of_length_le (by omega)]; rfl⟩, fun y hy => ?_⟩
  obtain ⟨t, S'⟩ := y
  obtain ⟨ht, hS'⟩ := hy
  simp only at ht hS' ⊢
  obtain rfl : S' = S := hS'
  split
  ·rename_i hge
   have hge : t < 32 := by have := of_decide_eq_true hge; omega
   obtain ⟨i, hi⟩ : ∃ i, i = 31 - t := ⟨_, rfl⟩
   have ei : (31 : Int) - (t : Int) = (i : Int) := by omega
   have e3 : 32 - t = i + 1 := by omega
   have hil : i < S'.length := by omega
   have hsb := hSb _ (getD_mem (l := S') (n := i) hil)
   obtain ⟨s, es⟩ := Int.eq_ofNat_of_zero_le hsb.1
   have hs : IntKind.i64.wrap (s : Int) = (s : Int) := wi (by omega) (by omega)
   have hss : vB 65536 [(s : Int)] = s := by simp [vB]
   have w2 : IntKind.i64.wrap ((i : Int) - 1) = (i : Int) - 1 := wi (by omega) (by omega)
   have w3 : ((31 : Int) - ((i : Int) - 1)).toNat = t + 1 := by omega
   have e4 : 32 - (t + 1) = i := by omega
   have hv2 := vB_dropS 256 i hil
   have h3 := hA (i + 1)
   have hl1 := lens (x := vB 256 (S'.drop (i + 1))) (Nat.lt_trans h3 (by decide))
   have hl2 := lens (x := vB 256 (S'.drop (i + 1)) * 256) (Nat.lt_trans (Nat.mul_lt_mul_of_pos_right h3 (by decide : 0 < 256)) (by decide))
   rw [es, Int.toNat_natCast] at hv2
   rw [ei, e3]
   simp only [Int.toNat_natCast, es, hs, hss, w2, w3, e4, h256, hv2]
   refine ⟨⟨_, _, rfl, ⟨hl1.1, hl1.2.2.1⟩, ?_, by unfold lenS; decide⟩, ⟨by omega, by omega⟩, ⟨_, _, rfl, ⟨hl2.1, hl2.2.2.1⟩, ?_, by unfold lenS; simp⟩, ⟨by rw [show (31 : Int) - ((t + 1 : Nat) : Int) = (i : Int) - 1 by omega], by rw [Nat.mul_comm, Nat.add_comm]⟩, by omega, by omega⟩
   ·intro y hy
    simp only [List.mem_singleton] at hy
    subst hy; decide
   ·intro y hy
    simp only [List.mem_singleton] at hy
    subst hy; omega
  ·rename_i hge
   have hge := of_decide_eq_false hge
   obtain rfl : t = 32 := by omega
   rw [Nat.sub_self, List.drop_zero]
   have hA0 : vB 256 S' < 256 ^ 64 := hA 0
   have hg : vB 256 S' % 2 ^ n = gR k p v x := by unfold gR; rw [← hS, ← hL]
   have hgl : gR k p v x < 65536 ^ 64 := by rw [← hg]; exact Nat.lt_of_le_of_lt (Nat.mod_le _ _) (Nat.lt_trans hA0 (by decide))
   have hl1 := lens (x := vB 256 S') (Nat.lt_trans hA0 (by decide))
   have hl2 := lens hgl
   rw [hg]
   refine ⟨⟨_, rfl, by omega, by omega⟩, ⟨_, _, rfl, ⟨hl1.1, hl1.2.1⟩, ⟨hln.1, hln.2.1⟩, by rw [vl_dg]; exact Nat.ne_of_gt (Nat.two_pow_pos n)⟩, ⟨_, _, rfl, ⟨hl2.1, hl2.2.2.1⟩, hlv.1, hlv.2.2.1⟩, ?_⟩
   have e3 : IntKind.i64.wrap ((x : Int) + 1) = ((x + 1 : Nat) : Int) := by rw [wi (by omega) (by omega)]; omega
   have e4 : IntKind.i64.wrap (32 * ((x + 1 : Nat) : Int)) = ((32 * (x + 1) : Nat) : Int) := by rw [wi (by omega) (by omega)]; omega
   by_cases hgv : gR k p v x < v
   ·have : cmpN (gR k p v x) v = -1 := by unfold cmpN; rw [if_pos hgv]
    rw [this, e3, e4]
    unfold bwV bwE bwN
    rw [if_neg h0, if_neg h0, if_neg h0, fst_hit hx hlt hgv]
    exact ⟨⟨_, rfl, hl2.1, hl2.2.2.2⟩, rfl⟩
   ·have : ¬ cmpN (gR k p v x) v < 0 := by unfold cmpN; rw [if_neg hgv]; split <;> decide
    rw [decide_eq_false this]
    simp only [e3, Int.toNat_natCast]
    exact ⟨by and_intros <;> first | trivial | rfl, nob_succ hx hlt hgv, by omega⟩
 ·rename_i hlt
  have hlt := of_decide_eq_false hlt
  obtain rfl : x = 100 := by have := hx.1; omega
  unfold bwV bwE bwN
  rw [if_neg h0, if_neg h0, if_neg h0, fst_end hx, zeroN]
  rfl
end Go.Proofs.YtkicjckhkefnpaaDoor
namespace Go.Proofs.YtkicjckhkefnpaaDoor
open Go Go.Vg
def bysL (s : SR) (n : Int) : List Int := if fitE n = 0 then itV s n.toNat else []
theorem bysR_eq (s : SR) (n : Int) : bysR s n = .tup [.ints .u8 (bysL s n), i64 (fitE n)] := by
 unfold bysR bysL
 split
 ·rename_i h; rw [h]
 ·rfl
def sp40q : Go.Vg.Spec := ⟨sp40.pre, fun ds => .tup [stQ (sr0 (intsOf (ds.headD default)) 0)], true, [26, 8000000]⟩
def sp43q : Go.Vg.Spec := ⟨fun ds => ∃ s, ds = [.ref (stQ s)], fun ds => u64 ((srOf (unR (ds.headD default))).p : Int), true, [71]⟩
def sp44q : Go.Vg.Spec := ⟨fun ds => ∃ s n, ds = [stQ s, i64 n] ∧ okR s, fun ds => .tup [i64 (fitE (numOf (ds.getD 1 default))), stQ (skS (srOf (ds.headD default)) (numOf (ds.getD 1 default)))], true, [9000000, 3]⟩
def sp45q : Go.Vg.Spec := ⟨fun ds => ∃ s n, ds = [stQ s, i64 n] ∧ okR s, fun ds => .tup [.tup [.ints .u8 (bysL (srOf (ds.headD default)) (numOf (ds.getD 1 default))), i64 (fitE (numOf (ds.getD 1 default)))], stQ (bysS (srOf (ds.headD default)) (numOf (ds.getD 1 default)))], false, [9000000, 3]⟩
set_option maxRecDepth 100000 in
theorem m40q : MeetsQ Tryd.prog 40 sp40q := (congrArg (MeetsQ Tryd.prog 40) (show sp40q = sp40 from rfl)).mpr m40
set_option maxRecDepth 100000 in
theorem m43q : Meets Tryd.prog 43 sp43q := (congrArg (Meets Tryd.prog 43) (show sp43q = sp43 from rfl)).mpr m43
set_option maxRecDepth 100000 in
theorem m44q : MeetsQ Tryd.prog 44 sp44q := (congrArg (MeetsQ Tryd.prog 44) (show sp44q = sp44 from rfl)).mpr m44
theorem sp45_q : sp45q = sp45 := by
 unfold sp45q sp45
 simp only [bysR_eq]
 rfl
set_option maxRecDepth 100000 in
theorem m45q : MeetsQ Tryd.prog 45 sp45q := (congrArg (MeetsQ Tryd.prog 45) sp45_q).mpr m45
def drS (s : SR) (x : D) : SR := if boolOf (fldOf x 1) = true then bwS s (vB 18446744073709551616 (arrOf (fldOf x 3))) else if boolOf (fldOf x 0) = true then skS s (numOf (fldOf x 2)) else bysS s (numOf (fldOf x 2))
def dsN (k : List Int) (xs : List D) : Nat → SR
 | 0 => sr0 k 0
 | i + 1 => drS (dsN k xs i) (xs.getD i default)
def pS (s : SR) : Int := (s.p : Int)
def n8 (s : St) : Int := match Go.Vg.look s.M 8 with
 | some (.fix d) => numOf (fldOf d 2)
 | _ => 0
def inv8 (k : List Int) (xs : List D) : Nat → Option Inv
 | 6 => some ⟨Nat, fun i => [(24, .d (i64 i)), (6, .d (u64 (pS (dsN k xs i))))], fun i => [(21, .fix (stQ (dsN k xs i)))], fun t => (slotN t 24).toNat, fun _ i => i ≤ xs.length, fun i => xs.length - i⟩
 | 100016 => some ⟨Int, fun w => [(14, .d (i64 w))], fun _ => [], fun t => slotN t 14, fun s w => w = fitE (n8 s), fun _ => 0⟩
 | _ => none
def c8 : Ctx := ⟨tab, lkS [(40, sp40q), (41, sp41), (42, sp42), (43, sp43q), (44, sp44q), (45, sp45q), (46, sp46)], [], []⟩
set_option maxRecDepth 100000 in
theorem vc8  (k : List Int) (xs : List D) (F : D)  :
    (owed c8 (inv8 k xs) Tryd.f8 [.ints .u8 k, .slc 7 xs] F) = (
 True ∧
 True ∧
 True ∧
 True ∧
 match decide ((↑xs.length : Int) > (20 : Int)) with
 | true => True ∧ (false = false ∧ True) ∧ D.val (Value.bool true) = F
 | false =>
  True ∧
  ((∃ (k_1 : List Int), [D.ints IntKind.u8 k] = [D.ints IntKind.u8 k_1] ∧ isB k_1) ∧ True) ∧
  True ∧
  True ∧
  True ∧
  True ∧
  True ∧
  (((AV.d (D.val (Value.int IntKind.i64 (0 : Int))) = AV.d (D.val (Value.int IntKind.i64 (↑(Int.toNat (0 : Int)) : Int))) ∧ AV.d (D.val (Value.int IntKind.u64 (0 : Int))) = AV.d (D.val (Value.int IntKind.u64 (pS (dsN k xs (Int.toNat (0 : Int)))))) ∧ True) ∧
  (some (Blk.fix (stQ (sr0 k (0 : Nat)))) = some (Blk.fix (stQ (dsN k xs (Int.toNat (0 : Int))))) ∧ True) ∧ true = true) ∧
  Int.toNat (0 : Int) ≤ xs.length) ∧
  ∀ (x : Nat),
  x ≤ xs.length →
  true = true ∧
  True ∧
  match decide ((↑x : Int) < (↑xs.length : Int)) with
  | true =>
   ((0 : Int) ≤ (↑x : Int) ∧
   (↑x : Int) < (↑xs.length : Int) ∧
   (7 : Nat) ≠ (0 : Nat) ∧
   (7 : Nat) = (7 : Nat) ∧
   D.st
   [D.val (Value.bool (boolOf (fldOf (xs.getD (↑x : Int).toNat (D.val (Value.bool false))) (0 : Nat)))), D.val (Value.bool (boolOf (fldOf (xs.getD (↑x : Int).toNat (D.val (Value.bool false))) (1 : Nat)))), D.val (Value.int IntKind.i64 (numOf (fldOf (xs.getD (↑x : Int).toNat (D.val (Value.bool false))) (2 : Nat)))),
   D.arr IntKind.u64 (4 : Nat) (arrOf (fldOf (xs.getD (↑x : Int).toNat (D.val (Value.bool false))) (3 : Nat)))] =
   xs.getD (↑x : Int).toNat (D.val (Value.bool false))) ∧
   ((7 : Nat) ≠ (0 : Nat) ∧ (7 : Nat) = (7 : Nat) ∧ true = true) ∧
   (True ∧ (7 : Nat) ≠ (0 : Nat)) ∧
   (Sk.st [Sk.one, Sk.one, Sk.one, Sk.arr (4 : Nat)] = Sk.st [Sk.one, Sk.one, Sk.one, Sk.arr (4 : Nat)] ∧ (7 : Nat) ≠ (0 : Nat) ∧ (7 : Nat) = (7 : Nat) ∧ false = false) ∧
   (Sk.st [Sk.one, Sk.one, Sk.one, Sk.arr (4 : Nat)] = Sk.st [Sk.one, Sk.one, Sk.one, Sk.arr (4 : Nat)] ∧ (1 : Nat) < (4 : Nat)) ∧
   (((1 : Nat) ≠ (0 : Nat) ∧ (1 : Nat) = (1 : Nat) ∧ false = false) ∧ D.val (Value.bool (boolOf (fldOf (xs.getD (↑x : Int).toNat (D.val (Value.bool false))) (1 : Nat)))) = D.val (Value.bool (boolOf (fldOf (xs.getD (↑x : Int).toNat (D.val (Value.bool false))) (1 : Nat))))) ∧
   match boolOf (fldOf (xs.getD (↑x : Int).toNat (D.val (Value.bool false))) (1 : Nat)) with
   | true =>
    True ∧
    (Sk.st [Sk.one, Sk.one, Sk.one, Sk.arr (4 : Nat)] = Sk.st [Sk.one, Sk.one, Sk.one, Sk.arr (4 : Nat)] ∧ (3 : Nat) < (4 : Nat)) ∧
    ((4 : Nat) ≠ (0 : Nat) ∧ (4 : Nat) = (4 : Nat) ∧ true = true) ∧
    (∃ (s : SR), ∃ (l : List Int), [stQ (dsN k xs x), D.arr IntKind.u64 (4 : Nat) (arrOf (fldOf (xs.getD (↑x : Int).toNat (D.val (Value.bool false))) (3 : Nat)))] = [stQ s, D.arr IntKind.u64 (4 : Nat) l] ∧ okR s ∧ isN l) ∧
    True ∧
    ((0 : Nat) < (2 : Nat) ∧ false = false) ∧
    ((1 : Nat) < (2 : Nat) ∧ false = false) ∧
    (True ∧ (4 : Nat) ≠ (0 : Nat)) ∧
    (Sk.arr (4 : Nat) = Sk.arr (4 : Nat) ∧ (4 : Nat) ≠ (0 : Nat) ∧ (4 : Nat) = (4 : Nat) ∧ false = false) ∧
    True ∧
    True ∧
    isBytes k ∧
    True ∧
    (Sk.st [Sk.one, Sk.one, Sk.one, Sk.arr (4 : Nat)] = Sk.st [Sk.one, Sk.one, Sk.one, Sk.arr (4 : Nat)] ∧ (3 : Nat) < (4 : Nat)) ∧
    ((4 : Nat) ≠ (0 : Nat) ∧ (4 : Nat) = (4 : Nat) ∧ true = true) ∧
    (∃ (k_1 : List Int),
    ∃ (p : Nat),
    ∃ (l : List Int),
    [D.str k, D.val (Value.int IntKind.u64 (pS (dsN k xs x))), D.arr IntKind.u64 (4 : Nat) (arrOf (fldOf (xs.getD (↑x : Int).toNat (D.val (Value.bool false))) (3 : Nat)))] = [D.str k_1, D.val (Value.int IntKind.u64 (↑p : Int)), D.arr IntKind.u64 (4 : Nat) l] ∧ isB k_1 ∧ p < (18446744073709551616 : Nat) ∧ isN l) ∧
    True ∧
    ((0 : Nat) < (3 : Nat) ∧ false = false) ∧
    ((1 : Nat) < (3 : Nat) ∧ false = false) ∧
    ((2 : Nat) < (3 : Nat) ∧ false = false) ∧
    (True ∧ (4 : Nat) ≠ (0 : Nat)) ∧
    (Sk.arr (4 : Nat) = Sk.arr (4 : Nat) ∧ (4 : Nat) ≠ (0 : Nat) ∧ (4 : Nat) = (4 : Nat) ∧ false = false) ∧
    True ∧
    True ∧
    True ∧
    True ∧
    True ∧
    True ∧
    True ∧
    ((4 : Nat) ≠ (0 : Nat) ∧ (4 : Nat) = (4 : Nat) ∧ true = true) ∧
    ((4 : Nat) ≠ (0 : Nat) ∧ (4 : Nat) = (4 : Nat) ∧ true = true) ∧
    (IntKind.u64 = IntKind.u64 ∧ IntKind.u64 = IntKind.u64 ∧ (4 : Nat) = (4 : Nat) ∧ (4 : Nat) = (4 : Nat) ∧ (1 : Nat) = (1 : Nat)) ∧
    True ∧
    match
    !eqB (bwV (gT (srOf (stQ (dsN k xs x))) (vB (18446744073709551616 : Nat) (arrOf (fldOf (xs.getD (↑x : Int).toNat (D.val (Value.bool false))) (3 : Nat))))) (vB (18446744073709551616 : Nat) (arrOf (fldOf (xs.getD (↑x : Int).toNat (D.val (Value.bool false))) (3 : Nat)))))
    (bwV (gR k (pS (dsN k xs x)).toNat (vB (18446744073709551616 : Nat) (arrOf (fldOf (xs.getD (↑x : Int).toNat (D.val (Value.bool false))) (3 : Nat))))) (vB (18446744073709551616 : Nat) (arrOf (fldOf (xs.getD (↑x : Int).toNat (D.val (Value.bool false))) (3 : Nat))))) with
    | true => True ∧ True ∧ True ∧ True ∧ (false = false ∧ True) ∧ D.val (Value.bool false) = F
    | false =>
     True ∧
     True ∧
     True ∧
     True ∧
     True ∧
     match
     bwE (gT (srOf (stQ (dsN k xs x))) (vB (18446744073709551616 : Nat) (arrOf (fldOf (xs.getD (↑x : Int).toNat (D.val (Value.bool false))) (3 : Nat))))) (vB (18446744073709551616 : Nat) (arrOf (fldOf (xs.getD (↑x : Int).toNat (D.val (Value.bool false))) (3 : Nat)))) !=
     bwE (gR k (pS (dsN k xs x)).toNat (vB (18446744073709551616 : Nat) (arrOf (fldOf (xs.getD (↑x : Int).toNat (D.val (Value.bool false))) (3 : Nat)))))
     (vB (18446744073709551616 : Nat) (arrOf (fldOf (xs.getD (↑x : Int).toNat (D.val (Value.bool false))) (3 : Nat)))) with
     | true => True ∧ True ∧ (false = false ∧ True) ∧ D.val (Value.bool false) = F
     | false =>
      True ∧
      (∃ (s : SR), [(stQ (bwS (srOf (stQ (dsN k xs x))) (vB (18446744073709551616 : Nat) (arrOf (fldOf (xs.getD (↑x : Int).toNat (D.val (Value.bool false))) (3 : Nat)))))).ref] = [(stQ s).ref]) ∧
      True ∧
      True ∧
      True ∧
      match
      (↑(srOf (stQ (bwS (srOf (stQ (dsN k xs x))) (vB (18446744073709551616 : Nat) (arrOf (fldOf (xs.getD (↑x : Int).toNat (D.val (Value.bool false))) (3 : Nat))))))).p : Int) !=
      IntKind.u64.wrap
      (pS (dsN k xs x) +
      IntKind.u64.wrap
      (↑(bwN (gR k (pS (dsN k xs x)).toNat (vB (18446744073709551616 : Nat) (arrOf (fldOf (xs.getD (↑x : Int).toNat (D.val (Value.bool false))) (3 : Nat)))))
      (vB (18446744073709551616 : Nat) (arrOf (fldOf (xs.getD (↑x : Int).toNat (D.val (Value.bool false))) (3 : Nat))))) :
      Int)) with
      | true => True ∧ (false = false ∧ True) ∧ D.val (Value.bool false) = F
      | false =>
       True ∧
       True ∧
       ((AV.d (D.val (Value.int IntKind.i64 (IntKind.i64.wrap ((↑x : Int) + (1 : Int))))) = AV.d (D.val (Value.int IntKind.i64 (↑(IntKind.i64.wrap ((↑x : Int) + (1 : Int))).toNat : Int))) ∧
       AV.d
       (D.val
       (Value.int IntKind.u64
       (IntKind.u64.wrap
       (pS (dsN k xs x) +
       IntKind.u64.wrap
       (↑(bwN (gR k (pS (dsN k xs x)).toNat (vB (18446744073709551616 : Nat) (arrOf (fldOf (xs.getD (↑x : Int).toNat (D.val (Value.bool false))) (3 : Nat)))))
       (vB (18446744073709551616 : Nat) (arrOf (fldOf (xs.getD (↑x : Int).toNat (D.val (Value.bool false))) (3 : Nat))))) :
       Int))))) =
       AV.d (D.val (Value.int IntKind.u64 (pS (dsN k xs (IntKind.i64.wrap ((↑x : Int) + (1 : Int))).toNat)))) ∧
       True) ∧
       (some (Blk.fix (stQ (bwS (srOf (stQ (dsN k xs x))) (vB (18446744073709551616 : Nat) (arrOf (fldOf (xs.getD (↑x : Int).toNat (D.val (Value.bool false))) (3 : Nat))))))) =
       some (Blk.fix (stQ (dsN k xs (IntKind.i64.wrap ((↑x : Int) + (1 : Int))).toNat))) ∧
       True) ∧
       true = true) ∧
       (IntKind.i64.wrap ((↑x : Int) + (1 : Int))).toNat ≤ xs.length ∧ xs.length - (IntKind.i64.wrap ((↑x : Int) + (1 : Int))).toNat < xs.length - x
   | false =>
    True ∧
    (Sk.st [Sk.one, Sk.one, Sk.one, Sk.arr (4 : Nat)] = Sk.st [Sk.one, Sk.one, Sk.one, Sk.arr (4 : Nat)] ∧ (2 : Nat) < (4 : Nat)) ∧
    ((1 : Nat) ≠ (0 : Nat) ∧ (1 : Nat) = (1 : Nat) ∧ false = false) ∧
    True ∧
    (match decide (numOf (fldOf (xs.getD (↑x : Int).toNat (D.val (Value.bool false))) (2 : Nat)) < (0 : Int)) with
    | true =>
     True ∧
     ((sm (AV.d (D.val (Value.int IntKind.i64 (1 : Int)))) ∧ True) ∧
     (sm
     (some
     (Blk.fix
     (D.st
     [D.val (Value.bool (boolOf (fldOf (xs.getD (↑x : Int).toNat (D.val (Value.bool false))) (0 : Nat)))), D.val (Value.bool (boolOf (fldOf (xs.getD (↑x : Int).toNat (D.val (Value.bool false))) (1 : Nat)))), D.val (Value.int IntKind.i64 (numOf (fldOf (xs.getD (↑x : Int).toNat (D.val (Value.bool false))) (2 : Nat)))),
     D.arr IntKind.u64 (4 : Nat) (arrOf (fldOf (xs.getD (↑x : Int).toNat (D.val (Value.bool false))) (3 : Nat)))]))) ∧
     sm (some (Blk.fix (stQ (dsN k xs x)))) ∧ True) ∧
     true = true) ∧
     (1 : Int) = fitE (numOf (fldOf (xs.getD (↑x : Int).toNat (D.val (Value.bool false))) (2 : Nat)))
    | false =>
     (Sk.st [Sk.one, Sk.one, Sk.one, Sk.arr (4 : Nat)] = Sk.st [Sk.one, Sk.one, Sk.one, Sk.arr (4 : Nat)] ∧ (2 : Nat) < (4 : Nat)) ∧
     ((1 : Nat) ≠ (0 : Nat) ∧ (1 : Nat) = (1 : Nat) ∧ false = false) ∧
     True ∧
     match decide (numOf (fldOf (xs.getD (↑x : Int).toNat (D.val (Value.bool false))) (2 : Nat)) > (4096 : Int)) with
     | true =>
      True ∧
      ((sm (AV.d (D.val (Value.int IntKind.i64 (2 : Int)))) ∧ True) ∧
      (sm
      (some
      (Blk.fix
      (D.st
      [D.val (Value.bool (boolOf (fldOf (xs.getD (↑x : Int).toNat (D.val (Value.bool false))) (0 : Nat)))), D.val (Value.bool (boolOf (fldOf (xs.getD (↑x : Int).toNat (D.val (Value.bool false))) (1 : Nat)))),
      D.val (Value.int IntKind.i64 (numOf (fldOf (xs.getD (↑x : Int).toNat (D.val (Value.bool false))) (2 : Nat)))), D.arr IntKind.u64 (4 : Nat) (arrOf (fldOf (xs.getD (↑x : Int).toNat (D.val (Value.bool false))) (3 : Nat)))]))) ∧
      sm (some (Blk.fix (stQ (dsN k xs x)))) ∧ True) ∧
      true = true) ∧
      (2 : Int) = fitE (numOf (fldOf (xs.getD (↑x : Int).toNat (D.val (Value.bool false))) (2 : Nat)))
     | false =>
      ((sm (AV.d (D.val (Value.int IntKind.i64 (0 : Int)))) ∧ True) ∧
      (sm
      (some
      (Blk.fix
      (D.st
      [D.val (Value.bool (boolOf (fldOf (xs.getD (↑x : Int).toNat (D.val (Value.bool false))) (0 : Nat)))), D.val (Value.bool (boolOf (fldOf (xs.getD (↑x : Int).toNat (D.val (Value.bool false))) (1 : Nat)))),
      D.val (Value.int IntKind.i64 (numOf (fldOf (xs.getD (↑x : Int).toNat (D.val (Value.bool false))) (2 : Nat)))), D.arr IntKind.u64 (4 : Nat) (arrOf (fldOf (xs.getD (↑x : Int).toNat (D.val (Value.bool false))) (3 : Nat)))]))) ∧
      sm (some (Blk.fix (stQ (dsN k xs x)))) ∧ True) ∧
      true = true) ∧
      (0 : Int) = fitE (numOf (fldOf (xs.getD (↑x : Int).toNat (D.val (Value.bool false))) (2 : Nat)))) ∧
     ∀ (z : Int),
     z = fitE (numOf (fldOf (xs.getD (↑x : Int).toNat (D.val (Value.bool false))) (2 : Nat))) →
     true = true ∧
     True ∧
     True ∧
     (Sk.st [Sk.one, Sk.one, Sk.one, Sk.arr (4 : Nat)] = Sk.st [Sk.one, Sk.one, Sk.one, Sk.arr (4 : Nat)] ∧ (0 : Nat) < (4 : Nat)) ∧
     (((1 : Nat) ≠ (0 : Nat) ∧ (1 : Nat) = (1 : Nat) ∧ false = false) ∧ D.val (Value.bool (boolOf (fldOf (xs.getD (↑x : Int).toNat (D.val (Value.bool false))) (0 : Nat)))) = D.val (Value.bool (boolOf (fldOf (xs.getD (↑x : Int).toNat (D.val (Value.bool false))) (0 : Nat))))) ∧
     match boolOf (fldOf (xs.getD (↑x : Int).toNat (D.val (Value.bool false))) (0 : Nat)) with
     | true =>
      True ∧
      (Sk.st [Sk.one, Sk.one, Sk.one, Sk.arr (4 : Nat)] = Sk.st [Sk.one, Sk.one, Sk.one, Sk.arr (4 : Nat)] ∧ (2 : Nat) < (4 : Nat)) ∧
      ((1 : Nat) ≠ (0 : Nat) ∧ (1 : Nat) = (1 : Nat) ∧ false = false) ∧
      (∃ (s : SR), ∃ (n : Int), [stQ (dsN k xs x), D.val (Value.int IntKind.i64 (numOf (fldOf (xs.getD (↑x : Int).toNat (D.val (Value.bool false))) (2 : Nat))))] = [stQ s, D.val (Value.int IntKind.i64 n)] ∧ okR s) ∧
      True ∧
      True ∧
      True ∧
      True ∧
      True ∧
      match fitE (numOf (fldOf (xs.getD (↑x : Int).toNat (D.val (Value.bool false))) (2 : Nat))) != z with
      | true => True ∧ True ∧ (false = false ∧ True) ∧ D.val (Value.bool false) = F
      | false =>
       True ∧
       True ∧
       True ∧
       match z != (0 : Int) with
       | true =>
        True ∧
        True ∧
        True ∧
        True ∧
        True ∧
        True ∧
        True ∧
        match z == (0 : Int) with
        | true =>
         (Sk.st [Sk.one, Sk.one, Sk.one, Sk.arr (4 : Nat)] = Sk.st [Sk.one, Sk.one, Sk.one, Sk.arr (4 : Nat)] ∧ (0 : Nat) < (4 : Nat)) ∧
         (((1 : Nat) ≠ (0 : Nat) ∧ (1 : Nat) = (1 : Nat) ∧ false = false) ∧ D.val (Value.bool (boolOf (fldOf (xs.getD (↑x : Int).toNat (D.val (Value.bool false))) (0 : Nat)))) = D.val (Value.bool (boolOf (fldOf (xs.getD (↑x : Int).toNat (D.val (Value.bool false))) (0 : Nat))))) ∧
         True ∧
         True ∧
         match !boolOf (fldOf (xs.getD (↑x : Int).toNat (D.val (Value.bool false))) (0 : Nat)) with
         | true =>
          True ∧
          True ∧
          True ∧
          isBytes k ∧
          True ∧
          (Sk.st [Sk.one, Sk.one, Sk.one, Sk.arr (4 : Nat)] = Sk.st [Sk.one, Sk.one, Sk.one, Sk.arr (4 : Nat)] ∧ (2 : Nat) < (4 : Nat)) ∧
          ((1 : Nat) ≠ (0 : Nat) ∧ (1 : Nat) = (1 : Nat) ∧ false = false) ∧
          (∃ (k_1 : List Int),
          ∃ (p : Nat),
          ∃ (n : Nat),
          [D.str k, D.val (Value.int IntKind.u64 (pS (dsN k xs x))), D.val (Value.int IntKind.i64 (numOf (fldOf (xs.getD (↑x : Int).toNat (D.val (Value.bool false))) (2 : Nat))))] =
          [D.str k_1, D.val (Value.int IntKind.u64 (↑p : Int)), D.val (Value.int IntKind.i64 (↑n : Int))] ∧
          isB k_1 ∧ p < (18446744073709551616 : Nat) ∧ n ≤ (1000000 : Nat)) ∧
          True ∧
          True ∧
          match !eqB [] (drwL k (pS (dsN k xs x)).toNat (numOf (fldOf (xs.getD (↑x : Int).toNat (D.val (Value.bool false))) (2 : Nat))).toNat) with
          | true => True ∧ (false = false ∧ True) ∧ D.val (Value.bool false) = F
          | false =>
           True ∧
           (Sk.st [Sk.one, Sk.one, Sk.one, Sk.arr (4 : Nat)] = Sk.st [Sk.one, Sk.one, Sk.one, Sk.arr (4 : Nat)] ∧ (2 : Nat) < (4 : Nat)) ∧
           ((1 : Nat) ≠ (0 : Nat) ∧ (1 : Nat) = (1 : Nat) ∧ false = false) ∧
           True ∧
           True ∧
           True ∧
           True ∧
           (∃ (s : SR), [(stQ (skS (srOf (stQ (dsN k xs x))) (numOf (fldOf (xs.getD (↑x : Int).toNat (D.val (Value.bool false))) (2 : Nat))))).ref] = [(stQ s).ref]) ∧
           True ∧
           True ∧
           match
           (↑(srOf (stQ (skS (srOf (stQ (dsN k xs x))) (numOf (fldOf (xs.getD (↑x : Int).toNat (D.val (Value.bool false))) (2 : Nat)))))).p : Int) !=
           IntKind.u64.wrap (pS (dsN k xs x) + IntKind.u64.wrap (numOf (fldOf (xs.getD (↑x : Int).toNat (D.val (Value.bool false))) (2 : Nat)))) with
           | true => True ∧ (false = false ∧ True) ∧ D.val (Value.bool false) = F
           | false =>
            True ∧
            True ∧
            ((AV.d (D.val (Value.int IntKind.i64 (IntKind.i64.wrap ((↑x : Int) + (1 : Int))))) = AV.d (D.val (Value.int IntKind.i64 (↑(IntKind.i64.wrap ((↑x : Int) + (1 : Int))).toNat : Int))) ∧
            AV.d (D.val (Value.int IntKind.u64 (IntKind.u64.wrap (pS (dsN k xs x) + IntKind.u64.wrap (numOf (fldOf (xs.getD (↑x : Int).toNat (D.val (Value.bool false))) (2 : Nat))))))) =
            AV.d (D.val (Value.int IntKind.u64 (pS (dsN k xs (IntKind.i64.wrap ((↑x : Int) + (1 : Int))).toNat)))) ∧
            True) ∧
            (some (Blk.fix (stQ (skS (srOf (stQ (dsN k xs x))) (numOf (fldOf (xs.getD (↑x : Int).toNat (D.val (Value.bool false))) (2 : Nat)))))) =
            some (Blk.fix (stQ (dsN k xs (IntKind.i64.wrap ((↑x : Int) + (1 : Int))).toNat))) ∧
            True) ∧
            true = true) ∧
            (IntKind.i64.wrap ((↑x : Int) + (1 : Int))).toNat ≤ xs.length ∧ xs.length - (IntKind.i64.wrap ((↑x : Int) + (1 : Int))).toNat < xs.length - x
         | false =>
          True ∧
          True ∧
          (Sk.st [Sk.one, Sk.one, Sk.one, Sk.arr (4 : Nat)] = Sk.st [Sk.one, Sk.one, Sk.one, Sk.arr (4 : Nat)] ∧ (2 : Nat) < (4 : Nat)) ∧
          ((1 : Nat) ≠ (0 : Nat) ∧ (1 : Nat) = (1 : Nat) ∧ false = false) ∧
          True ∧
          True ∧
          True ∧
          True ∧
          (∃ (s : SR), [(stQ (skS (srOf (stQ (dsN k xs x))) (numOf (fldOf (xs.getD (↑x : Int).toNat (D.val (Value.bool false))) (2 : Nat))))).ref] = [(stQ s).ref]) ∧
          True ∧
          True ∧
          match
          (↑(srOf (stQ (skS (srOf (stQ (dsN k xs x))) (numOf (fldOf (xs.getD (↑x : Int).toNat (D.val (Value.bool false))) (2 : Nat)))))).p : Int) !=
          IntKind.u64.wrap (pS (dsN k xs x) + IntKind.u64.wrap (numOf (fldOf (xs.getD (↑x : Int).toNat (D.val (Value.bool false))) (2 : Nat)))) with
          | true => True ∧ (false = false ∧ True) ∧ D.val (Value.bool false) = F
          | false =>
           True ∧
           True ∧
           ((AV.d (D.val (Value.int IntKind.i64 (IntKind.i64.wrap ((↑x : Int) + (1 : Int))))) = AV.d (D.val (Value.int IntKind.i64 (↑(IntKind.i64.wrap ((↑x : Int) + (1 : Int))).toNat : Int))) ∧
           AV.d (D.val (Value.int IntKind.u64 (IntKind.u64.wrap (pS (dsN k xs x) + IntKind.u64.wrap (numOf (fldOf (xs.getD (↑x : Int).toNat (D.val (Value.bool false))) (2 : Nat))))))) =
           AV.d (D.val (Value.int IntKind.u64 (pS (dsN k xs (IntKind.i64.wrap ((↑x : Int) + (1 : Int))).toNat)))) ∧
           True) ∧
           (some (Blk.fix (stQ (skS (srOf (stQ (dsN k xs x))) (numOf (fldOf (xs.getD (↑x : Int).toNat (D.val (Value.bool false))) (2 : Nat)))))) = some (Blk.fix (stQ (dsN k xs (IntKind.i64.wrap ((↑x : Int) + (1 : Int))).toNat))) ∧ True) ∧
           true = true) ∧
           (IntKind.i64.wrap ((↑x : Int) + (1 : Int))).toNat ≤ xs.length ∧ xs.length - (IntKind.i64.wrap ((↑x : Int) + (1 : Int))).toNat < xs.length - x
        | false =>
         True ∧
         (∃ (s : SR), [(stQ (skS (srOf (stQ (dsN k xs x))) (numOf (fldOf (xs.getD (↑x : Int).toNat (D.val (Value.bool false))) (2 : Nat))))).ref] = [(stQ s).ref]) ∧
         True ∧
         True ∧
         match (↑(srOf (stQ (skS (srOf (stQ (dsN k xs x))) (numOf (fldOf (xs.getD (↑x : Int).toNat (D.val (Value.bool false))) (2 : Nat)))))).p : Int) != pS (dsN k xs x) with
         | true => True ∧ (false = false ∧ True) ∧ D.val (Value.bool false) = F
         | false =>
          True ∧
          True ∧
          ((AV.d (D.val (Value.int IntKind.i64 (IntKind.i64.wrap ((↑x : Int) + (1 : Int))))) = AV.d (D.val (Value.int IntKind.i64 (↑(IntKind.i64.wrap ((↑x : Int) + (1 : Int))).toNat : Int))) ∧
          AV.d (D.val (Value.int IntKind.u64 (pS (dsN k xs x)))) = AV.d (D.val (Value.int IntKind.u64 (pS (dsN k xs (IntKind.i64.wrap ((↑x : Int) + (1 : Int))).toNat)))) ∧ True) ∧
          (some (Blk.fix (stQ (skS (srOf (stQ (dsN k xs x))) (numOf (fldOf (xs.getD (↑x : Int).toNat (D.val (Value.bool false))) (2 : Nat)))))) = some (Blk.fix (stQ (dsN k xs (IntKind.i64.wrap ((↑x : Int) + (1 : Int))).toNat))) ∧ True) ∧ true = true) ∧
          (IntKind.i64.wrap ((↑x : Int) + (1 : Int))).toNat ≤ xs.length ∧ xs.length - (IntKind.i64.wrap ((↑x : Int) + (1 : Int))).toNat < xs.length - x
       | false =>
        True ∧
        True ∧
        True ∧
        True ∧
        match z == (0 : Int) with
        | true =>
         (Sk.st [Sk.one, Sk.one, Sk.one, Sk.arr (4 : Nat)] = Sk.st [Sk.one, Sk.one, Sk.one, Sk.arr (4 : Nat)] ∧ (0 : Nat) < (4 : Nat)) ∧
         (((1 : Nat) ≠ (0 : Nat) ∧ (1 : Nat) = (1 : Nat) ∧ false = false) ∧ D.val (Value.bool (boolOf (fldOf (xs.getD (↑x : Int).toNat (D.val (Value.bool false))) (0 : Nat)))) = D.val (Value.bool (boolOf (fldOf (xs.getD (↑x : Int).toNat (D.val (Value.bool false))) (0 : Nat))))) ∧
         True ∧
         True ∧
         match !boolOf (fldOf (xs.getD (↑x : Int).toNat (D.val (Value.bool false))) (0 : Nat)) with
         | true =>
          True ∧
          True ∧
          True ∧
          isBytes k ∧
          True ∧
          (Sk.st [Sk.one, Sk.one, Sk.one, Sk.arr (4 : Nat)] = Sk.st [Sk.one, Sk.one, Sk.one, Sk.arr (4 : Nat)] ∧ (2 : Nat) < (4 : Nat)) ∧
          ((1 : Nat) ≠ (0 : Nat) ∧ (1 : Nat) = (1 : Nat) ∧ false = false) ∧
          (∃ (k_1 : List Int),
          ∃ (p : Nat),
          ∃ (n : Nat),
          [D.str k, D.val (Value.int IntKind.u64 (pS (dsN k xs x))), D.val (Value.int IntKind.i64 (numOf (fldOf (xs.getD (↑x : Int).toNat (D.val (Value.bool false))) (2 : Nat))))] =
          [D.str k_1, D.val (Value.int IntKind.u64 (↑p : Int)), D.val (Value.int IntKind.i64 (↑n : Int))] ∧
          isB k_1 ∧ p < (18446744073709551616 : Nat) ∧ n ≤ (1000000 : Nat)) ∧
          True ∧
          True ∧
          match !eqB [] (drwL k (pS (dsN k xs x)).toNat (numOf (fldOf (xs.getD (↑x : Int).toNat (D.val (Value.bool false))) (2 : Nat))).toNat) with
          | true => True ∧ (false = false ∧ True) ∧ D.val (Value.bool false) = F
          | false =>
           True ∧
           (Sk.st [Sk.one, Sk.one, Sk.one, Sk.arr (4 : Nat)] = Sk.st [Sk.one, Sk.one, Sk.one, Sk.arr (4 : Nat)] ∧ (2 : Nat) < (4 : Nat)) ∧
           ((1 : Nat) ≠ (0 : Nat) ∧ (1 : Nat) = (1 : Nat) ∧ false = false) ∧
           True ∧
           True ∧
           True ∧
           True ∧
           (∃ (s : SR), [(stQ (skS (srOf (stQ (dsN k xs x))) (numOf (fldOf (xs.getD (↑x : Int).toNat (D.val (Value.bool false))) (2 : Nat))))).ref] = [(stQ s).ref]) ∧
           True ∧
           True ∧
           match
           (↑(srOf (stQ (skS (srOf (stQ (dsN k xs x))) (numOf (fldOf (xs.getD (↑x : Int).toNat (D.val (Value.bool false))) (2 : Nat)))))).p : Int) !=
           IntKind.u64.wrap (pS (dsN k xs x) + IntKind.u64.wrap (numOf (fldOf (xs.getD (↑x : Int).toNat (D.val (Value.bool false))) (2 : Nat)))) with
           | true => True ∧ (false = false ∧ True) ∧ D.val (Value.bool false) = F
           | false =>
            True ∧
            True ∧
            ((AV.d (D.val (Value.int IntKind.i64 (IntKind.i64.wrap ((↑x : Int) + (1 : Int))))) = AV.d (D.val (Value.int IntKind.i64 (↑(IntKind.i64.wrap ((↑x : Int) + (1 : Int))).toNat : Int))) ∧
            AV.d (D.val (Value.int IntKind.u64 (IntKind.u64.wrap (pS (dsN k xs x) + IntKind.u64.wrap (numOf (fldOf (xs.getD (↑x : Int).toNat (D.val (Value.bool false))) (2 : Nat))))))) =
            AV.d (D.val (Value.int IntKind.u64 (pS (dsN k xs (IntKind.i64.wrap ((↑x : Int) + (1 : Int))).toNat)))) ∧
            True) ∧
            (some (Blk.fix (stQ (skS (srOf (stQ (dsN k xs x))) (numOf (fldOf (xs.getD (↑x : Int).toNat (D.val (Value.bool false))) (2 : Nat)))))) = some (Blk.fix (stQ (dsN k xs (IntKind.i64.wrap ((↑x : Int) + (1 : Int))).toNat))) ∧
            True) ∧
            true = true) ∧
            (IntKind.i64.wrap ((↑x : Int) + (1 : Int))).toNat ≤ xs.length ∧ xs.length - (IntKind.i64.wrap ((↑x : Int) + (1 : Int))).toNat < xs.length - x
         | false =>
          True ∧
          True ∧
          (Sk.st [Sk.one, Sk.one, Sk.one, Sk.arr (4 : Nat)] = Sk.st [Sk.one, Sk.one, Sk.one, Sk.arr (4 : Nat)] ∧ (2 : Nat) < (4 : Nat)) ∧
          ((1 : Nat) ≠ (0 : Nat) ∧ (1 : Nat) = (1 : Nat) ∧ false = false) ∧
          True ∧
          True ∧
          True ∧
          True ∧
          (∃ (s : SR), [(stQ (skS (srOf (stQ (dsN k xs x))) (numOf (fldOf (xs.getD (↑x : Int).toNat (D.val (Value.bool false))) (2 : Nat))))).ref] = [(stQ s).ref]) ∧
          True ∧
          True ∧
          match
          (↑(srOf (stQ (skS (srOf (stQ (dsN k xs x))) (numOf (fldOf (xs.getD (↑x : Int).toNat (D.val (Value.bool false))) (2 : Nat)))))).p : Int) !=
          IntKind.u64.wrap (pS (dsN k xs x) + IntKind.u64.wrap (numOf (fldOf (xs.getD (↑x : Int).toNat (D.val (Value.bool false))) (2 : Nat)))) with
          | true => True ∧ (false = false ∧ True) ∧ D.val (Value.bool false) = F
          | false =>
           True ∧
           True ∧
           ((AV.d (D.val (Value.int IntKind.i64 (IntKind.i64.wrap ((↑x : Int) + (1 : Int))))) = AV.d (D.val (Value.int IntKind.i64 (↑(IntKind.i64.wrap ((↑x : Int) + (1 : Int))).toNat : Int))) ∧
           AV.d (D.val (Value.int IntKind.u64 (IntKind.u64.wrap (pS (dsN k xs x) + IntKind.u64.wrap (numOf (fldOf (xs.getD (↑x : Int).toNat (D.val (Value.bool false))) (2 : Nat))))))) =
           AV.d (D.val (Value.int IntKind.u64 (pS (dsN k xs (IntKind.i64.wrap ((↑x : Int) + (1 : Int))).toNat)))) ∧
           True) ∧
           (some (Blk.fix (stQ (skS (srOf (stQ (dsN k xs x))) (numOf (fldOf (xs.getD (↑x : Int).toNat (D.val (Value.bool false))) (2 : Nat)))))) = some (Blk.fix (stQ (dsN k xs (IntKind.i64.wrap ((↑x : Int) + (1 : Int))).toNat))) ∧ True) ∧ true = true) ∧
           (IntKind.i64.wrap ((↑x : Int) + (1 : Int))).toNat ≤ xs.length ∧ xs.length - (IntKind.i64.wrap ((↑x : Int) + (1 : Int))).toNat < xs.length - x
        | false =>
         True ∧
         (∃ (s : SR), [(stQ (skS (srOf (stQ (dsN k xs x))) (numOf (fldOf (xs.getD (↑x : Int).toNat (D.val (Value.bool false))) (2 : Nat))))).ref] = [(stQ s).ref]) ∧
         True ∧
         True ∧
         match (↑(srOf (stQ (skS (srOf (stQ (dsN k xs x))) (numOf (fldOf (xs.getD (↑x : Int).toNat (D.val (Value.bool false))) (2 : Nat)))))).p : Int) != pS (dsN k xs x) with
         | true => True ∧ (false = false ∧ True) ∧ D.val (Value.bool false) = F
         | false =>
          True ∧
          True ∧
          ((AV.d (D.val (Value.int IntKind.i64 (IntKind.i64.wrap ((↑x : Int) + (1 : Int))))) = AV.d (D.val (Value.int IntKind.i64 (↑(IntKind.i64.wrap ((↑x : Int) + (1 : Int))).toNat : Int))) ∧
          AV.d (D.val (Value.int IntKind.u64 (pS (dsN k xs x)))) = AV.d (D.val (Value.int IntKind.u64 (pS (dsN k xs (IntKind.i64.wrap ((↑x : Int) + (1 : Int))).toNat)))) ∧ True) ∧
          (some (Blk.fix (stQ (skS (srOf (stQ (dsN k xs x))) (numOf (fldOf (xs.getD (↑x : Int).toNat (D.val (Value.bool false))) (2 : Nat)))))) = some (Blk.fix (stQ (dsN k xs (IntKind.i64.wrap ((↑x : Int) + (1 : Int))).toNat))) ∧ True) ∧ true = true) ∧
          (IntKind.i64.wrap ((↑x : Int) + (1 : Int))).toNat ≤ xs.length ∧ xs.length - (IntKind.i64.wrap ((↑x : Int) + (1 : Int))).toNat < xs.length - x
     | false =>
      True ∧
      (Sk.st [Sk.one, Sk.one, Sk.one, Sk.arr (4 : Nat)] = Sk.st [Sk.one, Sk.one, Sk.one, Sk.arr (4 : Nat)] ∧ (2 : Nat) < (4 : Nat)) ∧
      ((1 : Nat) ≠ (0 : Nat) ∧ (1 : Nat) = (1 : Nat) ∧ false = false) ∧
      (∃ (s : SR), ∃ (n : Int), [stQ (dsN k xs x), D.val (Value.int IntKind.i64 (numOf (fldOf (xs.getD (↑x : Int).toNat (D.val (Value.bool false))) (2 : Nat))))] = [stQ s, D.val (Value.int IntKind.i64 n)] ∧ okR s) ∧
      True ∧
      ((0 : Nat) < (2 : Nat) ∧ false = false) ∧
      ((1 : Nat) < (2 : Nat) ∧ false = false) ∧
      True ∧
      True ∧
      True ∧
      True ∧
      True ∧
      True ∧
      match fitE (numOf (fldOf (xs.getD (↑x : Int).toNat (D.val (Value.bool false))) (2 : Nat))) != z with
      | true => True ∧ True ∧ (false = false ∧ True) ∧ D.val (Value.bool false) = F
      | false =>
       True ∧
       True ∧
       True ∧
       match z != (0 : Int) with
       | true =>
        True ∧
        True ∧
        True ∧
        True ∧
        True ∧
        match decide ((↑(bysL (srOf (stQ (dsN k xs x))) (numOf (fldOf (xs.getD (↑x : Int).toNat (D.val (Value.bool false))) (2 : Nat)))).length : Int) > (0 : Int)) with
        | true => True ∧ (false = false ∧ True) ∧ D.val (Value.bool false) = F
        | false =>
         True ∧
         True ∧
         match z == (0 : Int) with
         | true =>
          (Sk.st [Sk.one, Sk.one, Sk.one, Sk.arr (4 : Nat)] = Sk.st [Sk.one, Sk.one, Sk.one, Sk.arr (4 : Nat)] ∧ (0 : Nat) < (4 : Nat)) ∧
          (((1 : Nat) ≠ (0 : Nat) ∧ (1 : Nat) = (1 : Nat) ∧ false = false) ∧
          D.val (Value.bool (boolOf (fldOf (xs.getD (↑x : Int).toNat (D.val (Value.bool false))) (0 : Nat)))) = D.val (Value.bool (boolOf (fldOf (xs.getD (↑x : Int).toNat (D.val (Value.bool false))) (0 : Nat))))) ∧
          True ∧
          True ∧
          match !boolOf (fldOf (xs.getD (↑x : Int).toNat (D.val (Value.bool false))) (0 : Nat)) with
          | true =>
           True ∧
           isBytes (bysL (srOf (stQ (dsN k xs x))) (numOf (fldOf (xs.getD (↑x : Int).toNat (D.val (Value.bool false))) (2 : Nat)))) ∧
           True ∧
           isBytes k ∧
           True ∧
           (Sk.st [Sk.one, Sk.one, Sk.one, Sk.arr (4 : Nat)] = Sk.st [Sk.one, Sk.one, Sk.one, Sk.arr (4 : Nat)] ∧ (2 : Nat) < (4 : Nat)) ∧
           ((1 : Nat) ≠ (0 : Nat) ∧ (1 : Nat) = (1 : Nat) ∧ false = false) ∧
           (∃ (k_1 : List Int),
           ∃ (p : Nat),
           ∃ (n : Nat),
           [D.str k, D.val (Value.int IntKind.u64 (pS (dsN k xs x))), D.val (Value.int IntKind.i64 (numOf (fldOf (xs.getD (↑x : Int).toNat (D.val (Value.bool false))) (2 : Nat))))] =
           [D.str k_1, D.val (Value.int IntKind.u64 (↑p : Int)), D.val (Value.int IntKind.i64 (↑n : Int))] ∧
           isB k_1 ∧ p < (18446744073709551616 : Nat) ∧ n ≤ (1000000 : Nat)) ∧
           True ∧
           True ∧
           match
           !eqB (bysL (srOf (stQ (dsN k xs x))) (numOf (fldOf (xs.getD (↑x : Int).toNat (D.val (Value.bool false))) (2 : Nat))))
           (drwL k (pS (dsN k xs x)).toNat (numOf (fldOf (xs.getD (↑x : Int).toNat (D.val (Value.bool false))) (2 : Nat))).toNat) with
           | true => True ∧ (false = false ∧ True) ∧ D.val (Value.bool false) = F
           | false =>
            True ∧
            (Sk.st [Sk.one, Sk.one, Sk.one, Sk.arr (4 : Nat)] = Sk.st [Sk.one, Sk.one, Sk.one, Sk.arr (4 : Nat)] ∧ (2 : Nat) < (4 : Nat)) ∧
            ((1 : Nat) ≠ (0 : Nat) ∧ (1 : Nat) = (1 : Nat) ∧ false = false) ∧
            True ∧
            True ∧
            True ∧
            True ∧
            (∃ (s : SR), [(stQ (bysS (srOf (stQ (dsN k xs x))) (numOf (fldOf (xs.getD (↑x : Int).toNat (D.val (Value.bool false))) (2 : Nat))))).ref] = [(stQ s).ref]) ∧
            True ∧
            True ∧
            match
            (↑(srOf (stQ (bysS (srOf (stQ (dsN k xs x))) (numOf (fldOf (xs.getD (↑x : Int).toNat (D.val (Value.bool false))) (2 : Nat)))))).p : Int) !=
            IntKind.u64.wrap (pS (dsN k xs x) + IntKind.u64.wrap (numOf (fldOf (xs.getD (↑x : Int).toNat (D.val (Value.bool false))) (2 : Nat)))) with
            | true => True ∧ (false = false ∧ True) ∧ D.val (Value.bool false) = F
            | false =>
             True ∧
             True ∧
             ((AV.d (D.val (Value.int IntKind.i64 (IntKind.i64.wrap ((↑x : Int) + (1 : Int))))) = AV.d (D.val (Value.int IntKind.i64 (↑(IntKind.i64.wrap ((↑x : Int) + (1 : Int))).toNat : Int))) ∧
             AV.d (D.val (Value.int IntKind.u64 (IntKind.u64.wrap (pS (dsN k xs x) + IntKind.u64.wrap (numOf (fldOf (xs.getD (↑x : Int).toNat (D.val (Value.bool false))) (2 : Nat))))))) =
             AV.d (D.val (Value.int IntKind.u64 (pS (dsN k xs (IntKind.i64.wrap ((↑x : Int) + (1 : Int))).toNat)))) ∧
             True) ∧
             (some (Blk.fix (stQ (bysS (srOf (stQ (dsN k xs x))) (numOf (fldOf (xs.getD (↑x : Int).toNat (D.val (Value.bool false))) (2 : Nat)))))) =
             some (Blk.fix (stQ (dsN k xs (IntKind.i64.wrap ((↑x : Int) + (1 : Int))).toNat))) ∧
             True) ∧
             true = true) ∧
             (IntKind.i64.wrap ((↑x : Int) + (1 : Int))).toNat ≤ xs.length ∧ xs.length - (IntKind.i64.wrap ((↑x : Int) + (1 : Int))).toNat < xs.length - x
          | false =>
           True ∧
           True ∧
           (Sk.st [Sk.one, Sk.one, Sk.one, Sk.arr (4 : Nat)] = Sk.st [Sk.one, Sk.one, Sk.one, Sk.arr (4 : Nat)] ∧ (2 : Nat) < (4 : Nat)) ∧
           ((1 : Nat) ≠ (0 : Nat) ∧ (1 : Nat) = (1 : Nat) ∧ false = false) ∧
           True ∧
           True ∧
           True ∧
           True ∧
           (∃ (s : SR), [(stQ (bysS (srOf (stQ (dsN k xs x))) (numOf (fldOf (xs.getD (↑x : Int).toNat (D.val (Value.bool false))) (2 : Nat))))).ref] = [(stQ s).ref]) ∧
           True ∧
           True ∧
           match
           (↑(srOf (stQ (bysS (srOf (stQ (dsN k xs x))) (numOf (fldOf (xs.getD (↑x : Int).toNat (D.val (Value.bool false))) (2 : Nat)))))).p : Int) !=
           IntKind.u64.wrap (pS (dsN k xs x) + IntKind.u64.wrap (numOf (fldOf (xs.getD (↑x : Int).toNat (D.val (Value.bool false))) (2 : Nat)))) with
           | true => True ∧ (false = false ∧ True) ∧ D.val (Value.bool false) = F
           | false =>
            True ∧
            True ∧
            ((AV.d (D.val (Value.int IntKind.i64 (IntKind.i64.wrap ((↑x : Int) + (1 : Int))))) = AV.d (D.val (Value.int IntKind.i64 (↑(IntKind.i64.wrap ((↑x : Int) + (1 : Int))).toNat : Int))) ∧
            AV.d (D.val (Value.int IntKind.u64 (IntKind.u64.wrap (pS (dsN k xs x) + IntKind.u64.wrap (numOf (fldOf (xs.getD (↑x : Int).toNat (D.val (Value.bool false))) (2 : Nat))))))) =
            AV.d (D.val (Value.int IntKind.u64 (pS (dsN k xs (IntKind.i64.wrap ((↑x : Int) + (1 : Int))).toNat)))) ∧
            True) ∧
            (some (Blk.fix (stQ (bysS (srOf (stQ (dsN k xs x))) (numOf (fldOf (xs.getD (↑x : Int).toNat (D.val (Value.bool false))) (2 : Nat)))))) = some (Blk.fix (stQ (dsN k xs (IntKind.i64.wrap ((↑x : Int) + (1 : Int))).toNat))) ∧
            True) ∧
            true = true) ∧
            (IntKind.i64.wrap ((↑x : Int) + (1 : Int))).toNat ≤ xs.length ∧ xs.length - (IntKind.i64.wrap ((↑x : Int) + (1 : Int))).toNat < xs.length - x
         | false =>
          True ∧
          (∃ (s : SR), [(stQ (bysS (srOf (stQ (dsN k xs x))) (numOf (fldOf (xs.getD (↑x : Int).toNat (D.val (Value.bool false))) (2 : Nat))))).ref] = [(stQ s).ref]) ∧
          True ∧
          True ∧
          match (↑(srOf (stQ (bysS (srOf (stQ (dsN k xs x))) (numOf (fldOf (xs.getD (↑x : Int).toNat (D.val (Value.bool false))) (2 : Nat)))))).p : Int) != pS (dsN k xs x) with
          | true => True ∧ (false = false ∧ True) ∧ D.val (Value.bool false) = F
          | false =>
           True ∧
           True ∧
           ((AV.d (D.val (Value.int IntKind.i64 (IntKind.i64.wrap ((↑x : Int) + (1 : Int))))) = AV.d (D.val (Value.int IntKind.i64 (↑(IntKind.i64.wrap ((↑x : Int) + (1 : Int))).toNat : Int))) ∧
           AV.d (D.val (Value.int IntKind.u64 (pS (dsN k xs x)))) = AV.d (D.val (Value.int IntKind.u64 (pS (dsN k xs (IntKind.i64.wrap ((↑x : Int) + (1 : Int))).toNat)))) ∧ True) ∧
           (some (Blk.fix (stQ (bysS (srOf (stQ (dsN k xs x))) (numOf (fldOf (xs.getD (↑x : Int).toNat (D.val (Value.bool false))) (2 : Nat)))))) = some (Blk.fix (stQ (dsN k xs (IntKind.i64.wrap ((↑x : Int) + (1 : Int))).toNat))) ∧ True) ∧ true = true) ∧
           (IntKind.i64.wrap ((↑x : Int) + (1 : Int))).toNat ≤ xs.length ∧ xs.length - (IntKind.i64.wrap ((↑x : Int) + (1 : Int))).toNat < xs.length - x
       | false =>
        True ∧
        True ∧
        True ∧
        True ∧
        match z == (0 : Int) with
        | true =>
         (Sk.st [Sk.one, Sk.one, Sk.one, Sk.arr (4 : Nat)] = Sk.st [Sk.one, Sk.one, Sk.one, Sk.arr (4 : Nat)] ∧ (0 : Nat) < (4 : Nat)) ∧
         (((1 : Nat) ≠ (0 : Nat) ∧ (1 : Nat) = (1 : Nat) ∧ false = false) ∧ D.val (Value.bool (boolOf (fldOf (xs.getD (↑x : Int).toNat (D.val (Value.bool false))) (0 : Nat)))) = D.val (Value.bool (boolOf (fldOf (xs.getD (↑x : Int).toNat (D.val (Value.bool false))) (0 : Nat))))) ∧
         True ∧
         True ∧
         match !boolOf (fldOf (xs.getD (↑x : Int).toNat (D.val (Value.bool false))) (0 : Nat)) with
         | true =>
          True ∧
          isBytes (bysL (srOf (stQ (dsN k xs x))) (numOf (fldOf (xs.getD (↑x : Int).toNat (D.val (Value.bool false))) (2 : Nat)))) ∧
          True ∧
          isBytes k ∧
          True ∧
          (Sk.st [Sk.one, Sk.one, Sk.one, Sk.arr (4 : Nat)] = Sk.st [Sk.one, Sk.one, Sk.one, Sk.arr (4 : Nat)] ∧ (2 : Nat) < (4 : Nat)) ∧
          ((1 : Nat) ≠ (0 : Nat) ∧ (1 : Nat) = (1 : Nat) ∧ false = false) ∧
          (∃ (k_1 : List Int),
          ∃ (p : Nat),
          ∃ (n : Nat),
          [D.str k, D.val (Value.int IntKind.u64 (pS (dsN k xs x))), D.val (Value.int IntKind.i64 (numOf (fldOf (xs.getD (↑x : Int).toNat (D.val (Value.bool false))) (2 : Nat))))] =
          [D.str k_1, D.val (Value.int IntKind.u64 (↑p : Int)), D.val (Value.int IntKind.i64 (↑n : Int))] ∧
          isB k_1 ∧ p < (18446744073709551616 : Nat) ∧ n ≤ (1000000 : Nat)) ∧
          True ∧
          True ∧
          match
          !eqB (bysL (srOf (stQ (dsN k xs x))) (numOf (fldOf (xs.getD (↑x : Int).toNat (D.val (Value.bool false))) (2 : Nat)))) (drwL k (pS (dsN k xs x)).toNat (numOf (fldOf (xs.getD (↑x : Int).toNat (D.val (Value.bool false))) (2 : Nat))).toNat) with
          | true => True ∧ (false = false ∧ True) ∧ D.val (Value.bool false) = F
          | false =>
           True ∧
           (Sk.st [Sk.one, Sk.one, Sk.one, Sk.arr (4 : Nat)] = Sk.st [Sk.one, Sk.one, Sk.one, Sk.arr (4 : Nat)] ∧ (2 : Nat) < (4 : Nat)) ∧
           ((1 : Nat) ≠ (0 : Nat) ∧ (1 : Nat) = (1 : Nat) ∧ false = false) ∧
           True ∧
           True ∧
           True ∧
           True ∧
           (∃ (s : SR), [(stQ (bysS (srOf (stQ (dsN k xs x))) (numOf (fldOf (xs.getD (↑x : Int).toNat (D.val (Value.bool false))) (2 : Nat))))).ref] = [(stQ s).ref]) ∧
           True ∧
           True ∧
           match
           (↑(srOf (stQ (bysS (srOf (stQ (dsN k xs x))) (numOf (fldOf (xs.getD (↑x : Int).toNat (D.val (Value.bool false))) (2 : Nat)))))).p : Int) !=
           IntKind.u64.wrap (pS (dsN k xs x) + IntKind.u64.wrap (numOf (fldOf (xs.getD (↑x : Int).toNat (D.val (Value.bool false))) (2 : Nat)))) with
           | true => True ∧ (false = false ∧ True) ∧ D.val (Value.bool false) = F
           | false =>
            True ∧
            True ∧
            ((AV.d (D.val (Value.int IntKind.i64 (IntKind.i64.wrap ((↑x : Int) + (1 : Int))))) = AV.d (D.val (Value.int IntKind.i64 (↑(IntKind.i64.wrap ((↑x : Int) + (1 : Int))).toNat : Int))) ∧
            AV.d (D.val (Value.int IntKind.u64 (IntKind.u64.wrap (pS (dsN k xs x) + IntKind.u64.wrap (numOf (fldOf (xs.getD (↑x : Int).toNat (D.val (Value.bool false))) (2 : Nat))))))) =
            AV.d (D.val (Value.int IntKind.u64 (pS (dsN k xs (IntKind.i64.wrap ((↑x : Int) + (1 : Int))).toNat)))) ∧
            True) ∧
            (some (Blk.fix (stQ (bysS (srOf (stQ (dsN k xs x))) (numOf (fldOf (xs.getD (↑x : Int).toNat (D.val (Value.bool false))) (2 : Nat)))))) =
            some (Blk.fix (stQ (dsN k xs (IntKind.i64.wrap ((↑x : Int) + (1 : Int))).toNat))) ∧
            True) ∧
            true = true) ∧
            (IntKind.i64.wrap ((↑x : Int) + (1 : Int))).toNat ≤ xs.length ∧ xs.length - (IntKind.i64.wrap ((↑x : Int) + (1 : Int))).toNat < xs.length - x
         | false =>
          True ∧
          True ∧
          (Sk.st [Sk.one, Sk.one, Sk.one, Sk.arr (4 : Nat)] = Sk.st [Sk.one, Sk.one, Sk.one, Sk.arr (4 : Nat)] ∧ (2 : Nat) < (4 : Nat)) ∧
          ((1 : Nat) ≠ (0 : Nat) ∧ (1 : Nat) = (1 : Nat) ∧ false = false) ∧
          True ∧
          True ∧
          True ∧
          True ∧
          (∃ (s : SR), [(stQ (bysS (srOf (stQ (dsN k xs x))) (numOf (fldOf (xs.getD (↑x : Int).toNat (D.val (Value.bool false))) (2 : Nat))))).ref] = [(stQ s).ref]) ∧
          True ∧
          True ∧
          match
          (↑(srOf (stQ (bysS (srOf (stQ (dsN k xs x))) (numOf (fldOf (xs.getD (↑x : Int).toNat (D.val (Value.bool false))) (2 : Nat)))))).p : Int) !=
          IntKind.u64.wrap (pS (dsN k xs x) + IntKind.u64.wrap (numOf (fldOf (xs.getD (↑x : Int).toNat (D.val (Value.bool false))) (2 : Nat)))) with
          | true => True ∧ (false = false ∧ True) ∧ D.val (Value.bool false) = F
          | false =>
           True ∧
           True ∧
           ((AV.d (D.val (Value.int IntKind.i64 (IntKind.i64.wrap ((↑x : Int) + (1 : Int))))) = AV.d (D.val (Value.int IntKind.i64 (↑(IntKind.i64.wrap ((↑x : Int) + (1 : Int))).toNat : Int))) ∧
           AV.d (D.val (Value.int IntKind.u64 (IntKind.u64.wrap (pS (dsN k xs x) + IntKind.u64.wrap (numOf (fldOf (xs.getD (↑x : Int).toNat (D.val (Value.bool false))) (2 : Nat))))))) =
           AV.d (D.val (Value.int IntKind.u64 (pS (dsN k xs (IntKind.i64.wrap ((↑x : Int) + (1 : Int))).toNat)))) ∧
           True) ∧
           (some (Blk.fix (stQ (bysS (srOf (stQ (dsN k xs x))) (numOf (fldOf (xs.getD (↑x : Int).toNat (D.val (Value.bool false))) (2 : Nat)))))) = some (Blk.fix (stQ (dsN k xs (IntKind.i64.wrap ((↑x : Int) + (1 : Int))).toNat))) ∧ True) ∧
           true = true) ∧
           (IntKind.i64.wrap ((↑x : Int) + (1 : Int))).toNat ≤ xs.length ∧ xs.length - (IntKind.i64.wrap ((↑x : Int) + (1 : Int))).toNat < xs.length - x
        | false =>
         True ∧
         (∃ (s : SR), [(stQ (bysS (srOf (stQ (dsN k xs x))) (numOf (fldOf (xs.getD (↑x : Int).toNat (D.val (Value.bool false))) (2 : Nat))))).ref] = [(stQ s).ref]) ∧
         True ∧
         True ∧
         match (↑(srOf (stQ (bysS (srOf (stQ (dsN k xs x))) (numOf (fldOf (xs.getD (↑x : Int).toNat (D.val (Value.bool false))) (2 : Nat)))))).p : Int) != pS (dsN k xs x) with
         | true => True ∧ (false = false ∧ True) ∧ D.val (Value.bool false) = F
         | false =>
          True ∧
          True ∧
          ((AV.d (D.val (Value.int IntKind.i64 (IntKind.i64.wrap ((↑x : Int) + (1 : Int))))) = AV.d (D.val (Value.int IntKind.i64 (↑(IntKind.i64.wrap ((↑x : Int) + (1 : Int))).toNat : Int))) ∧
          AV.d (D.val (Value.int IntKind.u64 (pS (dsN k xs x)))) = AV.d (D.val (Value.int IntKind.u64 (pS (dsN k xs (IntKind.i64.wrap ((↑x : Int) + (1 : Int))).toNat)))) ∧ True) ∧
          (some (Blk.fix (stQ (bysS (srOf (stQ (dsN k xs x))) (numOf (fldOf (xs.getD (↑x : Int).toNat (D.val (Value.bool false))) (2 : Nat)))))) = some (Blk.fix (stQ (dsN k xs (IntKind.i64.wrap ((↑x : Int) + (1 : Int))).toNat))) ∧ True) ∧ true = true) ∧
          (IntKind.i64.wrap ((↑x : Int) + (1 : Int))).toNat ≤ xs.length ∧ xs.length - (IntKind.i64.wrap ((↑x : Int) + (1 : Int))).toNat < xs.length - x
  | false => True ∧ (false = false ∧ True) ∧ D.val (Value.bool true) = F) := by kernel_rfl
set_option maxRecDepth 100000 in
theorem ok4'  (d : D)  :
    (OkT tab 6 4 d) = (
 ∃ (b : Bool), d = D.val (Value.bool b)) := by kernel_rfl
set_option maxRecDepth 100000 in
theorem ok3'  (d : D)  :
    (OkT tab 6 3 d) = (
 ∃ (z : Int), d = D.val (Value.int IntKind.i64 z) ∧ -(2 : Int) ^ (63 : Nat) ≤ z ∧ z ≤ IntKind.i64.max) := by kernel_rfl
set_option maxRecDepth 100000 in
theorem ok75'  (d : D)  :
    (OkT tab 6 75 d) = (
 ∃ (l : List Int), d = D.arr IntKind.u64 (4 : Nat) l ∧ l.length = (4 : Nat) ∧ ∀ (z : Int), z ∈ l → (0 : Int) ≤ z ∧ z ≤ IntKind.u64.max) := by kernel_rfl
set_option maxRecDepth 100000 in
theorem ok70  (d : D)  :
    (OkT tab 8 70 d) = (
 ∃ (xs : List D), d = D.slc (7 : Nat) xs ∧ (∀ (y : D), y ∈ xs → ∃ (ds : List D), y = D.st ds ∧ OkL (OkT tab (6 : Nat)) [((0 : Nat), (4 : TypeId)), ((1 : Nat), (4 : TypeId)), ((2 : Nat), (3 : TypeId)), ((3 : Nat), (75 : TypeId))] ds) ∧ xs.length ≤ (9223372036854775807 : Nat) ∧ xs.length * (48 : Nat) ≤ (140737488351232 : Nat)) := by kernel_rfl
end Go.Proofs.YtkicjckhkefnpaaDoor
namespace Go.Proofs.YtkicjckhkefnpaaDoor
open Go Go.Vg
structure VS (k : List Int) (s : SR) : Prop where
 key : s.k = mNew k
 lt : s.p < 18446744073709551616
 by' : isBytes s.b
 len : s.b.length = 32
 blk : s.m = true → s.p % 32 ≠ 0 → s.b = mkL k (be8 (s.p / 32))
theorem VS.ok {k : List Int} {s : SR} (hk : isB k) (h : VS k s) : okR s := ⟨h.key ▸ mNew_ok hk, h.lt, h.by', h.len⟩
theorem VS.nxB {k : List Int} {s : SR} (h : VS k s) : nxB s = mkL k (be8 (s.p / 32)) := by
 unfold Go.Proofs.YtkicjckhkefnpaaDoor.nxB blkS
 split
 ·rw [h.key, mac_eq]
 ·rename_i hn
  have h1 : s.p % 32 ≠ 0 := fun e => hn (.inl e)
  have h2 : s.m = true := by
   cases e : s.m
   ·exact absurd (Or.inr e) hn
   ·rfl
  exact h.blk h2 h1
theorem VS.nxV {k : List Int} {s : SR} (h : VS k s) : nxV s = plcB k s.p := by
 unfold Go.Proofs.YtkicjckhkefnpaaDoor.nxV plcB
 rw [h.nxB]
theorem VS.nx {k : List Int} {s : SR} (hk : isB k) (h : VS k s) : VS k (nxS s) := by
 have ho := nxS_ok (h.ok hk)
 refine ⟨h.key, ho.2.1, ho.2.2.1, ho.2.2.2, fun _ hp => ?_⟩
 show Go.Proofs.YtkicjckhkefnpaaDoor.nxB s = _
 rw [h.nxB]
 have hlt := h.lt
 have e : (nxS s).p = (s.p + 1) % 18446744073709551616 := rfl
 rw [e] at hp ⊢
 have : (s.p + 1) % 18446744073709551616 / 32 = s.p / 32 := by omega
 rw [this]
theorem VS.it {k : List Int} {s : SR} (hk : isB k) (h : VS k s) : ∀ n, VS k (itS s n) ∧ (itS s n).p = (s.p + n) % 18446744073709551616
 | 0 => ⟨h, by have := h.lt; show s.p = (s.p + 0) % _; omega⟩
 | n + 1 => by
  obtain ⟨h1, h2⟩ := VS.it hk h n
  refine ⟨h1.nx hk, ?_⟩
  show ((itS s n).p + 1) % 18446744073709551616 = _
  rw [h2]
  omega
theorem VS.drw {k : List Int} {s : SR} (hk : isB k) (h : VS k s) (n : Nat) : itV s n = drwL k s.p n := by
 unfold itV drwL
 refine List.map_congr_left fun i _ => ?_
 obtain ⟨h1, h2⟩ := h.it hk i
 rw [h1.nxV, h2]
theorem VS.gT {k : List Int} {s : SR} (hk : isB k) (h : VS k s) (v : Nat) : gT s v = gR k s.p v := by
 funext t
 unfold Go.Proofs.YtkicjckhkefnpaaDoor.gT gR
 obtain ⟨h1, h2⟩ := h.it hk (32 * t)
 rw [h1.drw hk, h2]
theorem VS.sk {k : List Int} {s : SR} (h : VS k s) (n : Int) : VS k (skS s n) := by
 unfold skS
 split
 ·exact ⟨h.key, Nat.mod_lt _ (by decide), h.by', h.len, fun e => by cases e⟩
 ·exact h
theorem VS.dr {k : List Int} {s : SR} (hk : isB k) (h : VS k s) (x : D) : VS k (drS s x) := by
 unfold drS
 split
 ·unfold bwS
  exact (h.it hk _).1
 ·split
  ·exact h.sk _
  ·unfold bysS
   split
   ·exact (h.it hk _).1
   ·exact h
theorem VS.zero (k : List Int) : VS k (sr0 k 0) := by
 refine ⟨rfl, Nat.two_pow_pos 64, ?_, List.length_replicate, fun e => by cases e⟩
 intro x hx
 rw [List.eq_of_mem_replicate hx]
 decide
theorem VS.ds {k : List Int} (hk : isB k) (xs : List D) : ∀ i, VS k (dsN k xs i)
 | 0 => VS.zero k
 | i + 1 => (VS.ds hk xs i).dr hk _
theorem bwN_le (g : Nat → Nat) (v : Nat) : bwN g v ≤ 3200 := by
 have : ∀ n t r, fstB g v n t = some r → r < n + t := by
  intro n
  induction n with
  | zero => intro t r h; cases h
  | succ n ih =>
   intro t r h
   unfold fstB at h
   split at h
   ·cases h; omega
   ·have := ih (t + 1) r h; omega
 unfold bwN
 split
 ·omega
 ·cases e : fstB g v 100 0 with
  | none => exact Nat.le_refl _
  | some t =>
   have := this 100 0 t e
   show 32 * (t + 1) ≤ 3200
   omega
theorem okL4 {R : TypeId → D → Prop} {o p q r : Nat} {a b c d : TypeId} : ∀ {ds : List D}, OkL R [(o, a), (p, b), (q, c), (r, d)] ds → ∃ w x y z, ds = [w, x, y, z] ∧ R a w ∧ R b x ∧ R c y ∧ R d z
 | [], h => by cases h
 | [_], h => by cases h.2
 | [_, _], h => by cases h.2.2
 | [_, _, _], h => by cases h.2.2.2
 | [w, x, y, z], h => ⟨w, x, y, z, rfl, h.1, h.2.1, h.2.2.1, h.2.2.2.1⟩
 | _ :: _ :: _ :: _ :: _ :: _, h => by cases h.2.2.2.2
theorem el_of {y : D} {ds : List D} (e : y = .st ds) (h : OkL (OkT tab 6) [(0, 4), (1, 4), (2, 3), (3, 75)] ds) : ∃ sk be n m, y = .st [bl sk, bl be, i64 n, num4 m] ∧ isN m ∧ i64ok n := by
 obtain ⟨a, b, c, d, rfl, h1, h2, h3, h4⟩ := okL4 h
 rw [ok4'] at h1 h2
 rw [ok3'] at h3
 rw [ok75'] at h4
 obtain ⟨x, rfl⟩ := h1
 obtain ⟨y, rfl⟩ := h2
 obtain ⟨n, rfl, hn⟩ := h3
 obtain ⟨m, rfl, hm, hm2⟩ := h4
 exact ⟨x, y, n, m, e, ⟨fun z hz => ⟨(hm2 z hz).1, Int.lt_of_le_of_lt (hm2 z hz).2 (by decide)⟩, hm⟩, hn⟩
set_option maxRecDepth 100000 in
theorem m8 : Meets Tryd.prog 8 (lawSpec tab Tryd.f8.params.toList) := by
 refine meets_of_owed (C := c8) ⟨tab_ok, lkS_ok ⟨m40q, m41, m42, m43q, m44q, m45q, m46, trivial⟩⟩ (by kernel_rfl) (by kernel_rfl : Tryd.prog.funcs[8]? = some Tryd.f8) (by kernel_rfl) (by kernel_rfl) (by kernel_rfl) _ ?_
 intro ds hds
 obtain ⟨k, xs, rfl, hk, hxs⟩ : ∃ k xs, ds = [.ints .u8 k, .slc 7 xs] ∧ isB k ∧ (∀ y ∈ xs, ∃ ds, y = D.st ds ∧ OkL (OkT tab 6) [(0, 4), (1, 4), (2, 3), (3, 75)] ds) := by
  have hds : OkAll tab 8 [26, 70] ds := hds
  obtain ⟨d1, d2, rfl, h1, h2⟩ := okAll2 hds
  rw [ok26] at h1
  obtain ⟨l, rfl, h1, _, h3⟩ := h1
  rw [ok70] at h2
  obtain ⟨xs, rfl, h2, _, _⟩ := h2
  refine ⟨l, xs, rfl, ⟨fun x hx => ?_, by omega⟩, h2⟩
  have := h1 x hx
  have e : IntKind.u8.max = 255 := rfl
  rw [e] at this
  omega
 refine ⟨fun _ => rfl, inv8 k xs, ?_⟩
 show owed c8 (inv8 k xs) Tryd.f8 [.ints .u8 k, .slc 7 xs] (bl true)
 rw [vc8]
 split
 ·simp (decide := true) only [eq_self, true_and, and_true, ne_eq, not_false_eq_true]
 rename_i hxl
 have hxl : xs.length ≤ 20 := by have := of_decide_eq_false hxl; omega
 have hP : ∀ i, (pS (dsN k xs i)).toNat = (dsN k xs i).p := fun i => by unfold pS; rw [Int.toNat_natCast]
 simp (decide := true) only [srOq, hP, Int.toNat_natCast, sm, show Int.toNat 0 = 0 from rfl, eq_self, true_and, and_true, ne_eq, not_false_eq_true]
 refine ⟨⟨k, rfl, hk⟩, ⟨⟨by and_intros <;> first | trivial | rfl, Nat.zero_le _⟩, fun i hi => ?_⟩⟩
 split
 ·rename_i hlt
  have hlt : i < xs.length := by have := of_decide_eq_true hlt; omega
  have hV := VS.ds hk xs i
  have hO := hV.ok hk
  have hS : dsN k xs (i + 1) = drS (dsN k xs i) (xs.getD i default) := rfl
  have e1 : IntKind.i64.wrap ((i : Int) + 1) = ((i + 1 : Nat) : Int) := by
   have := hxl
   rw [wi (by omega) (by omega)]; omega
  obtain ⟨sk, be, n, m, hx, hm, hn⟩ : ∃ sk be n m, xs.getD i (D.val (Value.bool false)) = .st [bl sk, bl be, i64 n, num4 m] ∧ isN m ∧ i64ok n := by
   have hmem : xs.getD i (D.val (Value.bool false)) ∈ xs := by
    rw [List.getD_eq_getElem?_getD, List.getElem?_eq_getElem hlt]
    exact List.getElem_mem hlt
   obtain ⟨ds, e, h⟩ := hxs _ hmem
   exact el_of e h
  have hx' : xs.getD i default = .st [bl sk, bl be, i64 n, num4 m] := hx
  generalize dsN k xs i = s at *
  have hps : pS s = (s.p : Int) := rfl
  have hlp := hV.lt
  rw [hx'] at hS
  simp only [hx, e1, Int.toNat_natCast, hS, hps, fldOf, List.getD_cons_zero, List.getD_cons_succ, boolOf, numOf, arrOf]
  clear hx hx'
  refine ⟨⟨by omega, by omega, trivial⟩, ?_⟩
  cases be
  ·have hfe : (match decide (n < 0) with
     | true => 1 = fitE n
     | false => match decide (n > 4096) with
      | true => 2 = fitE n
      | false => 0 = fitE n) := by
    unfold fitE
    by_cases h1 : n < 0
    ·rw [decide_eq_true h1, if_pos h1]
    ·rw [decide_eq_false h1, if_neg h1]
     by_cases h2 : n > 4096
     ·rw [decide_eq_true h2, if_pos h2]
     ·rw [decide_eq_false h2, if_neg h2]
   refine ⟨hfe, ?_⟩
   rintro _ rfl
   have hb : ((fitE n != fitE n) = false) := bne_self_eq_false _
   by_cases f0 : fitE n = 0
   ·have hn2 := fit_of f0
    obtain ⟨N, rfl⟩ := Int.eq_ofNat_of_zero_le hn2.1
    have hN : N ≤ 4096 := by omega
    have hp3 : IntKind.u64.wrap ((s.p : Int) + IntKind.u64.wrap (N : Int)) = (((s.p + N) % 18446744073709551616 : Nat) : Int) := by
     rw [wN64, Nat.mod_eq_of_lt (show N < 18446744073709551616 by omega), ← Int.natCast_add, wN64]
    cases sk
    ·have hd : drS s (.st [bl false, bl false, i64 (N : Int), num4 m]) = itS s N := by
      show bysS s (N : Int) = _
      unfold bysS
      rw [if_pos f0, Int.toNat_natCast]
     have hd1 : bysS s (N : Int) = itS s N := hd
     have hd2 : bysL s (N : Int) = drwL k s.p N := by
      unfold bysL
      rw [if_pos f0, Int.toNat_natCast, hV.drw hk]
     have hp2 : (itS s N).p = (s.p + N) % 18446744073709551616 := (hV.it hk N).2
     have hdb := drw_bytes k s.p N
     simp (decide := true) only [hd, hd1, hd2, hb, f0, hp3, hp2, bne_self_eq_false, Int.toNat_natCast, eqB_refl, Bool.not_false, Bool.not_true]
     simp only [pS, hp2]
     refine ⟨⟨s, _, rfl, hO⟩, ?_⟩
     rw [show ((0 : Int) == 0) = true from rfl]
     exact ⟨hdb, hk.1, ⟨k, s.p, N, rfl, hk, hlp, by omega⟩, ⟨_, rfl⟩, ⟨⟨trivial, trivial⟩, trivial⟩, by omega, by omega⟩
    ·have hd : drS s (.st [bl true, bl false, i64 (N : Int), num4 m]) = skS s (N : Int) := rfl
     have hp2 : (skS s (N : Int)).p = (s.p + N) % 18446744073709551616 := by
      unfold skS
      rw [if_pos f0, Int.toNat_natCast]
     simp (decide := true) only [hd, hb, f0, hp3, hp2, bne_self_eq_false, Int.toNat_natCast, eqB_refl, Bool.not_false, Bool.not_true]
     simp only [pS, hp2]
     refine ⟨⟨s, _, rfl, hO⟩, ?_⟩
     rw [show ((0 : Int) == 0) = true from rfl]
     exact ⟨⟨_, rfl⟩, ⟨⟨trivial, trivial⟩, trivial⟩, by omega, by omega⟩
   ·have hz : (fitE n != 0) = true := by simpa using f0
    have hz2 : (fitE n == 0) = false := by simpa using f0
    cases sk
    ·have hd : drS s (.st [bl false, bl false, i64 n, num4 m]) = s := by
      show bysS s n = s
      unfold bysS
      rw [if_neg f0]
     have hd1 : bysS s n = s := hd
     have hd2 : bysL s n = [] := by unfold bysL; rw [if_neg f0]
     simp (decide := true) only [hd, hd1, hd2, hb, hz, hz2, hps, bne_self_eq_false, List.length_nil]
     refine ⟨⟨s, _, rfl, hO⟩, ?_⟩
     rw [show decide False = false from rfl]
     exact ⟨⟨_, rfl⟩, trivial, by omega, by omega⟩
    ·have hd : drS s (.st [bl true, bl false, i64 n, num4 m]) = s := by
      show skS s n = s
      unfold skS
      rw [if_neg f0]
     have hd1 : skS s n = s := hd
     simp (decide := true) only [hd, hd1, hb, hz, hz2, hps, bne_self_eq_false, List.length_nil]
     exact ⟨⟨s, _, rfl, hO⟩, ⟨_, rfl⟩, trivial, by omega, by omega⟩
  ·have hd : drS s (.st [bl sk, bl true, i64 n, num4 m]) = bwS s (vB 18446744073709551616 m) := rfl
   have hG := hV.gT hk (vB 18446744073709551616 m)
   have hp2 : (bwS s (vB 18446744073709551616 m)).p = (s.p + bwN (gR k s.p (vB 18446744073709551616 m)) (vB 18446744073709551616 m)) % 18446744073709551616 := by
    unfold bwS
    rw [hG, (hV.it hk _).2]
   have hp3 : ∀ N : Nat, N ≤ 3200 → IntKind.u64.wrap ((s.p : Int) + IntKind.u64.wrap (N : Int)) = (((s.p + N) % 18446744073709551616 : Nat) : Int) := fun N hN => by
    rw [wN64, Nat.mod_eq_of_lt (show N < 18446744073709551616 by omega), ← Int.natCast_add, wN64]
   have hp4 : bwN (gR k s.p (vB 18446744073709551616 m)) (vB 18446744073709551616 m) ≤ 3200 := bwN_le _ _
   have hp5 := hp3 _ hp4
   simp only [hd, hG, eqB_refl, Bool.not_true, bne_self_eq_false, hp5, hp2]
   refine ⟨⟨s, m, rfl, hO, hm⟩, hk.1, ⟨k, s.p, m, rfl, hk, hlp, hm⟩, ⟨_, rfl⟩, ?_⟩
   simp only [pS, hp2]
   exact ⟨by and_intros <;> first | trivial | rfl, by omega, by omega⟩
 ·simp (decide := true) only [eq_self, true_and, and_true, ne_eq, not_false_eq_true]
end Go.Proofs.YtkicjckhkefnpaaDoor
