/- package mac and its reference. -/
import Derived.Test.YtkicjckhkefnpaaDoorZb11
namespace Go.Proofs.YtkicjckhkefnpaaDoor
open Go Go.Vg
structure MS where
 i : HS
 o : HS
abbrev stM (s : MS) : D := .st [stD s.i, stD s.o]
def ofM (d : D) : MS := ⟨ofS (fldOf d 0), ofS (fldOf d 1)⟩
def keyL (k : List Int) : List Int := if 64 < k.length then digL k else k
def padK (k : List Int) : List Int := keyL k ++ List.replicate (64 - (keyL k).length) 0
def xK (k : List Int) (c : Nat) : List Int := (padK k).map fun z => ((z.toNat ^^^ c : Nat) : Int)
def mNew (k : List Int) : MS := ⟨wrS st0 (xK k 54), wrS st0 (xK k 92)⟩
def mWr (s : MS) (p : List Int) : MS := ⟨wrS s.i p, s.o⟩
def mSum (s : MS) : List Int := sumL (wrS s.o (sumL s.i))
def mkL (k p : List Int) : List Int := digL (xK k 92 ++ digL (xK k 54 ++ p))
def okM (s : MS) : Prop := okS s.i ∧ okS s.o
def isB (p : List Int) : Prop := isBytes p ∧ p.length ≤ 1000000000000000
def sp82 : Go.Vg.Spec := ⟨fun ds => ∃ k, ds = [.ints .u8 k] ∧ isB k, fun ds => stM (mNew (intsOf (ds.headD default))), true, [26]⟩
def sp83 : Go.Vg.Spec := ⟨fun ds => ∃ s p, ds = [stM s, .ints .u8 p] ∧ okM s ∧ isB p, fun ds => stM (mWr (ofM (ds.headD default)) (intsOf (ds.getD 1 default))), true, [125, 26]⟩
def sp84 : Go.Vg.Spec := ⟨fun ds => ∃ s, ds = [stM s] ∧ okM s, fun ds => d32 (mSum (ofM (ds.headD default))), true, [125]⟩
def sp79 : Go.Vg.Spec := ⟨fun ds => ∃ k p, ds = [.str k, .str p] ∧ isB k ∧ isBytes p ∧ p.length ≤ 500000000000000, fun ds => d32 (mkL (strOf (ds.headD default)) (strOf (ds.getD 1 default))), true, [9, 9]⟩
noncomputable def sp80 : Go.Vg.Spec := ⟨fun ds => ∃ a b, ds = [.ints .u8 a, .ints .u8 b] ∧ isB a ∧ isB b, fun ds => .val (.bool (eqB (intsOf (ds.headD default)) (intsOf (ds.getD 1 default)))), true, [26, 26]⟩
def c82 : Ctx := ⟨tab, lkS [(75, sp75), (76, sp76), (70, sp70)], [], []⟩
def c83 : Ctx := ⟨tab, lkS [(76, sp76)], [], []⟩
def c84 : Ctx := ⟨tab, lkS [(76, sp76), (77, sp77)], [], []⟩
def c79 : Ctx := ⟨tab, lkS [(71, sp71)], [], []⟩
def mixK (k : List Int) (c i : Nat) : List Int := (xK k c).take i ++ (padK k).drop i
def inv82 (k : List Int) : Nat → Option Inv
 | 8 => some ⟨Nat, fun i => [(17, .d (i64 i))], fun i => [(4, .fix (.arr .u8 64 (mixK k 54 i))), (5, .fix (.arr .u8 64 (mixK k 92 i)))], fun s => (slotN s 17).toNat, fun _ i => i ≤ 64, fun i => 64 - i⟩
 | _ => none
def inv79 (k : List Int) : Nat → Option Inv
 | 6 => some ⟨Nat, fun i => [(18, .d (i64 i)), (6, .d (.str ((xK k 54).take i))), (7, .d (.str ((xK k 92).take i)))], fun _ => [], fun s => (slotN s 18).toNat, fun _ i => i ≤ 64, fun i => 64 - i⟩
 | _ => none
def sameI (a b : List Int) (i d : Nat) : Prop := i ≤ Nat.min a.length b.length ∧ d < 9223372036854775808 ∧ (d = 0 ↔ a.length = b.length ∧ a.take i = b.take i)
def inv80 (a b : List Int) : Nat → Option Inv
 | 3 => some ⟨Nat × Nat, fun x => [(17, .d (i64 (x.1 : Int))), (5, .d (i64 (x.2 : Int)))], fun _ => [], fun s => ((slotN s 17).toNat, (slotN s 5).toNat), fun _ x => sameI a b x.1 x.2, fun x => a.length - x.1⟩
 | _ => none
set_option maxRecDepth 100000 in
theorem vc82  (k : List Int) (F : D)  :
    (owed c82 (inv82 k) Tryd.f82 [.ints .u8 k] F) = (
 (True ∧ 146 ≠ 0) ∧ True ∧ True ∧ True ∧ match decide ((↑k.length : Int) > (64 : Int)) with
 | true => True ∧ (∃ (p : List Int), [D.ints .u8 k] = [D.ints .u8 p] ∧ isBytes p ∧ p.length ≤ 1000000000000000) ∧ (True ∧ 32 ≠ 0) ∧ (Sk.arr 32 = Sk.arr 32 ∧ 32 ≠ 0 ∧ 32 = 32 ∧ false = false) ∧ ((0 : Int) ≤ 0 ∧ (0 : Int) ≤ (↑(32 : Nat) : Int) ∧ (↑(32 : Nat) : Int) ≤ (↑(32 : Nat) : Int) ∧ 32 = 32 ∧ 1 = 1) ∧ True ∧ (True ∧ 64 ≠ 0) ∧ (True ∧ 64 ≠ 0) ∧ ((0 : Int) ≤ 0 ∧ (0 : Int) ≤ (↑(64 : Nat) : Int) ∧ (↑(64 : Nat) : Int) ≤ (↑(64 : Nat) : Int) ∧ 64 = 64 ∧ 1 = 1) ∧ True ∧ (IntKind.u8 = IntKind.u8 ∧ 1 = 1) ∧ (64 ≠ 0 ∧ 64 = 64 ∧ true = true) ∧ (Sk.arr 64 = Sk.arr 64 ∧ 64 ≠ 0 ∧ 64 = 64 ∧ false = false) ∧ True ∧ (((AV.d (D.val (.int .i64 0)) = AV.d (D.val (.int .i64 (↑(Int.toNat (0 : Int)) : Int))) ∧ True) ∧ (sm (some (Blk.fix (D.st [D.st [D.arr .u32 8 [(0 : Int), (0 : Int), (0 : Int), (0 : Int), (0 : Int), (0 : Int), (0 : Int), (0 : Int)], D.val (.int .u64 0), D.arr .u8 64 (List.replicate 64 (0 : Int))], D.st [D.arr .u32 8 [(0 : Int), (0 : Int), (0 : Int), (0 : Int), (0 : Int), (0 : Int), (0 : Int), (0 : Int)], D.val (.int .u64 0), D.arr .u8 64 (List.replicate 64 (0 : Int))]]))) ∧ sm (some (Blk.fix (D.arr .u8 32 (digL k)))) ∧ some (Blk.fix (D.arr .u8 64 (List.take ((List.take ((↑(32 : Nat) : Int).toNat - 0) (List.drop 0 (digL k))).length.min ((↑(64 : Nat) : Int).toNat - 0)) (List.take ((↑(32 : Nat) : Int).toNat - 0) (List.drop 0 (digL k))) ++ List.drop (0 + (List.take ((↑(32 : Nat) : Int).toNat - 0) (List.drop 0 (digL k))).length.min ((↑(64 : Nat) : Int).toNat - 0)) (List.replicate 64 (0 : Int))))) = some (Blk.fix (D.arr .u8 64 (mixK k 54 (Int.toNat (0 : Int))))) ∧ some (Blk.fix (D.arr .u8 64 (List.take ((List.take ((↑(32 : Nat) : Int).toNat - 0) (List.drop 0 (digL k))).length.min ((↑(64 : Nat) : Int).toNat - 0)) (List.take ((↑(32 : Nat) : Int).toNat - 0) (List.drop 0 (digL k))) ++ List.drop (0 + (List.take ((↑(32 : Nat) : Int).toNat - 0) (List.drop 0 (digL k))).length.min ((↑(64 : Nat) : Int).toNat - 0)) (List.replicate 64 (0 : Int))))) = some (Blk.fix (D.arr .u8 64 (mixK k 92 (Int.toNat (0 : Int))))) ∧ True) ∧ true = true) ∧ Int.toNat (0 : Int) ≤ 64) ∧ ∀ (x : Nat), x ≤ 64 → true = true ∧ True ∧ match decide ((↑x : Int) < (64 : Int)) with
  | true => True ∧ True ∧ True ∧ ((0 : Int) ≤ (↑x : Int) ∧ (↑x : Int) < (↑(64 : Nat) : Int) ∧ 64 = 64 ∧ 1 = 1) ∧ (1 ≠ 0 ∧ 1 = 1 ∧ false = false) ∧ True ∧ ((0 : Int) ≤ (↑x : Int) ∧ (↑x : Int) < (↑(64 : Nat) : Int) ∧ 64 = 64 ∧ 1 = 1) ∧ (((↑x : Int).toNat < 64 ∧ ([] : List Nat) = [] ∧ true = true) ∧ 1 ≠ 0 ∧ 1 = 1 ∧ false = false) ∧ True ∧ ((0 : Int) ≤ (↑x : Int) ∧ (↑x : Int) < (↑(64 : Nat) : Int) ∧ 64 = 64 ∧ 1 = 1) ∧ (1 ≠ 0 ∧ 1 = 1 ∧ false = false) ∧ True ∧ ((0 : Int) ≤ (↑x : Int) ∧ (↑x : Int) < (↑(64 : Nat) : Int) ∧ 64 = 64 ∧ 1 = 1) ∧ (((↑x : Int).toNat < 64 ∧ ([] : List Nat) = [] ∧ true = true) ∧ 1 ≠ 0 ∧ 1 = 1 ∧ false = false) ∧ True ∧ True ∧ ((AV.d (D.val (.int .i64 (IntKind.i64.wrap ((↑x : Int) + (1 : Int))))) = AV.d (D.val (.int .i64 (↑(IntKind.i64.wrap ((↑x : Int) + (1 : Int))).toNat : Int))) ∧ True) ∧ (sm (some (Blk.fix (D.st [D.st [D.arr .u32 8 [(0 : Int), (0 : Int), (0 : Int), (0 : Int), (0 : Int), (0 : Int), (0 : Int), (0 : Int)], D.val (.int .u64 0), D.arr .u8 64 (List.replicate 64 (0 : Int))], D.st [D.arr .u32 8 [(0 : Int), (0 : Int), (0 : Int), (0 : Int), (0 : Int), (0 : Int), (0 : Int), (0 : Int)], D.val (.int .u64 0), D.arr .u8 64 (List.replicate 64 (0 : Int))]]))) ∧ sm (some (Blk.fix (D.arr .u8 32 (digL k)))) ∧ some (Blk.fix (D.arr .u8 64 ((mixK k 54 x).set (↑x : Int).toNat (ixor IntKind.u8 ((mixK k 54 x).getD (↑x : Int).toNat (0 : Int)) (54 : Int))))) = some (Blk.fix (D.arr .u8 64 (mixK k 54 (IntKind.i64.wrap ((↑x : Int) + (1 : Int))).toNat))) ∧ some (Blk.fix (D.arr .u8 64 ((mixK k 92 x).set (↑x : Int).toNat (ixor IntKind.u8 ((mixK k 92 x).getD (↑x : Int).toNat (0 : Int)) (92 : Int))))) = some (Blk.fix (D.arr .u8 64 (mixK k 92 (IntKind.i64.wrap ((↑x : Int) + (1 : Int))).toNat))) ∧ True) ∧ true = true) ∧ (IntKind.i64.wrap ((↑x : Int) + (1 : Int))).toNat ≤ 64 ∧ 64 - (IntKind.i64.wrap ((↑x : Int) + (1 : Int))).toNat < 64 - x
  | false => 0 = 0 ∧ ((0 : Int) ≤ 0 ∧ (0 : Int) ≤ (↑(64 : Nat) : Int) ∧ (↑(64 : Nat) : Int) ≤ (↑(64 : Nat) : Int) ∧ 64 = 64 ∧ 1 = 1) ∧ (∃ (s : HS), ∃ (p : List Int), [D.st [D.arr .u32 8 st0.h.l, D.val (.int .u64 (↑st0.n : Int)), D.arr .u8 64 st0.l], D.ints .u8 (List.take ((↑(64 : Nat) : Int).toNat - 0) (List.drop 0 (mixK k 54 x)))] = [D.st [D.arr .u32 8 s.h.l, D.val (.int .u64 (↑s.n : Int)), D.arr .u8 64 s.l], D.ints .u8 p] ∧ okS s ∧ isBytes p ∧ p.length ≤ 1000000000000000) ∧ 0 = 0 ∧ ((0 : Int) ≤ 0 ∧ (0 : Int) ≤ (↑(64 : Nat) : Int) ∧ (↑(64 : Nat) : Int) ≤ (↑(64 : Nat) : Int) ∧ 64 = 64 ∧ 1 = 1) ∧ (∃ (s : HS), ∃ (p : List Int), [D.st [D.arr .u32 8 st0.h.l, D.val (.int .u64 (↑st0.n : Int)), D.arr .u8 64 st0.l], D.ints .u8 (List.take ((↑(64 : Nat) : Int).toNat - 0) (List.drop 0 (mixK k 92 x)))] = [D.st [D.arr .u32 8 s.h.l, D.val (.int .u64 (↑s.n : Int)), D.arr .u8 64 s.l], D.ints .u8 p] ∧ okS s ∧ isBytes p ∧ p.length ≤ 1000000000000000) ∧ (false = false ∧ (0 < 2 ∧ Sk.st [Sk.arr 8, Sk.one, Sk.arr 64] = Sk.st [Sk.arr 8, Sk.one, Sk.arr 64]) ∧ false = false ∧ (1 < 2 ∧ Sk.st [Sk.arr 8, Sk.one, Sk.arr 64] = Sk.st [Sk.arr 8, Sk.one, Sk.arr 64]) ∧ True) ∧ (Sk.st [Sk.st [Sk.arr 8, Sk.one, Sk.arr 64], Sk.st [Sk.arr 8, Sk.one, Sk.arr 64]] = Sk.st [Sk.st [Sk.arr 8, Sk.one, Sk.arr 64], Sk.st [Sk.arr 8, Sk.one, Sk.arr 64]] ∧ 146 ≠ 0 ∧ 146 = 146 ∧ false = false) ∧ ((146 ≠ 0 ∧ 146 = 146 ∧ true = true) ∧ True) ∧ D.st [D.st [D.arr .u32 8 (wrS (ofS (D.st [D.arr .u32 8 st0.h.l, D.val (.int .u64 (↑st0.n : Int)), D.arr .u8 64 st0.l])) (List.take ((↑(64 : Nat) : Int).toNat - 0) (List.drop 0 (mixK k 54 x)))).h.l, D.val (.int .u64 (↑(wrS (ofS (D.st [D.arr .u32 8 st0.h.l, D.val (.int .u64 (↑st0.n : Int)), D.arr .u8 64 st0.l])) (List.take ((↑(64 : Nat) : Int).toNat - 0) (List.drop 0 (mixK k 54 x)))).n : Int)), D.arr .u8 64 (wrS (ofS (D.st [D.arr .u32 8 st0.h.l, D.val (.int .u64 (↑st0.n : Int)), D.arr .u8 64 st0.l])) (List.take ((↑(64 : Nat) : Int).toNat - 0) (List.drop 0 (mixK k 54 x)))).l], D.st [D.arr .u32 8 (wrS (ofS (D.st [D.arr .u32 8 st0.h.l, D.val (.int .u64 (↑st0.n : Int)), D.arr .u8 64 st0.l])) (List.take ((↑(64 : Nat) : Int).toNat - 0) (List.drop 0 (mixK k 92 x)))).h.l, D.val (.int .u64 (↑(wrS (ofS (D.st [D.arr .u32 8 st0.h.l, D.val (.int .u64 (↑st0.n : Int)), D.arr .u8 64 st0.l])) (List.take ((↑(64 : Nat) : Int).toNat - 0) (List.drop 0 (mixK k 92 x)))).n : Int)), D.arr .u8 64 (wrS (ofS (D.st [D.arr .u32 8 st0.h.l, D.val (.int .u64 (↑st0.n : Int)), D.arr .u8 64 st0.l])) (List.take ((↑(64 : Nat) : Int).toNat - 0) (List.drop 0 (mixK k 92 x)))).l]] = F
 | false => (True ∧ 64 ≠ 0) ∧ (True ∧ 64 ≠ 0) ∧ ((0 : Int) ≤ 0 ∧ (0 : Int) ≤ (↑(64 : Nat) : Int) ∧ (↑(64 : Nat) : Int) ≤ (↑(64 : Nat) : Int) ∧ 64 = 64 ∧ 1 = 1) ∧ True ∧ (IntKind.u8 = IntKind.u8 ∧ 1 = 1) ∧ (64 ≠ 0 ∧ 64 = 64 ∧ true = true) ∧ (Sk.arr 64 = Sk.arr 64 ∧ 64 ≠ 0 ∧ 64 = 64 ∧ false = false) ∧ True ∧ (((AV.d (D.val (.int .i64 0)) = AV.d (D.val (.int .i64 (↑(Int.toNat (0 : Int)) : Int))) ∧ True) ∧ (sm (some (Blk.fix (D.st [D.st [D.arr .u32 8 [(0 : Int), (0 : Int), (0 : Int), (0 : Int), (0 : Int), (0 : Int), (0 : Int), (0 : Int)], D.val (.int .u64 0), D.arr .u8 64 (List.replicate 64 (0 : Int))], D.st [D.arr .u32 8 [(0 : Int), (0 : Int), (0 : Int), (0 : Int), (0 : Int), (0 : Int), (0 : Int), (0 : Int)], D.val (.int .u64 0), D.arr .u8 64 (List.replicate 64 (0 : Int))]]))) ∧ some (Blk.fix (D.arr .u8 64 (List.take (k.length.min ((↑(64 : Nat) : Int).toNat - 0)) k ++ List.drop (0 + k.length.min ((↑(64 : Nat) : Int).toNat - 0)) (List.replicate 64 (0 : Int))))) = some (Blk.fix (D.arr .u8 64 (mixK k 54 (Int.toNat (0 : Int))))) ∧ some (Blk.fix (D.arr .u8 64 (List.take (k.length.min ((↑(64 : Nat) : Int).toNat - 0)) k ++ List.drop (0 + k.length.min ((↑(64 : Nat) : Int).toNat - 0)) (List.replicate 64 (0 : Int))))) = some (Blk.fix (D.arr .u8 64 (mixK k 92 (Int.toNat (0 : Int))))) ∧ True) ∧ true = true) ∧ Int.toNat (0 : Int) ≤ 64) ∧ ∀ (x : Nat), x ≤ 64 → true = true ∧ True ∧ match decide ((↑x : Int) < (64 : Int)) with
  | true => True ∧ True ∧ True ∧ ((0 : Int) ≤ (↑x : Int) ∧ (↑x : Int) < (↑(64 : Nat) : Int) ∧ 64 = 64 ∧ 1 = 1) ∧ (1 ≠ 0 ∧ 1 = 1 ∧ false = false) ∧ True ∧ ((0 : Int) ≤ (↑x : Int) ∧ (↑x : Int) < (↑(64 : Nat) : Int) ∧ 64 = 64 ∧ 1 = 1) ∧ (((↑x : Int).toNat < 64 ∧ ([] : List Nat) = [] ∧ true = true) ∧ 1 ≠ 0 ∧ 1 = 1 ∧ false = false) ∧ True ∧ ((0 : Int) ≤ (↑x : Int) ∧ (↑x : Int) < (↑(64 : Nat) : Int) ∧ 64 = 64 ∧ 1 = 1) ∧ (1 ≠ 0 ∧ 1 = 1 ∧ false = false) ∧ True ∧ ((0 : Int) ≤ (↑x : Int) ∧ (↑x : Int) < (↑(64 : Nat) : Int) ∧ 64 = 64 ∧ 1 = 1) ∧ (((↑x : Int).toNat < 64 ∧ ([] : List Nat) = [] ∧ true = true) ∧ 1 ≠ 0 ∧ 1 = 1 ∧ false = false) ∧ True ∧ True ∧ ((AV.d (D.val (.int .i64 (IntKind.i64.wrap ((↑x : Int) + (1 : Int))))) = AV.d (D.val (.int .i64 (↑(IntKind.i64.wrap ((↑x : Int) + (1 : Int))).toNat : Int))) ∧ True) ∧ (sm (some (Blk.fix (D.st [D.st [D.arr .u32 8 [(0 : Int), (0 : Int), (0 : Int), (0 : Int), (0 : Int), (0 : Int), (0 : Int), (0 : Int)], D.val (.int .u64 0), D.arr .u8 64 (List.replicate 64 (0 : Int))], D.st [D.arr .u32 8 [(0 : Int), (0 : Int), (0 : Int), (0 : Int), (0 : Int), (0 : Int), (0 : Int), (0 : Int)], D.val (.int .u64 0), D.arr .u8 64 (List.replicate 64 (0 : Int))]]))) ∧ some (Blk.fix (D.arr .u8 64 ((mixK k 54 x).set (↑x : Int).toNat (ixor IntKind.u8 ((mixK k 54 x).getD (↑x : Int).toNat (0 : Int)) (54 : Int))))) = some (Blk.fix (D.arr .u8 64 (mixK k 54 (IntKind.i64.wrap ((↑x : Int) + (1 : Int))).toNat))) ∧ some (Blk.fix (D.arr .u8 64 ((mixK k 92 x).set (↑x : Int).toNat (ixor IntKind.u8 ((mixK k 92 x).getD (↑x : Int).toNat (0 : Int)) (92 : Int))))) = some (Blk.fix (D.arr .u8 64 (mixK k 92 (IntKind.i64.wrap ((↑x : Int) + (1 : Int))).toNat))) ∧ True) ∧ true = true) ∧ (IntKind.i64.wrap ((↑x : Int) + (1 : Int))).toNat ≤ 64 ∧ 64 - (IntKind.i64.wrap ((↑x : Int) + (1 : Int))).toNat < 64 - x
  | false => 0 = 0 ∧ ((0 : Int) ≤ 0 ∧ (0 : Int) ≤ (↑(64 : Nat) : Int) ∧ (↑(64 : Nat) : Int) ≤ (↑(64 : Nat) : Int) ∧ 64 = 64 ∧ 1 = 1) ∧ (∃ (s : HS), ∃ (p : List Int), [D.st [D.arr .u32 8 st0.h.l, D.val (.int .u64 (↑st0.n : Int)), D.arr .u8 64 st0.l], D.ints .u8 (List.take ((↑(64 : Nat) : Int).toNat - 0) (List.drop 0 (mixK k 54 x)))] = [D.st [D.arr .u32 8 s.h.l, D.val (.int .u64 (↑s.n : Int)), D.arr .u8 64 s.l], D.ints .u8 p] ∧ okS s ∧ isBytes p ∧ p.length ≤ 1000000000000000) ∧ 0 = 0 ∧ ((0 : Int) ≤ 0 ∧ (0 : Int) ≤ (↑(64 : Nat) : Int) ∧ (↑(64 : Nat) : Int) ≤ (↑(64 : Nat) : Int) ∧ 64 = 64 ∧ 1 = 1) ∧ (∃ (s : HS), ∃ (p : List Int), [D.st [D.arr .u32 8 st0.h.l, D.val (.int .u64 (↑st0.n : Int)), D.arr .u8 64 st0.l], D.ints .u8 (List.take ((↑(64 : Nat) : Int).toNat - 0) (List.drop 0 (mixK k 92 x)))] = [D.st [D.arr .u32 8 s.h.l, D.val (.int .u64 (↑s.n : Int)), D.arr .u8 64 s.l], D.ints .u8 p] ∧ okS s ∧ isBytes p ∧ p.length ≤ 1000000000000000) ∧ (false = false ∧ (0 < 2 ∧ Sk.st [Sk.arr 8, Sk.one, Sk.arr 64] = Sk.st [Sk.arr 8, Sk.one, Sk.arr 64]) ∧ false = false ∧ (1 < 2 ∧ Sk.st [Sk.arr 8, Sk.one, Sk.arr 64] = Sk.st [Sk.arr 8, Sk.one, Sk.arr 64]) ∧ True) ∧ (Sk.st [Sk.st [Sk.arr 8, Sk.one, Sk.arr 64], Sk.st [Sk.arr 8, Sk.one, Sk.arr 64]] = Sk.st [Sk.st [Sk.arr 8, Sk.one, Sk.arr 64], Sk.st [Sk.arr 8, Sk.one, Sk.arr 64]] ∧ 146 ≠ 0 ∧ 146 = 146 ∧ false = false) ∧ ((146 ≠ 0 ∧ 146 = 146 ∧ true = true) ∧ True) ∧ D.st [D.st [D.arr .u32 8 (wrS (ofS (D.st [D.arr .u32 8 st0.h.l, D.val (.int .u64 (↑st0.n : Int)), D.arr .u8 64 st0.l])) (List.take ((↑(64 : Nat) : Int).toNat - 0) (List.drop 0 (mixK k 54 x)))).h.l, D.val (.int .u64 (↑(wrS (ofS (D.st [D.arr .u32 8 st0.h.l, D.val (.int .u64 (↑st0.n : Int)), D.arr .u8 64 st0.l])) (List.take ((↑(64 : Nat) : Int).toNat - 0) (List.drop 0 (mixK k 54 x)))).n : Int)), D.arr .u8 64 (wrS (ofS (D.st [D.arr .u32 8 st0.h.l, D.val (.int .u64 (↑st0.n : Int)), D.arr .u8 64 st0.l])) (List.take ((↑(64 : Nat) : Int).toNat - 0) (List.drop 0 (mixK k 54 x)))).l], D.st [D.arr .u32 8 (wrS (ofS (D.st [D.arr .u32 8 st0.h.l, D.val (.int .u64 (↑st0.n : Int)), D.arr .u8 64 st0.l])) (List.take ((↑(64 : Nat) : Int).toNat - 0) (List.drop 0 (mixK k 92 x)))).h.l, D.val (.int .u64 (↑(wrS (ofS (D.st [D.arr .u32 8 st0.h.l, D.val (.int .u64 (↑st0.n : Int)), D.arr .u8 64 st0.l])) (List.take ((↑(64 : Nat) : Int).toNat - 0) (List.drop 0 (mixK k 92 x)))).n : Int)), D.arr .u8 64 (wrS (ofS (D.st [D.arr .u32 8 st0.h.l, D.val (.int .u64 (↑st0.n : Int)), D.arr .u8 64 st0.l])) (List.take ((↑(64 : Nat) : Int).toNat - 0) (List.drop 0 (mixK k 92 x)))).l]] = F) := by kernel_rfl
set_option maxRecDepth 100000 in
theorem vc83  (s : MS) (p : List Int) (F : D)  :
    (owed c83 (fun _ => none) Tryd.f83 [stM s, .ints .u8 p] F) = (
 (True ∧ false = false) ∧ (True ∧ 146 ≠ 0) ∧ (Sk.st [Sk.st [Sk.arr 8, Sk.one, Sk.arr 64], Sk.st [Sk.arr 8, Sk.one, Sk.arr 64]] = Sk.st [Sk.st [Sk.arr 8, Sk.one, Sk.arr 64], Sk.st [Sk.arr 8, Sk.one, Sk.arr 64]] ∧ 0 < 2) ∧ (73 ≠ 0 ∧ 73 = 73 ∧ true = true) ∧ True ∧ (∃ (s_1 : HS), ∃ (p_1 : List Int), [D.st [D.arr .u32 8 s.i.h.l, D.val (.int .u64 (↑s.i.n : Int)), D.arr .u8 64 s.i.l], D.ints .u8 p] = [D.st [D.arr .u32 8 s_1.h.l, D.val (.int .u64 (↑s_1.n : Int)), D.arr .u8 64 s_1.l], D.ints .u8 p_1] ∧ okS s_1 ∧ isBytes p_1 ∧ p_1.length ≤ 1000000000000000) ∧ (Sk.st [Sk.st [Sk.arr 8, Sk.one, Sk.arr 64], Sk.st [Sk.arr 8, Sk.one, Sk.arr 64]] = Sk.st [Sk.st [Sk.arr 8, Sk.one, Sk.arr 64], Sk.st [Sk.arr 8, Sk.one, Sk.arr 64]] ∧ 0 < 2) ∧ ((0 < 2 ∧ Sk.st [Sk.arr 8, Sk.one, Sk.arr 64] = Sk.st [Sk.arr 8, Sk.one, Sk.arr 64]) ∧ 73 ≠ 0 ∧ 73 = 73 ∧ false = false) ∧ (146 ≠ 0 ∧ 146 = 146 ∧ true = true) ∧ (Sk.st [Sk.st [Sk.arr 8, Sk.one, Sk.arr 64], Sk.st [Sk.arr 8, Sk.one, Sk.arr 64]] = Sk.st [Sk.st [Sk.arr 8, Sk.one, Sk.arr 64], Sk.st [Sk.arr 8, Sk.one, Sk.arr 64]] ∧ 146 ≠ 0 ∧ 146 = 146 ∧ false = false) ∧ ((146 ≠ 0 ∧ 146 = 146 ∧ true = true) ∧ True) ∧ D.st [D.st [D.arr .u32 8 (wrS (ofS (D.st [D.arr .u32 8 s.i.h.l, D.val (.int .u64 (↑s.i.n : Int)), D.arr .u8 64 s.i.l])) p).h.l, D.val (.int .u64 (↑(wrS (ofS (D.st [D.arr .u32 8 s.i.h.l, D.val (.int .u64 (↑s.i.n : Int)), D.arr .u8 64 s.i.l])) p).n : Int)), D.arr .u8 64 (wrS (ofS (D.st [D.arr .u32 8 s.i.h.l, D.val (.int .u64 (↑s.i.n : Int)), D.arr .u8 64 s.i.l])) p).l], D.st [D.arr .u32 8 s.o.h.l, D.val (.int .u64 (↑s.o.n : Int)), D.arr .u8 64 s.o.l]] = F) := by kernel_rfl
set_option maxRecDepth 100000 in
theorem vc84  (s : MS) (F : D)  :
    (owed c84 (fun _ => none) Tryd.f84 [stM s] F) = (
 (True ∧ false = false) ∧ (True ∧ 32 ≠ 0) ∧ (Sk.st [Sk.st [Sk.arr 8, Sk.one, Sk.arr 64], Sk.st [Sk.arr 8, Sk.one, Sk.arr 64]] = Sk.st [Sk.st [Sk.arr 8, Sk.one, Sk.arr 64], Sk.st [Sk.arr 8, Sk.one, Sk.arr 64]] ∧ 0 < 2) ∧ (73 ≠ 0 ∧ 73 = 73 ∧ true = true) ∧ (∃ (s_1 : HS), [D.st [D.arr .u32 8 s.i.h.l, D.val (.int .u64 (↑s.i.n : Int)), D.arr .u8 64 s.i.l]] = [D.st [D.arr .u32 8 s_1.h.l, D.val (.int .u64 (↑s_1.n : Int)), D.arr .u8 64 s_1.l]] ∧ okS s_1) ∧ (True ∧ 32 ≠ 0) ∧ (Sk.arr 32 = Sk.arr 32 ∧ 32 ≠ 0 ∧ 32 = 32 ∧ false = false) ∧ (Sk.st [Sk.st [Sk.arr 8, Sk.one, Sk.arr 64], Sk.st [Sk.arr 8, Sk.one, Sk.arr 64]] = Sk.st [Sk.st [Sk.arr 8, Sk.one, Sk.arr 64], Sk.st [Sk.arr 8, Sk.one, Sk.arr 64]] ∧ 1 < 2) ∧ (73 ≠ 0 ∧ 73 = 73 ∧ true = true) ∧ ((0 : Int) ≤ 0 ∧ (0 : Int) ≤ (↑(32 : Nat) : Int) ∧ (↑(32 : Nat) : Int) ≤ (↑(32 : Nat) : Int) ∧ 32 = 32 ∧ 1 = 1) ∧ (∃ (s_1 : HS), ∃ (p : List Int), [D.st [D.arr .u32 8 s.o.h.l, D.val (.int .u64 (↑s.o.n : Int)), D.arr .u8 64 s.o.l], D.ints .u8 (List.take ((↑(32 : Nat) : Int).toNat - 0) (List.drop 0 (sumL (ofS (D.st [D.arr .u32 8 s.i.h.l, D.val (.int .u64 (↑s.i.n : Int)), D.arr .u8 64 s.i.l])))))] = [D.st [D.arr .u32 8 s_1.h.l, D.val (.int .u64 (↑s_1.n : Int)), D.arr .u8 64 s_1.l], D.ints .u8 p] ∧ okS s_1 ∧ isBytes p ∧ p.length ≤ 1000000000000000) ∧ (∃ (s_1 : HS), [D.st [D.arr .u32 8 (wrS (ofS (D.st [D.arr .u32 8 s.o.h.l, D.val (.int .u64 (↑s.o.n : Int)), D.arr .u8 64 s.o.l])) (List.take ((↑(32 : Nat) : Int).toNat - 0) (List.drop 0 (sumL (ofS (D.st [D.arr .u32 8 s.i.h.l, D.val (.int .u64 (↑s.i.n : Int)), D.arr .u8 64 s.i.l])))))).h.l, D.val (Value.int IntKind.u64 (↑(wrS (ofS (D.st [D.arr .u32 8 s.o.h.l, D.val (.int .u64 (↑s.o.n : Int)), D.arr .u8 64 s.o.l])) (List.take ((↑(32 : Nat) : Int).toNat - 0) (List.drop 0 (sumL (ofS (D.st [D.arr .u32 8 s.i.h.l, D.val (.int .u64 (↑s.i.n : Int)), D.arr .u8 64 s.i.l])))))).n : Int)), D.arr .u8 64 (wrS (ofS (D.st [D.arr .u32 8 s.o.h.l, D.val (.int .u64 (↑s.o.n : Int)), D.arr .u8 64 s.o.l])) (List.take ((↑(32 : Nat) : Int).toNat - 0) (List.drop 0 (sumL (ofS (D.st [D.arr .u32 8 s.i.h.l, D.val (.int .u64 (↑s.i.n : Int)), D.arr .u8 64 s.i.l])))))).l]] = [D.st [D.arr .u32 8 s_1.h.l, D.val (.int .u64 (↑s_1.n : Int)), D.arr .u8 64 s_1.l]] ∧ okS s_1) ∧ (Sk.arr 32 = Sk.arr 32 ∧ 32 ≠ 0 ∧ 32 = 32 ∧ false = false) ∧ ((32 ≠ 0 ∧ 32 = 32 ∧ true = true) ∧ True) ∧ D.arr .u8 32 (sumL (ofS (D.st [D.arr .u32 8 (wrS (ofS (D.st [D.arr .u32 8 s.o.h.l, D.val (.int .u64 (↑s.o.n : Int)), D.arr .u8 64 s.o.l])) (List.take ((↑(32 : Nat) : Int).toNat - 0) (List.drop 0 (sumL (ofS (D.st [D.arr .u32 8 s.i.h.l, D.val (.int .u64 (↑s.i.n : Int)), D.arr .u8 64 s.i.l])))))).h.l, D.val (Value.int IntKind.u64 (↑(wrS (ofS (D.st [D.arr .u32 8 s.o.h.l, D.val (.int .u64 (↑s.o.n : Int)), D.arr .u8 64 s.o.l])) (List.take ((↑(32 : Nat) : Int).toNat - 0) (List.drop 0 (sumL (ofS (D.st [D.arr .u32 8 s.i.h.l, D.val (.int .u64 (↑s.i.n : Int)), D.arr .u8 64 s.i.l])))))).n : Int)), D.arr .u8 64 (wrS (ofS (D.st [D.arr .u32 8 s.o.h.l, D.val (.int .u64 (↑s.o.n : Int)), D.arr .u8 64 s.o.l]))
 (List.take ((↑(32 : Nat) : Int).toNat - 0) (List.drop 0 (sumL (ofS (D.st [D.arr .u32 8 s.i.h.l, D.val (.int .u64 (↑s.i.n : Int)), D.arr .u8 64 s.i.l])))))).l]))) = F) := by kernel_rfl
set_option maxRecDepth 100000 in
theorem vc79  (k p : List Int) (F : D)  :
    (owed c79 (inv79 k) Tryd.f79 [.str k, .str p] F) = (
 (True ∧ 32 ≠ 0) ∧ True ∧ True ∧ True ∧ match decide ((↑k.length : Int) > (64 : Int)) with
 | true => True ∧ (∃ (p : List Int), [D.str k] = [D.str p] ∧ isBytes p ∧ p.length ≤ 1000000000000000) ∧ (True ∧ 32 ≠ 0) ∧ (Sk.arr 32 = Sk.arr 32 ∧ 32 ≠ 0 ∧ 32 = 32 ∧ false = false) ∧ ((0 : Int) ≤ 0 ∧ (0 : Int) ≤ (↑(32 : Nat) : Int) ∧ (↑(32 : Nat) : Int) ≤ (↑(32 : Nat) : Int) ∧ 32 = 32 ∧ 1 = 1) ∧ isBytes (List.take ((↑(32 : Nat) : Int).toNat - 0) (List.drop 0 (digL k))) ∧ True ∧ True ∧ True ∧ True ∧ (((AV.d (D.val (.int .i64 0)) = AV.d (D.val (.int .i64 (↑(Int.toNat (0 : Int)) : Int))) ∧ AV.d (D.str (ints { data := { toList := [] } })) = AV.d (D.str (List.take (Int.toNat (0 : Int)) (xK k 54))) ∧ AV.d (D.str (ints { data := { toList := [] } })) = AV.d (D.str (List.take (Int.toNat (0 : Int)) (xK k 92))) ∧ True) ∧ (sm (some (Blk.fix (D.arr .u8 32 [(0 : Int), (0 : Int), (0 : Int), (0 : Int), (0 : Int), (0 : Int), (0 : Int), (0 : Int), (0 : Int), (0 : Int), (0 : Int), (0 : Int), (0 : Int), (0 : Int), (0 : Int), (0 : Int), (0 : Int), (0 : Int), (0 : Int), (0 : Int), (0 : Int), (0 : Int), (0 : Int), (0 : Int), (0 : Int), (0 : Int), (0 : Int), (0 : Int), (0 : Int), (0 : Int), (0 : Int), (0 : Int)]))) ∧ sm (some (Blk.fix (D.arr .u8 32 (digL k)))) ∧ True) ∧ true = true) ∧ Int.toNat (0 : Int) ≤ 64) ∧ ∀ (x : Nat), x ≤ 64 → true = true ∧ True ∧ match decide ((↑x : Int) < (64 : Int)) with
  | true => True ∧ True ∧ True ∧ True ∧ True ∧ True ∧ True ∧ match decide ((↑x : Int) < (↑(List.take ((↑(32 : Nat) : Int).toNat - 0) (List.drop 0 (digL k))).length : Int)) with
   | true => True ∧ True ∧ ((0 : Int) ≤ (↑x : Int) ∧ (↑x : Int) < (↑(List.take ((↑(32 : Nat) : Int).toNat - 0) (List.drop 0 (digL k))).length : Int)) ∧ True ∧ True ∧ True ∧ True ∧ (1 = 1 ∧ 1 ≤ 4096) ∧ isBytes [ixor IntKind.u8 ((List.take ((↑(32 : Nat) : Int).toNat - 0) (List.drop 0 (digL k))).getD (↑x : Int).toNat (0 : Int)) (54 : Int)] ∧ (↑((List.take x (xK k 54)).length + 1) : Int) ≤ (9223372036854775807 : Int) ∧ True ∧ True ∧ True ∧ True ∧ (1 = 1 ∧ 1 ≤ 4096) ∧ isBytes [ixor IntKind.u8 ((List.take ((↑(32 : Nat) : Int).toNat - 0) (List.drop 0 (digL k))).getD (↑x : Int).toNat (0 : Int)) (92 : Int)] ∧ (↑((List.take x (xK k 92)).length + 1) : Int) ≤ (9223372036854775807 : Int) ∧ True ∧ True ∧ True ∧ ((AV.d (D.val (.int .i64 (IntKind.i64.wrap ((↑x : Int) + (1 : Int))))) = AV.d (D.val (.int .i64 (↑(IntKind.i64.wrap ((↑x : Int) + (1 : Int))).toNat : Int))) ∧ AV.d (D.str (List.take x (xK k 54) ++ [ixor IntKind.u8 ((List.take ((↑(32 : Nat) : Int).toNat - 0) (List.drop 0 (digL k))).getD (↑x : Int).toNat (0 : Int)) (54 : Int)])) = AV.d (D.str (List.take (IntKind.i64.wrap ((↑x : Int) + (1 : Int))).toNat (xK k 54))) ∧ AV.d (D.str (List.take x (xK k 92) ++ [ixor IntKind.u8 ((List.take ((↑(32 : Nat) : Int).toNat - 0) (List.drop 0 (digL k))).getD (↑x : Int).toNat (0 : Int)) (92 : Int)])) = AV.d (D.str (List.take (IntKind.i64.wrap ((↑x : Int) + (1 : Int))).toNat (xK k 92))) ∧ True) ∧ (sm (some (Blk.fix (D.arr .u8 32 [(0 : Int), (0 : Int), (0 : Int), (0 : Int), (0 : Int), (0 : Int), (0 : Int), (0 : Int), (0 : Int), (0 : Int), (0 : Int), (0 : Int), (0 : Int), (0 : Int), (0 : Int), (0 : Int), (0 : Int), (0 : Int), (0 : Int), (0 : Int), (0 : Int), (0 : Int), (0 : Int), (0 : Int), (0 : Int), (0 : Int), (0 : Int), (0 : Int), (0 : Int), (0 : Int), (0 : Int), (0 : Int)]))) ∧ sm (some (Blk.fix (D.arr .u8 32 (digL k)))) ∧ True) ∧ true = true) ∧ (IntKind.i64.wrap ((↑x : Int) + (1 : Int))).toNat ≤ 64 ∧ 64 - (IntKind.i64.wrap ((↑x : Int) + (1 : Int))).toNat < 64 - x
   | false => True ∧ True ∧ True ∧ (1 = 1 ∧ 1 ≤ 4096) ∧ isBytes [ixor IntKind.u8 (0 : Int) (54 : Int)] ∧ (↑((List.take x (xK k 54)).length + 1) : Int) ≤ (9223372036854775807 : Int) ∧ True ∧ True ∧ True ∧ True ∧ (1 = 1 ∧ 1 ≤ 4096) ∧ isBytes [ixor IntKind.u8 (0 : Int) (92 : Int)] ∧ (↑((List.take x (xK k 92)).length + 1) : Int) ≤ (9223372036854775807 : Int) ∧ True ∧ True ∧ True ∧ ((AV.d (D.val (.int .i64 (IntKind.i64.wrap ((↑x : Int) + (1 : Int))))) = AV.d (D.val (.int .i64 (↑(IntKind.i64.wrap ((↑x : Int) + (1 : Int))).toNat : Int))) ∧ AV.d (D.str (List.take x (xK k 54) ++ [ixor IntKind.u8 (0 : Int) (54 : Int)])) = AV.d (D.str (List.take (IntKind.i64.wrap ((↑x : Int) + (1 : Int))).toNat (xK k 54))) ∧ AV.d (D.str (List.take x (xK k 92) ++ [ixor IntKind.u8 (0 : Int) (92 : Int)])) = AV.d (D.str (List.take (IntKind.i64.wrap ((↑x : Int) + (1 : Int))).toNat (xK k 92))) ∧ True) ∧ (sm (some (Blk.fix (D.arr .u8 32 [(0 : Int), (0 : Int), (0 : Int), (0 : Int), (0 : Int), (0 : Int), (0 : Int), (0 : Int), (0 : Int), (0 : Int), (0 : Int), (0 : Int), (0 : Int), (0 : Int), (0 : Int), (0 : Int), (0 : Int), (0 : Int), (0 : Int), (0 : Int), (0 : Int), (0 : Int), (0 : Int), (0 : Int), (0 : Int), (0 : Int), (0 : Int), (0 : Int), (0 : Int), (0 : Int), (0 : Int), (0 : Int)]))) ∧ sm (some (Blk.fix (D.arr .u8 32 (digL k)))) ∧ True) ∧ true = true) ∧ (IntKind.i64.wrap ((↑x : Int) + (1 : Int))).toNat ≤ 64 ∧ 64 - (IntKind.i64.wrap ((↑x : Int) + (1 : Int))).toNat < 64 - x
  | false => True ∧ True ∧ (↑((List.take x (xK k 54)).length + p.length) : Int) ≤ (9223372036854775807 : Int) ∧ (∃ (p_1 : List Int), [D.str (List.take x (xK k 54) ++ p)] = [D.str p_1] ∧ isBytes p_1 ∧ p_1.length ≤ 1000000000000000) ∧ (True ∧ 32 ≠ 0) ∧ (Sk.arr 32 = Sk.arr 32 ∧ 32 ≠ 0 ∧ 32 = 32 ∧ false = false) ∧ True ∧ ((0 : Int) ≤ 0 ∧ (0 : Int) ≤ (↑(32 : Nat) : Int) ∧ (↑(32 : Nat) : Int) ≤ (↑(32 : Nat) : Int) ∧ 32 = 32 ∧ 1 = 1) ∧ isBytes (List.take ((↑(32 : Nat) : Int).toNat - 0) (List.drop 0 (digL (List.take x (xK k 54) ++ p)))) ∧ (↑((List.take x (xK k 92)).length + (List.take ((↑(32 : Nat) : Int).toNat - 0) (List.drop 0 (digL (List.take x (xK k 54) ++ p)))).length) : Int) ≤ (9223372036854775807 : Int) ∧ (∃ (p_1 : List Int), [D.str (List.take x (xK k 92) ++ List.take ((↑(32 : Nat) : Int).toNat - 0) (List.drop 0 (digL (List.take x (xK k 54) ++ p))))] = [D.str p_1] ∧ isBytes p_1 ∧ p_1.length ≤ 1000000000000000) ∧ (Sk.arr 32 = Sk.arr 32 ∧ 32 ≠ 0 ∧ 32 = 32 ∧ false = false) ∧ ((32 ≠ 0 ∧ 32 = 32 ∧ true = true) ∧ True) ∧ D.arr .u8 32 (digL (List.take x (xK k 92) ++ List.take ((↑(32 : Nat) : Int).toNat - 0) (List.drop 0 (digL (List.take x (xK k 54) ++ p))))) = F
 | false => True ∧ True ∧ True ∧ (((AV.d (D.val (.int .i64 0)) = AV.d (D.val (.int .i64 (↑(Int.toNat (0 : Int)) : Int))) ∧ AV.d (D.str (ints { data := { toList := [] } })) = AV.d (D.str (List.take (Int.toNat (0 : Int)) (xK k 54))) ∧ AV.d (D.str (ints { data := { toList := [] } })) = AV.d (D.str (List.take (Int.toNat (0 : Int)) (xK k 92))) ∧ True) ∧ (sm (some (Blk.fix (D.arr .u8 32 [(0 : Int), (0 : Int), (0 : Int), (0 : Int), (0 : Int), (0 : Int), (0 : Int), (0 : Int), (0 : Int), (0 : Int), (0 : Int), (0 : Int), (0 : Int), (0 : Int), (0 : Int), (0 : Int), (0 : Int), (0 : Int), (0 : Int), (0 : Int), (0 : Int), (0 : Int), (0 : Int), (0 : Int), (0 : Int), (0 : Int), (0 : Int), (0 : Int), (0 : Int), (0 : Int), (0 : Int), (0 : Int)]))) ∧ True) ∧ true = true) ∧ Int.toNat (0 : Int) ≤ 64) ∧ ∀ (x : Nat), x ≤ 64 → true = true ∧ True ∧ match decide ((↑x : Int) < (64 : Int)) with
  | true => True ∧ True ∧ True ∧ True ∧ True ∧ True ∧ True ∧ match decide ((↑x : Int) < (↑k.length : Int)) with
   | true => True ∧ True ∧ ((0 : Int) ≤ (↑x : Int) ∧ (↑x : Int) < (↑k.length : Int)) ∧ True ∧ True ∧ True ∧ True ∧ (1 = 1 ∧ 1 ≤ 4096) ∧ isBytes [ixor IntKind.u8 (k.getD (↑x : Int).toNat (0 : Int)) (54 : Int)] ∧ (↑((List.take x (xK k 54)).length + 1) : Int) ≤ (9223372036854775807 : Int) ∧ True ∧ True ∧ True ∧ True ∧ (1 = 1 ∧ 1 ≤ 4096) ∧ isBytes [ixor IntKind.u8 (k.getD (↑x : Int).toNat (0 : Int)) (92 : Int)] ∧ (↑((List.take x (xK k 92)).length + 1) : Int) ≤ (9223372036854775807 : Int) ∧ True ∧ True ∧ True ∧ ((AV.d (D.val (.int .i64 (IntKind.i64.wrap ((↑x : Int) + (1 : Int))))) = AV.d (D.val (.int .i64 (↑(IntKind.i64.wrap ((↑x : Int) + (1 : Int))).toNat : Int))) ∧ AV.d (D.str (List.take x (xK k 54) ++ [ixor IntKind.u8 (k.getD (↑x : Int).toNat (0 : Int)) (54 : Int)])) = AV.d (D.str (List.take (IntKind.i64.wrap ((↑x : Int) + (1 : Int))).toNat (xK k 54))) ∧ AV.d (D.str (List.take x (xK k 92) ++ [ixor IntKind.u8 (k.getD (↑x : Int).toNat (0 : Int)) (92 : Int)])) = AV.d (D.str (List.take (IntKind.i64.wrap ((↑x : Int) + (1 : Int))).toNat (xK k 92))) ∧ True) ∧ (sm (some (Blk.fix (D.arr .u8 32 [(0 : Int), (0 : Int), (0 : Int), (0 : Int), (0 : Int), (0 : Int), (0 : Int), (0 : Int), (0 : Int), (0 : Int), (0 : Int), (0 : Int), (0 : Int), (0 : Int), (0 : Int), (0 : Int), (0 : Int), (0 : Int), (0 : Int), (0 : Int), (0 : Int), (0 : Int), (0 : Int), (0 : Int), (0 : Int), (0 : Int), (0 : Int), (0 : Int), (0 : Int), (0 : Int), (0 : Int), (0 : Int)]))) ∧ True) ∧ true = true) ∧ (IntKind.i64.wrap ((↑x : Int) + (1 : Int))).toNat ≤ 64 ∧ 64 - (IntKind.i64.wrap ((↑x : Int) + (1 : Int))).toNat < 64 - x
   | false => True ∧ True ∧ True ∧ (1 = 1 ∧ 1 ≤ 4096) ∧ isBytes [ixor IntKind.u8 (0 : Int) (54 : Int)] ∧ (↑((List.take x (xK k 54)).length + 1) : Int) ≤ (9223372036854775807 : Int) ∧ True ∧ True ∧ True ∧ True ∧ (1 = 1 ∧ 1 ≤ 4096) ∧ isBytes [ixor IntKind.u8 (0 : Int) (92 : Int)] ∧ (↑((List.take x (xK k 92)).length + 1) : Int) ≤ (9223372036854775807 : Int) ∧ True ∧ True ∧ True ∧ ((AV.d (D.val (.int .i64 (IntKind.i64.wrap ((↑x : Int) + (1 : Int))))) = AV.d (D.val (.int .i64 (↑(IntKind.i64.wrap ((↑x : Int) + (1 : Int))).toNat : Int))) ∧ AV.d (D.str (List.take x (xK k 54) ++ [ixor IntKind.u8 (0 : Int) (54 : Int)])) = AV.d (D.str (List.take (IntKind.i64.wrap ((↑x : Int) + (1 : Int))).toNat (xK k 54))) ∧ AV.d (D.str (List.take x (xK k 92) ++ [ixor IntKind.u8 (0 : Int) (92 : Int)])) = AV.d (D.str (List.take (IntKind.i64.wrap ((↑x : Int) + (1 : Int))).toNat (xK k 92))) ∧ True) ∧ (sm (some (Blk.fix (D.arr .u8 32 [(0 : Int), (0 : Int), (0 : Int), (0 : Int), (0 : Int), (0 : Int), (0 : Int), (0 : Int), (0 : Int), (0 : Int), (0 : Int), (0 : Int), (0 : Int), (0 : Int), (0 : Int), (0 : Int), (0 : Int), (0 : Int), (0 : Int), (0 : Int), (0 : Int), (0 : Int), (0 : Int), (0 : Int), (0 : Int), (0 : Int), (0 : Int), (0 : Int), (0 : Int), (0 : Int), (0 : Int), (0 : Int)]))) ∧ True) ∧ true = true) ∧ (IntKind.i64.wrap ((↑x : Int) + (1 : Int))).toNat ≤ 64 ∧ 64 - (IntKind.i64.wrap ((↑x : Int) + (1 : Int))).toNat < 64 - x
  | false => True ∧ True ∧ (↑((List.take x (xK k 54)).length + p.length) : Int) ≤ (9223372036854775807 : Int) ∧ (∃ (p_1 : List Int), [D.str (List.take x (xK k 54) ++ p)] = [D.str p_1] ∧ isBytes p_1 ∧ p_1.length ≤ 1000000000000000) ∧ (True ∧ 32 ≠ 0) ∧ (Sk.arr 32 = Sk.arr 32 ∧ 32 ≠ 0 ∧ 32 = 32 ∧ false = false) ∧ True ∧ ((0 : Int) ≤ 0 ∧ (0 : Int) ≤ (↑(32 : Nat) : Int) ∧ (↑(32 : Nat) : Int) ≤ (↑(32 : Nat) : Int) ∧ 32 = 32 ∧ 1 = 1) ∧ isBytes (List.take ((↑(32 : Nat) : Int).toNat - 0) (List.drop 0 (digL (List.take x (xK k 54) ++ p)))) ∧ (↑((List.take x (xK k 92)).length + (List.take ((↑(32 : Nat) : Int).toNat - 0) (List.drop 0 (digL (List.take x (xK k 54) ++ p)))).length) : Int) ≤ (9223372036854775807 : Int) ∧ (∃ (p_1 : List Int), [D.str (List.take x (xK k 92) ++ List.take ((↑(32 : Nat) : Int).toNat - 0) (List.drop 0 (digL (List.take x (xK k 54) ++ p))))] = [D.str p_1] ∧ isBytes p_1 ∧ p_1.length ≤ 1000000000000000) ∧ (Sk.arr 32 = Sk.arr 32 ∧ 32 ≠ 0 ∧ 32 = 32 ∧ false = false) ∧ ((32 ≠ 0 ∧ 32 = 32 ∧ true = true) ∧ True) ∧ D.arr .u8 32 (digL (List.take x (xK k 92) ++ List.take ((↑(32 : Nat) : Int).toNat - 0) (List.drop 0 (digL (List.take x (xK k 54) ++ p))))) = F) := by kernel_rfl
set_option maxRecDepth 100000 in
theorem vc80  (a b : List Int) (F : D)  :
    (owed c0 (inv80 a b) Tryd.f80 [.ints .u8 a, .ints .u8 b] F) = (
 True ∧ True ∧ True ∧ True ∧ True ∧ True ∧ True ∧ True ∧ True ∧ True ∧ True ∧ IntKind.i64 = IntKind.i64 ∧ True ∧ (((AV.d (D.val (.int .i64 0)) = AV.d (D.val (.int .i64 (↑(0 : Nat) : Int))) ∧ AV.d (D.val (.int .i64 (ixor IntKind.i64 (↑a.length : Int) (↑b.length : Int)))) = AV.d (D.val (.int .i64 (↑(ixor IntKind.i64 (↑a.length : Int) (↑b.length : Int)).toNat : Int))) ∧ True) ∧ True ∧ true = true) ∧ sameI a b 0 (ixor IntKind.i64 (↑a.length : Int) (↑b.length : Int)).toNat) ∧ ∀ (x : Nat × Nat), sameI a b x.fst x.snd → true = true ∧ True ∧ match decide ((↑x.fst : Int) < bif decide ((↑b.length : Int) < (↑a.length : Int)) then (↑b.length : Int) else (↑a.length : Int)) with
 | true => True ∧ True ∧ True ∧ True ∧ True ∧ ((0 : Int) ≤ (↑x.fst : Int) ∧ (↑x.fst : Int) < (↑a.length : Int) ∧ 1 = 1) ∧ (1 ≠ 0 ∧ 1 = 1 ∧ false = false) ∧ True ∧ True ∧ ((0 : Int) ≤ (↑x.fst : Int) ∧ (↑x.fst : Int) < (↑b.length : Int) ∧ 1 = 1) ∧ (1 ≠ 0 ∧ 1 = 1 ∧ false = false) ∧ True ∧ True ∧ True ∧ True ∧ True ∧ True ∧ ((AV.d (D.val (.int .i64 (IntKind.i64.wrap ((↑x.fst : Int) + (1 : Int))))) = AV.d (D.val (.int .i64 (↑(IntKind.i64.wrap ((↑x.fst : Int) + (1 : Int))).toNat : Int))) ∧ AV.d (D.val (.int .i64 (ior IntKind.i64 (↑x.snd : Int) (IntKind.i64.wrap (ixor IntKind.u8 (a.getD (↑x.fst : Int).toNat (0 : Int)) (b.getD (↑x.fst : Int).toNat (0 : Int))))))) = AV.d (D.val (.int .i64 (↑(ior IntKind.i64 (↑x.snd : Int) (IntKind.i64.wrap (ixor IntKind.u8 (a.getD (↑x.fst : Int).toNat (0 : Int)) (b.getD (↑x.fst : Int).toNat (0 : Int))))).toNat : Int))) ∧ True) ∧ True ∧ true = true) ∧ sameI a b (IntKind.i64.wrap ((↑x.fst : Int) + (1 : Int))).toNat (ior IntKind.i64 (↑x.snd : Int) (IntKind.i64.wrap (ixor IntKind.u8 (a.getD (↑x.fst : Int).toNat (0 : Int)) (b.getD (↑x.fst : Int).toNat (0 : Int))))).toNat ∧ a.length - (IntKind.i64.wrap ((↑x.fst : Int) + (1 : Int))).toNat < a.length - x.fst
 | false => True ∧ True ∧ True ∧ (false = false ∧ True) ∧ D.val (Value.bool ((↑x.snd : Int) == (0 : Int))) = F) := by kernel_rfl
end Go.Proofs.YtkicjckhkefnpaaDoor
namespace Go.Proofs.YtkicjckhkefnpaaDoor
open Go Go.Vg
theorem ofM_eq (s : MS) : ofM (stM s) = s := by
 show MS.mk (ofS (stD s.i)) (ofS (stD s.o)) = s
 rw [ofS_eq, ofS_eq]
theorem ofM' (s : MS) : ofM (D.st [D.st [D.arr .u32 8 s.i.h.l, D.val (.int .u64 (s.i.n : Int)), D.arr .u8 64 s.i.l], D.st [D.arr .u32 8 s.o.h.l, D.val (.int .u64 (s.o.n : Int)), D.arr .u8 64 s.o.l]]) = s := ofM_eq s
theorem keyL_ok {k : List Int} (h : isB k) : isBytes (keyL k) ∧ (keyL k).length ≤ 64 := by
 unfold keyL
 split
 ·exact ⟨digL_bytes k, by rw [digL_len]; omega⟩
 ·exact ⟨h.1, by omega⟩
theorem padK_len {k : List Int} (h : isB k) : (padK k).length = 64 := by
 have := (keyL_ok h).2
 unfold padK
 rw [List.length_append, List.length_replicate]
 omega
theorem padK_bytes {k : List Int} (h : isB k) : isBytes (padK k) := by
 refine bytes_app (keyL_ok h).1 fun x hx => ?_
 have := List.eq_of_mem_replicate hx
 omega
theorem xK_len {k : List Int} (h : isB k) (c : Nat) : (xK k c).length = 64 := by unfold xK; rw [List.length_map, padK_len h]
theorem xK_bytes {k : List Int} (h : isB k) {c : Nat} (hc : c < 256) : isBytes (xK k c) := by
 intro x hx
 unfold xK at hx
 obtain ⟨z, hz, rfl⟩ := List.mem_map.1 hx
 have := padK_bytes h z hz
 have h2 : z.toNat ^^^ c < 2 ^ 8 := Nat.xor_lt_two_pow (by omega) hc
 omega
theorem xK_get {k : List Int} (h : isB k) {c i : Nat} (hc : c < 256) (hi : i < 64) : ixor .u8 ((padK k).getD i 0) (c : Int) = (xK k c).getD i 0 := by
 obtain ⟨n, e, hn⟩ := byte_at (padK_bytes h) (i := i) (by rw [padK_len h]; exact hi)
 unfold xK
 rw [List.getD_eq_getElem?_getD, List.getD_eq_getElem?_getD, List.getElem?_map] at *
 have hi2 : i < (padK k).length := by rw [padK_len h]; exact hi
 have hs : (padK k)[i]? = some (padK k)[i] := List.getElem?_eq_getElem hi2
 rw [hs] at e ⊢
 simp only [Option.getD_some, Option.map_some] at e ⊢
 rw [e, Int.toNat_natCast, ixorN .u8 (show n < 256 from hn) (show c < 256 from hc)]
theorem mix_get {L P : List Int} {x : Nat} (hL : L.length = P.length) (h : x < P.length) : (L.take x ++ P.drop x).getD x 0 = P.getD x 0 := by
 rw [List.getD_eq_getElem?_getD, List.getElem?_append_right (by rw [List.length_take]; omega), List.length_take, List.getElem?_drop, List.getD_eq_getElem?_getD]
 congr 2
 omega
theorem mix_set {L P : List Int} {x : Nat} (hL : L.length = P.length) (h : x < P.length) : (L.take x ++ P.drop x).set x (L.getD x 0) = L.take (x + 1) ++ P.drop (x + 1) := by
 have e : (L.take x).length = x := by rw [List.length_take]; omega
 rw [List.set_append_right _ _ (by omega), e, Nat.sub_self, List.drop_eq_getElem_cons h, List.set_cons_zero, take_snoc (by omega), List.append_assoc]
 rfl
theorem mixK_set {k : List Int} (h : isB k) {c x : Nat} (hc : c < 256) (hx : x < 64) : (mixK k c x).set x (ixor .u8 ((mixK k c x).getD x 0) (c : Int)) = mixK k c (x + 1) := by
 have hl : (xK k c).length = (padK k).length := by rw [xK_len h, padK_len h]
 unfold mixK
 rw [mix_get hl (by rw [padK_len h]; exact hx), xK_get h hc hx, mix_set hl (by rw [padK_len h]; exact hx)]
theorem mixK_end {k : List Int} (h : isB k) (c : Nat) : mixK k c 64 = xK k c := by
 unfold mixK
 rw [List.take_of_length_le (by rw [xK_len h]; omega), List.drop_eq_nil_of_le (by rw [padK_len h]; omega), List.append_nil]
theorem mixK_zero (k : List Int) (c : Nat) : mixK k c 0 = padK k := rfl
theorem mNew_ok {k : List Int} (h : isB k) : okM (mNew k) := ⟨wr_ok _ st0_ok (xK_bytes h (by decide)), wr_ok _ st0_ok (xK_bytes h (by decide))⟩
theorem mWr_ok {s : MS} (h : okM s) {p : List Int} (hp : isBytes p) : okM (mWr s p) := ⟨wr_ok p h.1 hp, h.2⟩
theorem sumL_len (s : HS) : (sumL s).length = 32 := outL_len _
theorem sumL_bytes (s : HS) : isBytes (sumL s) := outL_bytes _
theorem mac_eq (k p : List Int) : mSum (mWr (mNew k) p) = mkL k p := by
 unfold mSum mWr mNew mkL
 simp only [← wr_app, sum_st0]
theorem mWr_app (s : MS) (p q : List Int) : mWr (mWr s p) q = mWr s (p ++ q) := by
 unfold mWr
 simp only [wr_app]
set_option maxRecDepth 100000 in
theorem m82 : Meets Tryd.prog 82 sp82 := by
 refine meets_of_owed (C := c82) ⟨tab_ok, lkS_ok ⟨m75, m76, m70, trivial⟩⟩ (by kernel_rfl) (by kernel_rfl : Tryd.prog.funcs[82]? = some Tryd.f82) (by kernel_rfl) (by kernel_rfl) (by kernel_rfl) _ ?_
 rintro _ ⟨k, rfl, hk⟩
 refine ⟨fun _ => rfl, inv82 k, ?_⟩
 show owed c82 (inv82 k) Tryd.f82 [.ints .u8 k] (stM (mNew k))
 rw [vc82]
 have kl := keyL_ok hk
 have t32 : List.take 32 (digL k) = digL k := List.take_of_length_le (by rw [digL_len]; omega)
 simp (decide := true) only [Int.toNat_natCast, show Int.toNat 32 = 32 from rfl, show Int.toNat 64 = 64 from rfl, show Int.toNat 0 = 0 from rfl, List.drop_zero, Nat.sub_zero, Nat.zero_add, t32, digL_len, mixK_zero, ofS', eq_self, true_and, and_true, ne_eq, not_false_eq_true]
 split
 ·rename_i h
  have h : 64 < k.length := by have := of_decide_eq_true h; omega
  have kk : keyL k = digL k := by unfold keyL; rw [if_pos h]
  have e0 : List.take (Nat.min 32 64) (digL k) ++ List.drop (Nat.min 32 64) (List.replicate 64 0) = padK k := by
   unfold padK
   rw [kk, digL_len, show Nat.min 32 64 = 32 from rfl, t32]
   rfl
  rw [e0]
  refine ⟨⟨k, rfl, hk⟩, by and_intros <;> first | rfl | trivial | omega, fun x hx => ?_⟩
  split
  ·rename_i h2
   have h2 : x < 64 := by have := of_decide_eq_true h2; omega
   have ew : IntKind.i64.wrap ((x : Int) + 1) = ((x + 1 : Nat) : Int) := by rw [wi (by omega) (by omega)]; omega
   have s1 := mixK_set hk (c := 54) (by decide) h2
   have s2 := mixK_set hk (c := 92) (by decide) h2
   change (mixK k 54 x).set x (ixor .u8 ((mixK k 54 x).getD x 0) 54) = _ at s1
   change (mixK k 92 x).set x (ixor .u8 ((mixK k 92 x).getD x 0) 92) = _ at s2
   simp only [ew, Int.toNat_natCast, s1, s2]
   and_intros <;> first | rfl | omega | trivial
  ·rename_i h2
   obtain rfl : x = 64 := by have := of_decide_eq_false h2; omega
   have t1 : List.take 64 (xK k 54) = xK k 54 := List.take_of_length_le (by rw [xK_len hk]; omega)
   have t2 : List.take 64 (xK k 92) = xK k 92 := List.take_of_length_le (by rw [xK_len hk]; omega)
   simp only [mixK_end hk, t1, t2]
   exact ⟨⟨st0, _, rfl, st0_ok, xK_bytes hk (by decide), by rw [xK_len hk]; omega⟩, ⟨st0, _, rfl, st0_ok, xK_bytes hk (by decide), by rw [xK_len hk]; omega⟩, rfl⟩
 ·rename_i h
  have h : k.length ≤ 64 := by have := of_decide_eq_false h; omega
  have kk : keyL k = k := by unfold keyL; rw [if_neg (by omega)]
  have em : Nat.min k.length 64 = k.length := Nat.min_eq_left h
  have e0 : List.take (Nat.min k.length 64) k ++ List.drop (Nat.min k.length 64) (List.replicate 64 0) = padK k := by
   unfold padK
   rw [kk, em, List.take_length, List.drop_replicate]
  rw [e0]
  refine ⟨by and_intros <;> first | rfl | trivial | omega, fun x hx => ?_⟩
  split
  ·rename_i h2
   have h2 : x < 64 := by have := of_decide_eq_true h2; omega
   have ew : IntKind.i64.wrap ((x : Int) + 1) = ((x + 1 : Nat) : Int) := by rw [wi (by omega) (by omega)]; omega
   have s1 := mixK_set hk (c := 54) (by decide) h2
   have s2 := mixK_set hk (c := 92) (by decide) h2
   change (mixK k 54 x).set x (ixor .u8 ((mixK k 54 x).getD x 0) 54) = _ at s1
   change (mixK k 92 x).set x (ixor .u8 ((mixK k 92 x).getD x 0) 92) = _ at s2
   simp only [ew, Int.toNat_natCast, s1, s2]
   and_intros <;> first | rfl | omega | trivial
  ·rename_i h2
   obtain rfl : x = 64 := by have := of_decide_eq_false h2; omega
   have t1 : List.take 64 (xK k 54) = xK k 54 := List.take_of_length_le (by rw [xK_len hk]; omega)
   have t2 : List.take 64 (xK k 92) = xK k 92 := List.take_of_length_le (by rw [xK_len hk]; omega)
   simp only [mixK_end hk, t1, t2]
   exact ⟨⟨st0, _, rfl, st0_ok, xK_bytes hk (by decide), by rw [xK_len hk]; omega⟩, ⟨st0, _, rfl, st0_ok, xK_bytes hk (by decide), by rw [xK_len hk]; omega⟩, rfl⟩
set_option maxRecDepth 100000 in
theorem m83 : Meets Tryd.prog 83 sp83 := by
 refine meets_of_owed (C := c83) ⟨tab_ok, lkS_ok ⟨m76, trivial⟩⟩ (by kernel_rfl) (by kernel_rfl : Tryd.prog.funcs[83]? = some Tryd.f83) (by kernel_rfl) (by kernel_rfl) (by kernel_rfl) _ ?_
 rintro _ ⟨s, p, rfl, ⟨h1, h2⟩, hp, hl⟩
 refine ⟨fun _ => rfl, fun _ => none, ?_⟩
 show owed c83 (fun _ => none) Tryd.f83 [stM s, .ints .u8 p] (stM (mWr (ofM (stM s)) p))
 rw [vc83, ofM_eq]
 simp (decide := true) only [ofS', eq_self, true_and, and_true, ne_eq, not_false_eq_true]
 exact ⟨⟨_, p, rfl, h1, hp, hl⟩, rfl⟩
set_option maxRecDepth 100000 in
theorem m84 : Meets Tryd.prog 84 sp84 := by
 refine meets_of_owed (C := c84) ⟨tab_ok, lkS_ok ⟨m76, m77, trivial⟩⟩ (by kernel_rfl) (by kernel_rfl : Tryd.prog.funcs[84]? = some Tryd.f84) (by kernel_rfl) (by kernel_rfl) (by kernel_rfl) _ ?_
 rintro _ ⟨s, rfl, h1, h2⟩
 refine ⟨fun _ => rfl, fun _ => none, ?_⟩
 show owed c84 (fun _ => none) Tryd.f84 [stM s] (d32 (mSum (ofM (stM s))))
 rw [vc84, ofM_eq]
 have t32 : ∀ z : HS, List.take 32 (sumL z) = sumL z := fun z => List.take_of_length_le (by rw [sumL_len]; omega)
 simp (decide := true) only [Int.toNat_natCast, show Int.toNat 32 = 32 from rfl, show Int.toNat 0 = 0 from rfl, List.drop_zero, Nat.sub_zero, t32, ofS', eq_self, true_and, and_true, ne_eq, not_false_eq_true]
 exact ⟨⟨_, rfl, h1⟩, ⟨_, _, rfl, h2, sumL_bytes _, by rw [sumL_len]; omega⟩, ⟨_, rfl, wr_ok _ h2 (sumL_bytes _)⟩, rfl⟩
set_option maxRecDepth 100000 in
theorem m79 : Meets Tryd.prog 79 sp79 := by
 refine meets_of_owed (C := c79) ⟨tab_ok, lkS_ok ⟨m71, trivial⟩⟩ (by kernel_rfl) (by kernel_rfl : Tryd.prog.funcs[79]? = some Tryd.f79) (by kernel_rfl) (by kernel_rfl) (by kernel_rfl) _ ?_
 rintro _ ⟨k, p, rfl, hk, hp, hpl⟩
 refine ⟨fun _ => rfl, inv79 k, ?_⟩
 show owed c79 (inv79 k) Tryd.f79 [.str k, .str p] (d32 (mkL k p))
 rw [vc79]
 have kl := keyL_ok hk
 have t32 : ∀ q : List Int, List.take 32 (digL q) = digL q := fun q => List.take_of_length_le (by rw [digL_len]; omega)
 have ie : ints { data := { toList := [] } } = [] := rfl
 have l1 : ∀ x, (List.take x (xK k 54)).length ≤ 64 := fun x => by rw [List.length_take, xK_len hk]; omega
 have l2 : ∀ x, (List.take x (xK k 92)).length ≤ 64 := fun x => by rw [List.length_take, xK_len hk]; omega
 simp (decide := true) only [Int.toNat_natCast, show Int.toNat 32 = 32 from rfl, show Int.toNat 0 = 0 from rfl, List.drop_zero, Nat.sub_zero, Nat.zero_add, t32, digL_len, ie, eq_self, true_and, and_true, ne_eq, not_false_eq_true]
 split
 ·rename_i h
  have h : 64 < k.length := by have := of_decide_eq_true h; omega
  have kk : keyL k = digL k := by unfold keyL; rw [if_pos h]
  have ql := digL_len k
  rw [kk] at kl
  generalize hq : digL k = q at *
  refine ⟨⟨k, rfl, hk⟩, kl.1, by and_intros <;> first | rfl | trivial | omega, fun x hx => ?_⟩
  split
  ·rename_i h2
   have h2 : x < 64 := by have := of_decide_eq_true h2; omega
   have ew : IntKind.i64.wrap ((x : Int) + 1) = ((x + 1 : Nat) : Int) := by rw [wi (by omega) (by omega)]; omega
   have s1 := xK_get hk (c := 54) (by decide) h2
   have s2 := xK_get hk (c := 92) (by decide) h2
   change ixor .u8 _ 54 = _ at s1
   change ixor .u8 _ 92 = _ at s2
   have q1 := take_snoc (p := xK k 54) (i := x) (by rw [xK_len hk]; exact h2)
   have q2 := take_snoc (p := xK k 92) (i := x) (by rw [xK_len hk]; exact h2)
   have b1 : isBytes [(xK k 54).getD x 0] := fun z hz => by
    rw [List.mem_singleton.1 hz]
    obtain ⟨n, e, hn⟩ := byte_at (xK_bytes hk (c := 54) (by decide)) (i := x) (by rw [xK_len hk]; exact h2)
    omega
   have b2 : isBytes [(xK k 92).getD x 0] := fun z hz => by
    rw [List.mem_singleton.1 hz]
    obtain ⟨n, e, hn⟩ := byte_at (xK_bytes hk (c := 92) (by decide)) (i := x) (by rw [xK_len hk]; exact h2)
    omega
   have l1x := l1 x
   have l2x := l2 x
   unfold padK at s1 s2
   rw [kk] at s1 s2
   split
   ·rename_i h3
    have h3 : x < q.length := by have := of_decide_eq_true h3; omega
    rw [List.getD_eq_getElem?_getD, List.getElem?_append_left h3, ← List.getD_eq_getElem?_getD] at s1 s2
    simp only [ew, Int.toNat_natCast, s1, s2, ← q1, ← q2]
    refine ⟨by omega, b1, by omega, b2, by omega, ?_, by omega, by omega⟩
    and_intros <;> first | rfl | trivial
   ·rename_i h3
    have h3 : q.length ≤ x := by have := of_decide_eq_false h3; omega
    rw [List.getD_eq_getElem?_getD, List.getElem?_append_right h3, List.getElem?_replicate, if_pos (by omega)] at s1 s2
    change ixor .u8 0 54 = _ at s1
    change ixor .u8 0 92 = _ at s2
    simp only [ew, Int.toNat_natCast, s1, s2, ← q1, ← q2]
    refine ⟨b1, by omega, b2, by omega, ?_, by omega, by omega⟩
    and_intros <;> first | rfl | trivial
  ·rename_i h2
   obtain rfl : x = 64 := by have := of_decide_eq_false h2; omega
   have t1 : List.take 64 (xK k 54) = xK k 54 := List.take_of_length_le (by rw [xK_len hk]; omega)
   have t2 : List.take 64 (xK k 92) = xK k 92 := List.take_of_length_le (by rw [xK_len hk]; omega)
   have n1 := xK_len hk 54
   have n2 := xK_len hk 92
   have bb := xK_bytes hk (c := 54) (by decide)
   have bc := xK_bytes hk (c := 92) (by decide)
   simp only [t1, t2]
   refine ⟨by omega, ⟨_, rfl, bytes_app bb hp, by rw [List.length_append]; omega⟩, digL_bytes _, by omega, ⟨_, rfl, bytes_app bc (digL_bytes _), by rw [List.length_append, digL_len]; omega⟩, rfl⟩
 ·rename_i h
  have h : k.length ≤ 64 := by have := of_decide_eq_false h; omega
  have kk : keyL k = k := by unfold keyL; rw [if_neg (by omega)]
  generalize hq : k = q at kk ⊢
  subst hq
  refine ⟨by and_intros <;> first | rfl | trivial | omega, fun x hx => ?_⟩
  split
  ·rename_i h2
   have h2 : x < 64 := by have := of_decide_eq_true h2; omega
   have ew : IntKind.i64.wrap ((x : Int) + 1) = ((x + 1 : Nat) : Int) := by rw [wi (by omega) (by omega)]; omega
   have s1 := xK_get hk (c := 54) (by decide) h2
   have s2 := xK_get hk (c := 92) (by decide) h2
   change ixor .u8 _ 54 = _ at s1
   change ixor .u8 _ 92 = _ at s2
   have q1 := take_snoc (p := xK k 54) (i := x) (by rw [xK_len hk]; exact h2)
   have q2 := take_snoc (p := xK k 92) (i := x) (by rw [xK_len hk]; exact h2)
   have b1 : isBytes [(xK k 54).getD x 0] := fun z hz => by
    rw [List.mem_singleton.1 hz]
    obtain ⟨n, e, hn⟩ := byte_at (xK_bytes hk (c := 54) (by decide)) (i := x) (by rw [xK_len hk]; exact h2)
    omega
   have b2 : isBytes [(xK k 92).getD x 0] := fun z hz => by
    rw [List.mem_singleton.1 hz]
    obtain ⟨n, e, hn⟩ := byte_at (xK_bytes hk (c := 92) (by decide)) (i := x) (by rw [xK_len hk]; exact h2)
    omega
   have l1x := l1 x
   have l2x := l2 x
   unfold padK at s1 s2
   rw [kk] at s1 s2
   split
   ·rename_i h3
    have h3 : x < k.length := by have := of_decide_eq_true h3; omega
    rw [List.getD_eq_getElem?_getD, List.getElem?_append_left h3, ← List.getD_eq_getElem?_getD] at s1 s2
    simp only [ew, Int.toNat_natCast, s1, s2, ← q1, ← q2]
    refine ⟨by omega, b1, by omega, b2, by omega, ?_, by omega, by omega⟩
    and_intros <;> first | rfl | trivial
   ·rename_i h3
    have h3 : k.length ≤ x := by have := of_decide_eq_false h3; omega
    rw [List.getD_eq_getElem?_getD, List.getElem?_append_right h3, List.getElem?_replicate, if_pos (by omega)] at s1 s2
    change ixor .u8 0 54 = _ at s1
    change ixor .u8 0 92 = _ at s2
    simp only [ew, Int.toNat_natCast, s1, s2, ← q1, ← q2]
    refine ⟨b1, by omega, b2, by omega, ?_, by omega, by omega⟩
    and_intros <;> first | rfl | trivial
  ·rename_i h2
   obtain rfl : x = 64 := by have := of_decide_eq_false h2; omega
   have t1 : List.take 64 (xK k 54) = xK k 54 := List.take_of_length_le (by rw [xK_len hk]; omega)
   have t2 : List.take 64 (xK k 92) = xK k 92 := List.take_of_length_le (by rw [xK_len hk]; omega)
   have n1 := xK_len hk 54
   have n2 := xK_len hk 92
   have bb := xK_bytes hk (c := 54) (by decide)
   have bc := xK_bytes hk (c := 92) (by decide)
   simp only [t1, t2]
   refine ⟨by omega, ⟨_, rfl, bytes_app bb hp, by rw [List.length_append]; omega⟩, digL_bytes _, by omega, ⟨_, rfl, bytes_app bc (digL_bytes _), by rw [List.length_append, digL_len]; omega⟩, rfl⟩
theorem xor_zero {a b : Nat} : a ^^^ b = 0 ↔ a = b := by
 constructor
 ·intro h
  have e : (a ^^^ b) ^^^ b = a := by rw [Nat.xor_assoc, Nat.xor_self, Nat.xor_zero]
  rw [h, Nat.zero_xor] at e
  exact e.symm
 ·rintro rfl
  exact Nat.xor_self a
theorem or_zero {a b : Nat} : a ||| b = 0 ↔ a = 0 ∧ b = 0 := by
 constructor
 ·intro h
  have h1 : a ≤ a ||| b := Nat.left_le_or
  have h2 : b ≤ a ||| b := Nat.right_le_or
  omega
 ·rintro ⟨rfl, rfl⟩
  rfl
theorem take_eq {a b : List Int} {i : Nat} (h1 : i < a.length) (h2 : i < b.length) : a.take (i + 1) = b.take (i + 1) ↔ a.take i = b.take i ∧ a.getD i 0 = b.getD i 0 := by
 rw [take_snoc h1, take_snoc h2]
 constructor
 ·intro h
  have := List.append_inj' h rfl
  exact ⟨this.1, by have := this.2; simpa using this⟩
 ·rintro ⟨h, h3⟩
  rw [h, h3]
set_option maxRecDepth 100000 in
theorem m80 : Meets Tryd.prog 80 sp80 := by
 refine meets_of_owed (C := c0) ⟨tab_ok, fun f s h => by cases h⟩ (by kernel_rfl) (by kernel_rfl : Tryd.prog.funcs[80]? = some Tryd.f80) (by kernel_rfl) (by kernel_rfl) (by kernel_rfl) _ ?_
 rintro _ ⟨a, b, rfl, ⟨ha, hal⟩, hb, hbl⟩
 refine ⟨fun _ => rfl, inv80 a b, ?_⟩
 show owed c0 (inv80 a b) Tryd.f80 [.ints .u8 a, .ints .u8 b] (bl (eqB a b))
 rw [vc80]
 have k63 : kb .i64 = 9223372036854775808 := rfl
 have ex : ixor .i64 (a.length : Int) (b.length : Int) = ((a.length ^^^ b.length : Nat) : Int) := ixorN .i64 (by rw [k63]; omega) (by rw [k63]; omega)
 have hx63 : a.length ^^^ b.length < 2 ^ 63 := Nat.xor_lt_two_pow (by omega) (by omega)
 simp (decide := true) only [ex, Int.toNat_natCast, eq_self, true_and, and_true, ne_eq, not_false_eq_true]
 refine ⟨⟨rfl, Nat.zero_le _, hx63, by rw [xor_zero]; simp⟩, ?_⟩
 rintro ⟨i, d⟩ ⟨hi, hd, hiff⟩
 simp only at hi hd hiff ⊢
 have hmin : Nat.min a.length b.length ≤ a.length ∧ Nat.min a.length b.length ≤ b.length := ⟨Nat.min_le_left _ _, Nat.min_le_right _ _⟩
 have hbif : (bif decide ((b.length : Int) < (a.length : Int)) then (b.length : Int) else (a.length : Int)) = ((Nat.min a.length b.length : Nat) : Int) := by
  rcases Nat.lt_or_ge b.length a.length with h | h
  ·rw [decide_eq_true (by omega)]
   show (b.length : Int) = _
   rw [show Nat.min a.length b.length = b.length from Nat.min_eq_right (by omega)]
  ·rw [decide_eq_false (by omega)]
   show (a.length : Int) = _
   rw [show Nat.min a.length b.length = a.length from Nat.min_eq_left (by omega)]
 rw [hbif]
 split
 ·rename_i h
  have h : i < Nat.min a.length b.length := by have := of_decide_eq_true h; omega
  have ew : IntKind.i64.wrap ((i : Int) + 1) = ((i + 1 : Nat) : Int) := by rw [wi (by omega) (by omega)]; omega
  obtain ⟨x, ea, hxa⟩ := byte_at ha (i := i) (by omega)
  obtain ⟨y, eb, hyb⟩ := byte_at hb (i := i) (by omega)
  have e1 : ixor .u8 (x : Int) (y : Int) = ((x ^^^ y : Nat) : Int) := ixorN .u8 (show x < 256 from hxa) (show y < 256 from hyb)
  have hxy : x ^^^ y < 2 ^ 8 := Nat.xor_lt_two_pow hxa hyb
  have e2 : IntKind.i64.wrap ((x ^^^ y : Nat) : Int) = ((x ^^^ y : Nat) : Int) := wNi (by omega)
  have e3 : ior .i64 (d : Int) ((x ^^^ y : Nat) : Int) = ((d ||| (x ^^^ y) : Nat) : Int) := iorN .i64 (by rw [k63]; exact hd) (by rw [k63]; omega)
  have hor : d ||| (x ^^^ y) < 2 ^ 63 := Nat.or_lt_two_pow hd (by omega)
  have hs : sameI a b (i + 1) (d ||| (x ^^^ y)) := by
   refine ⟨by omega, hor, ?_⟩
   rw [or_zero, hiff, xor_zero, take_eq (by omega) (by omega), ea, eb]
   constructor
   ·rintro ⟨⟨h1, h2⟩, h3⟩
    exact ⟨h1, h2, by rw [h3]⟩
   ·rintro ⟨h1, h2, h3⟩
    exact ⟨⟨h1, h2⟩, by omega⟩
  simp only [ew, Int.toNat_natCast, ea, eb, e1, e2, e3]
  refine ⟨?_, ?_, ?_, hs, ?_⟩ <;> (try and_intros) <;> first | rfl | omega | trivial
 ·rename_i h
  have h := of_decide_eq_false h
  obtain rfl : i = Nat.min a.length b.length := by omega
  have e : ((d : Int) == 0) = eqB a b := by
   by_cases h0 : d = 0
   ·obtain ⟨h1, h2⟩ := hiff.1 h0
    have h3 : a = b := by
     rw [List.take_of_length_le (by rw [h1]; show b.length ≤ min b.length b.length; omega), List.take_of_length_le (by rw [h1]; show b.length ≤ min b.length b.length; omega)] at h2
     exact h2
    rw [h0, eqB_iff.2 h3]
    rfl
   ·have h3 : a ≠ b := by
     rintro rfl
     exact h0 (hiff.2 ⟨rfl, rfl⟩)
    rw [eqB_not.2 h3]
    exact beq_eq_false_iff_ne.2 (by omega)
  rw [e]
end Go.Proofs.YtkicjckhkefnpaaDoor
namespace Go.Proofs.YtkicjckhkefnpaaDoor
open Go Go.Vg
abbrev u8n (n : Nat) : D := .val (.int .u8 (n : Int))
abbrev i64n (n : Nat) : D := .val (.int .i64 (n : Int))
abbrev bs (l : List Int) : D := .ints .u8 l
def okb (l : List Int) : Prop := ∀ x ∈ l, 0 ≤ x ∧ x < 256
def lenB (l : List Int) : Prop := l.length ≤ 9223372036854775807
def gbt (l : List Int) (i : Nat) : Nat := (l.getD i 0).toNat
def hdr (l : List Int) : Nat × Nat × Nat :=
 if l.length = 0 then (0, 0, 3)
 else if gbt l 0 < 128 then (gbt l 0, 1, 0)
 else if gbt l 0 = 128 ∨ gbt l 0 > 130 then (0, 0, 4)
 else if l.length < gbt l 0 - 127 then (0, 0, 3)
 else if gbt l 0 = 129 then (if gbt l 1 < 128 then (0, 0, 4) else (gbt l 1, 2, 0))
 else if gbt l 1 * 256 + gbt l 2 < 256 then (0, 0, 4) else (gbt l 1 * 256 + gbt l 2, 3, 0)
def hN (l : List Int) : Nat := (hdr l).1
def hA (l : List Int) : Nat := (hdr l).2.1
def hE (l : List Int) : Nat := (hdr l).2.2
def fst' (l : List Int) : Nat × List Int × Nat × Nat :=
 if l.length = 0 then (0, [], 0, 3)
 else if hE (l.drop 1) ≠ 0 then (0, [], 0, hE (l.drop 1))
 else if hN (l.drop 1) > 4096 then (0, [], 0, 2)
 else if hN (l.drop 1) + (1 + hA (l.drop 1)) > l.length then (0, [], 0, 3)
 else (gbt l 0, (l.drop (1 + hA (l.drop 1))).take (hN (l.drop 1)), 1 + hA (l.drop 1) + hN (l.drop 1), 0)
def itT (l : List Int) : Nat := (fst' l).1
def itB (l : List Int) : List Int := (fst' l).2.1
def itN (l : List Int) : Nat := (fst' l).2.2.1
def itE (l : List Int) : Nat := (fst' l).2.2.2
abbrev itm (l : List Int) : D := .st [u8n (itT l), bs (itB l)]
def sp131 : Go.Vg.Spec := ⟨fun ds => ∃ l, ds = [bs l] ∧ okb l ∧ lenB l, fun ds => .tup [i64n (hN (intsOf (ds.headD default))), i64n (hA (intsOf (ds.headD default))), i64n (hE (intsOf (ds.headD default)))], true, [26]⟩
def sp119 : Go.Vg.Spec := ⟨fun ds => ∃ l, ds = [bs l] ∧ okb l ∧ lenB l, fun ds => .tup [itm (intsOf (ds.headD default)), i64n (itN (intsOf (ds.headD default))), i64n (itE (intsOf (ds.headD default)))], false, [26]⟩
def sp87 : Go.Vg.Spec := ⟨fun ds => ∃ l, ds = [.str l] ∧ okb l ∧ lenB l, fun ds => .tup [itm (strOf (ds.headD default)), i64n (itN (strOf (ds.headD default))), i64n (itE (strOf (ds.headD default)))], false, [9]⟩
def c119 : Ctx := ⟨tab, lkS [(131, sp131)], [], []⟩
def c87 : Ctx := ⟨tab, fun _ => none, [], []⟩
set_option maxRecDepth 100000 in
theorem vc131  (l : List Int) (F : D)  :
    (owed c0 (fun _ => none) Tryd.f131 [bs l] F) = (
 True ∧ True ∧ True ∧ True ∧ True ∧ True ∧ match (↑l.length : Int) == (0 : Int) with
 | true => True ∧ True ∧ True ∧ (false = false ∧ false = false ∧ false = false ∧ True) ∧ D.tup [D.val (.int .i64 0), D.val (.int .i64 0), D.val (.int .i64 3)] = F
 | false => True ∧ ((0 : Int) ≤ 0 ∧ (0 : Int) < (↑l.length : Int) ∧ 1 = 1) ∧ (1 ≠ 0 ∧ 1 = 1 ∧ false = false) ∧ True ∧ True ∧ True ∧ True ∧ match decide (l.getD 0 (0 : Int) < 128) with
  | true => True ∧ True ∧ True ∧ True ∧ True ∧ (false = false ∧ false = false ∧ false = false ∧ True) ∧ D.tup [D.val (.int .i64 (IntKind.i64.wrap (l.getD 0 (0 : Int)))), D.val (.int .i64 1), D.val (.int .i64 0)] = F
  | false => True ∧ True ∧ True ∧ match l.getD 0 (0 : Int) == (128 : Int) with
   | true => True ∧ True ∧ True ∧ True ∧ True ∧ (false = false ∧ false = false ∧ false = false ∧ True) ∧ D.tup [D.val (.int .i64 0), D.val (.int .i64 0), D.val (.int .i64 4)] = F
   | false => True ∧ True ∧ True ∧ True ∧ match decide (l.getD 0 (0 : Int) > 130) with
    | true => True ∧ True ∧ True ∧ (false = false ∧ false = false ∧ false = false ∧ True) ∧ D.tup [D.val (.int .i64 0), D.val (.int .i64 0), D.val (.int .i64 4)] = F
    | false => True ∧ True ∧ True ∧ True ∧ True ∧ True ∧ True ∧ match decide ((↑l.length : Int) < IntKind.i64.wrap (IntKind.i64.wrap (l.getD 0 (0 : Int)) - (127 : Int))) with
     | true => True ∧ True ∧ True ∧ (false = false ∧ false = false ∧ false = false ∧ True) ∧ D.tup [D.val (.int .i64 0), D.val (.int .i64 0), D.val (.int .i64 3)] = F
     | false => True ∧ True ∧ True ∧ match l.getD 0 (0 : Int) == (129 : Int) with
      | true => True ∧ ((0 : Int) ≤ 1 ∧ (1 : Int) < (↑l.length : Int) ∧ 1 = 1) ∧ (1 ≠ 0 ∧ 1 = 1 ∧ false = false) ∧ True ∧ True ∧ True ∧ True ∧ True ∧ match decide (IntKind.i64.wrap (l.getD 1 (0 : Int)) < (128 : Int)) with
       | true => True ∧ True ∧ True ∧ (false = false ∧ false = false ∧ false = false ∧ True) ∧ D.tup [D.val (.int .i64 0), D.val (.int .i64 0), D.val (.int .i64 4)] = F
       | false => True ∧ True ∧ True ∧ True ∧ True ∧ (false = false ∧ false = false ∧ false = false ∧ True) ∧ D.tup [D.val (.int .i64 (IntKind.i64.wrap (l.getD 1 (0 : Int)))), D.val (.int .i64 2), D.val (.int .i64 0)] = F
      | false => True ∧ ((0 : Int) ≤ 1 ∧ (1 : Int) < (↑l.length : Int) ∧ 1 = 1) ∧ (1 ≠ 0 ∧ 1 = 1 ∧ false = false) ∧ True ∧ (0 : Int) ≤ 8 ∧ True ∧ ((0 : Int) ≤ 2 ∧ (2 : Int) < (↑l.length : Int) ∧ 1 = 1) ∧ (1 ≠ 0 ∧ 1 = 1 ∧ false = false) ∧ True ∧ True ∧ True ∧ True ∧ True ∧ True ∧ match decide (ior IntKind.i64 (ishl IntKind.i64 (IntKind.i64.wrap (l.getD 1 (0 : Int))) (8 : Int)) (IntKind.i64.wrap (l.getD 2 (0 : Int))) < (256 : Int)) with
       | true => True ∧ True ∧ True ∧ (false = false ∧ false = false ∧ false = false ∧ True) ∧ D.tup [D.val (.int .i64 0), D.val (.int .i64 0), D.val (.int .i64 4)] = F
       | false => True ∧ True ∧ True ∧ True ∧ True ∧ (false = false ∧ false = false ∧ false = false ∧ True) ∧ D.tup [D.val (.int .i64 (ior IntKind.i64 (ishl IntKind.i64 (IntKind.i64.wrap (l.getD 1 (0 : Int))) (8 : Int)) (IntKind.i64.wrap (l.getD 2 (0 : Int))))), D.val (.int .i64 3), D.val (.int .i64 0)] = F) := by kernel_rfl
set_option maxRecDepth 100000 in
theorem vc119  (l : List Int) (F : D)  :
    (owed c119 (fun _ => none) Tryd.f119 [bs l] F) = (
 (True ∧ 2 ≠ 0) ∧ True ∧ True ∧ True ∧ True ∧ True ∧ match (↑l.length : Int) == (0 : Int) with
 | true => True ∧ (Sk.st [Sk.one, Sk.one] = Sk.st [Sk.one, Sk.one] ∧ 2 ≠ 0 ∧ 2 = 2 ∧ false = false) ∧ True ∧ True ∧ ((2 ≠ 0 ∧ 2 = 2 ∧ true = true) ∧ false = false ∧ false = false ∧ True) ∧ D.tup [D.st [D.val (.int .u8 0), D.ints .u8 []], D.val (.int .i64 0), D.val (.int .i64 3)] = F
 | false => True ∧ ((0 : Int) ≤ 1 ∧ (1 : Int) ≤ (↑l.length : Int) ∧ (↑l.length : Int) ≤ (↑l.length : Int) ∧ 1 = 1) ∧ (∃ (l_1 : List Int), [D.ints .u8 (List.drop 1 (List.take (↑l.length : Int).toNat l))] = [D.ints .u8 l_1] ∧ okb l_1 ∧ lenB l_1) ∧ True ∧ (0 < 3 ∧ false = false) ∧ (1 < 3 ∧ false = false) ∧ (2 < 3 ∧ false = false) ∧ True ∧ True ∧ True ∧ True ∧ True ∧ match (↑(hE (List.drop 1 (List.take (↑l.length : Int).toNat l))) : Int) != (0 : Int) with
  | true => True ∧ True ∧ (Sk.st [Sk.one, Sk.one] = Sk.st [Sk.one, Sk.one] ∧ 2 ≠ 0 ∧ 2 = 2 ∧ false = false) ∧ True ∧ True ∧ ((2 ≠ 0 ∧ 2 = 2 ∧ true = true) ∧ false = false ∧ false = false ∧ True) ∧ D.tup [D.st [D.val (.int .u8 0), D.ints .u8 []], D.val (.int .i64 0), D.val (.int .i64 (↑(hE (List.drop 1 (List.take (↑l.length : Int).toNat l))) : Int))] = F
  | false => True ∧ True ∧ True ∧ ((0 : Int) ≤ IntKind.i64.wrap ((1 : Int) + (↑(hA (List.drop 1 (List.take (↑l.length : Int).toNat l))) : Int)) ∧ IntKind.i64.wrap ((1 : Int) + (↑(hA (List.drop 1 (List.take (↑l.length : Int).toNat l))) : Int)) ≤ (↑l.length : Int) ∧ (↑l.length : Int) ≤ (↑l.length : Int) ∧ 1 = 1) ∧ True ∧ True ∧ True ∧ True ∧ match decide ((↑(hN (List.drop 1 (List.take (↑l.length : Int).toNat l))) : Int) > (4096 : Int)) with
   | true => True ∧ (Sk.st [Sk.one, Sk.one] = Sk.st [Sk.one, Sk.one] ∧ 2 ≠ 0 ∧ 2 = 2 ∧ false = false) ∧ True ∧ True ∧ ((2 ≠ 0 ∧ 2 = 2 ∧ true = true) ∧ false = false ∧ false = false ∧ True) ∧ D.tup [D.st [D.val (.int .u8 0), D.ints .u8 []], D.val (.int .i64 0), D.val (.int .i64 2)] = F
   | false => True ∧ True ∧ True ∧ True ∧ True ∧ match decide ((↑(hN (List.drop 1 (List.take (↑l.length : Int).toNat l))) : Int) > (↑(List.drop (IntKind.i64.wrap ((1 : Int) + (↑(hA (List.drop 1 (List.take (↑l.length : Int).toNat l))) : Int))).toNat (List.take (↑l.length : Int).toNat l)).length : Int)) with
    | true => True ∧ (Sk.st [Sk.one, Sk.one] = Sk.st [Sk.one, Sk.one] ∧ 2 ≠ 0 ∧ 2 = 2 ∧ false = false) ∧ True ∧ True ∧ ((2 ≠ 0 ∧ 2 = 2 ∧ true = true) ∧ false = false ∧ false = false ∧ True) ∧ D.tup [D.st [D.val (.int .u8 0), D.ints .u8 []], D.val (.int .i64 0), D.val (.int .i64 3)] = F
    | false => True ∧ ((0 : Int) ≤ 0 ∧ (0 : Int) < (↑l.length : Int) ∧ 1 = 1) ∧ (1 ≠ 0 ∧ 1 = 1 ∧ false = false) ∧ True ∧ True ∧ ((0 : Int) ≤ 0 ∧ (0 : Int) ≤ (↑(hN (List.drop 1 (List.take (↑l.length : Int).toNat l))) : Int) ∧ (↑(hN (List.drop 1 (List.take (↑l.length : Int).toNat l))) : Int) ≤ (↑(List.drop (IntKind.i64.wrap ((1 : Int) + (↑(hA (List.drop 1 (List.take (↑l.length : Int).toNat l))) : Int))).toNat (List.take (↑l.length : Int).toNat l)).length : Int) ∧ 1 = 1) ∧ (26 = 26 ∧ (List.drop 0 (List.take (↑(hN (List.drop 1 (List.take (↑l.length : Int).toNat l))) : Int).toNat (List.drop (IntKind.i64.wrap ((1 : Int) + (↑(hA (List.drop 1 (List.take (↑l.length : Int).toNat l))) : Int))).toNat (List.take (↑l.length : Int).toNat l)))).length ≤ 140737488355328 ∧ (List.drop 0 (List.take (↑(hN (List.drop 1 (List.take (↑l.length : Int).toNat l))) : Int).toNat (List.drop (IntKind.i64.wrap ((1 : Int) + (↑(hA (List.drop 1 (List.take (↑l.length : Int).toNat l))) : Int))).toNat (List.take (↑l.length : Int).toNat l)))).length * 1 ≤ 140737488355328 ∧ 1 = 1) ∧ (false = false ∧ (0 < 2 ∧ Sk.one = Sk.one) ∧ false = false ∧ (1 < 2 ∧ Sk.one = Sk.one) ∧ True) ∧ True ∧ True ∧ True ∧ True ∧ (Sk.st [Sk.one, Sk.one] = Sk.st [Sk.one, Sk.one] ∧ 2 ≠ 0 ∧ 2 = 2 ∧ false = false) ∧ True ∧ True ∧ ((2 ≠ 0 ∧ 2 = 2 ∧ true = true) ∧ false = false ∧ false = false ∧ True) ∧ D.tup [D.st [D.val (.int .u8 (l.getD 0 (0 : Int))), D.ints .u8 (List.drop 0 (List.take (↑(hN (List.drop 1 (List.take (↑l.length : Int).toNat l))) : Int).toNat (List.drop (IntKind.i64.wrap ((1 : Int) + (↑(hA (List.drop 1 (List.take (↑l.length : Int).toNat l))) : Int))).toNat (List.take (↑l.length : Int).toNat l))))], D.val (.int .i64 (IntKind.i64.wrap (IntKind.i64.wrap ((1 : Int) + (↑(hA (List.drop 1 (List.take (↑l.length : Int).toNat l))) : Int)) + (↑(hN (List.drop 1 (List.take (↑l.length : Int).toNat l))) : Int)))), D.val (.int .i64 0)] = F) := by kernel_rfl
set_option maxRecDepth 100000 in
theorem vc87  (l : List Int) (F : D)  :
    (owed c87 (fun _ => none) Tryd.f87 [.str l] F) = (
 (True ∧ 2 ≠ 0) ∧ True ∧ True ∧ (True ∧ 2 ≠ 0) ∧ True ∧ True ∧ True ∧ match decide ((↑l.length : Int) < (2 : Int)) with
 | true => (2 ≠ 0 ∧ 2 = 2 ∧ true = true) ∧ (Sk.st [Sk.one, Sk.one] = Sk.st [Sk.one, Sk.one] ∧ 2 ≠ 0 ∧ 2 = 2 ∧ false = false) ∧ True ∧ True ∧ ((2 ≠ 0 ∧ 2 = 2 ∧ true = true) ∧ false = false ∧ false = false ∧ True) ∧ D.tup [D.st [D.val (.int .u8 0), D.ints .u8 []], D.val (.int .i64 0), D.val (.int .i64 3)] = F
 | false => True ∧ ((0 : Int) ≤ 1 ∧ (1 : Int) < (↑l.length : Int)) ∧ True ∧ True ∧ True ∧ True ∧ True ∧ True ∧ match IntKind.i64.wrap (l.getD 1 (0 : Int)) == (128 : Int) with
  | true => True ∧ (2 ≠ 0 ∧ 2 = 2 ∧ true = true) ∧ (Sk.st [Sk.one, Sk.one] = Sk.st [Sk.one, Sk.one] ∧ 2 ≠ 0 ∧ 2 = 2 ∧ false = false) ∧ True ∧ True ∧ ((2 ≠ 0 ∧ 2 = 2 ∧ true = true) ∧ false = false ∧ false = false ∧ True) ∧ D.tup [D.st [D.val (.int .u8 0), D.ints .u8 []], D.val (.int .i64 0), D.val (.int .i64 4)] = F
  | false => True ∧ True ∧ True ∧ match decide (IntKind.i64.wrap (l.getD 1 (0 : Int)) > (130 : Int)) with
   | true => (2 ≠ 0 ∧ 2 = 2 ∧ true = true) ∧ (Sk.st [Sk.one, Sk.one] = Sk.st [Sk.one, Sk.one] ∧ 2 ≠ 0 ∧ 2 = 2 ∧ false = false) ∧ True ∧ True ∧ ((2 ≠ 0 ∧ 2 = 2 ∧ true = true) ∧ false = false ∧ false = false ∧ True) ∧ D.tup [D.st [D.val (.int .u8 0), D.ints .u8 []], D.val (.int .i64 0), D.val (.int .i64 4)] = F
   | false => True ∧ True ∧ match decide (IntKind.i64.wrap (l.getD 1 (0 : Int)) > (128 : Int)) with
    | true => True ∧ True ∧ True ∧ True ∧ True ∧ True ∧ True ∧ True ∧ match decide (IntKind.i64.wrap ((1 : Int) + IntKind.i64.wrap (IntKind.i64.wrap (l.getD 1 (0 : Int)) - (128 : Int))) ≥ (↑l.length : Int)) with
     | true => (2 ≠ 0 ∧ 2 = 2 ∧ true = true) ∧ (Sk.st [Sk.one, Sk.one] = Sk.st [Sk.one, Sk.one] ∧ 2 ≠ 0 ∧ 2 = 2 ∧ false = false) ∧ True ∧ True ∧ ((2 ≠ 0 ∧ 2 = 2 ∧ true = true) ∧ false = false ∧ false = false ∧ True) ∧ D.tup [D.st [D.val (.int .u8 0), D.ints .u8 []], D.val (.int .i64 0), D.val (.int .i64 3)] = F
     | false => True ∧ True ∧ ((0 : Int) ≤ 2 ∧ (2 : Int) < (↑l.length : Int)) ∧ True ∧ True ∧ True ∧ True ∧ match IntKind.i64.wrap (IntKind.i64.wrap (l.getD 1 (0 : Int)) - (128 : Int)) == (2 : Int) with
      | true => True ∧ True ∧ True ∧ ((0 : Int) ≤ 3 ∧ (3 : Int) < (↑l.length : Int)) ∧ True ∧ True ∧ True ∧ True ∧ True ∧ True ∧ True ∧ match decide (IntKind.i64.wrap (IntKind.i64.wrap (IntKind.i64.wrap (l.getD 2 (0 : Int)) * (256 : Int)) + IntKind.i64.wrap (l.getD 3 (0 : Int))) < (256 : Int)) with
       | true => (2 ≠ 0 ∧ 2 = 2 ∧ true = true) ∧ (Sk.st [Sk.one, Sk.one] = Sk.st [Sk.one, Sk.one] ∧ 2 ≠ 0 ∧ 2 = 2 ∧ false = false) ∧ True ∧ True ∧ ((2 ≠ 0 ∧ 2 = 2 ∧ true = true) ∧ false = false ∧ false = false ∧ True) ∧ D.tup [D.st [D.val (.int .u8 0), D.ints .u8 []], D.val (.int .i64 0), D.val (.int .i64 4)] = F
       | false => True ∧ True ∧ True ∧ True ∧ True ∧ True ∧ True ∧ match decide (IntKind.i64.wrap (IntKind.i64.wrap (IntKind.i64.wrap (l.getD 2 (0 : Int)) * (256 : Int)) + IntKind.i64.wrap (l.getD 3 (0 : Int))) > (4096 : Int)) with
        | true => (2 ≠ 0 ∧ 2 = 2 ∧ true = true) ∧ (Sk.st [Sk.one, Sk.one] = Sk.st [Sk.one, Sk.one] ∧ 2 ≠ 0 ∧ 2 = 2 ∧ false = false) ∧ True ∧ True ∧ ((2 ≠ 0 ∧ 2 = 2 ∧ true = true) ∧ false = false ∧ false = false ∧ True) ∧ D.tup [D.st [D.val (.int .u8 0), D.ints .u8 []], D.val (.int .i64 0), D.val (.int .i64 2)] = F
        | false => True ∧ True ∧ True ∧ True ∧ match decide (IntKind.i64.wrap (IntKind.i64.wrap ((2 : Int) + IntKind.i64.wrap (IntKind.i64.wrap (l.getD 1 (0 : Int)) - (128 : Int))) + IntKind.i64.wrap (IntKind.i64.wrap (IntKind.i64.wrap (l.getD 2 (0 : Int)) * (256 : Int)) + IntKind.i64.wrap (l.getD 3 (0 : Int)))) > (↑l.length : Int)) with
         | true => (2 ≠ 0 ∧ 2 = 2 ∧ true = true) ∧ (Sk.st [Sk.one, Sk.one] = Sk.st [Sk.one, Sk.one] ∧ 2 ≠ 0 ∧ 2 = 2 ∧ false = false) ∧ True ∧ True ∧ ((2 ≠ 0 ∧ 2 = 2 ∧ true = true) ∧ false = false ∧ false = false ∧ True) ∧ D.tup [D.st [D.val (.int .u8 0), D.ints .u8 []], D.val (.int .i64 0), D.val (.int .i64 3)] = F
         | false => True ∧ ((0 : Int) ≤ 0 ∧ (0 : Int) < (↑l.length : Int)) ∧ True ∧ True ∧ True ∧ True ∧ ((0 : Int) ≤ IntKind.i64.wrap ((2 : Int) + IntKind.i64.wrap (IntKind.i64.wrap (l.getD 1 (0 : Int)) - (128 : Int))) ∧ IntKind.i64.wrap ((2 : Int) + IntKind.i64.wrap (IntKind.i64.wrap (l.getD 1 (0 : Int)) - (128 : Int))) ≤ IntKind.i64.wrap (IntKind.i64.wrap ((2 : Int) + IntKind.i64.wrap (IntKind.i64.wrap (l.getD 1 (0 : Int)) - (128 : Int))) + IntKind.i64.wrap (IntKind.i64.wrap (IntKind.i64.wrap (l.getD 2 (0 : Int)) * (256 : Int)) + IntKind.i64.wrap (l.getD 3 (0 : Int)))) ∧ IntKind.i64.wrap (IntKind.i64.wrap ((2 : Int) + IntKind.i64.wrap (IntKind.i64.wrap (l.getD 1 (0 : Int)) - (128 : Int))) + IntKind.i64.wrap (IntKind.i64.wrap (IntKind.i64.wrap (l.getD 2 (0 : Int)) * (256 : Int)) + IntKind.i64.wrap (l.getD 3 (0 : Int)))) ≤ (↑l.length : Int)) ∧ True ∧ (false = false ∧ (0 < 2 ∧ Sk.one = Sk.one) ∧ false = false ∧ (1 < 2 ∧ Sk.one = Sk.one) ∧ True) ∧ True ∧ (Sk.st [Sk.one, Sk.one] = Sk.st [Sk.one, Sk.one] ∧ 2 ≠ 0 ∧ 2 = 2 ∧ false = false) ∧ True ∧ True ∧ ((2 ≠ 0 ∧ 2 = 2 ∧ true = true) ∧ false = false ∧ false = false ∧ True) ∧ D.tup [D.st [D.val (.int .u8 (l.getD 0 (0 : Int))), D.ints .u8 (List.drop (IntKind.i64.wrap ((2 : Int) + IntKind.i64.wrap (IntKind.i64.wrap (l.getD 1 (0 : Int)) - (128 : Int)))).toNat (List.take (IntKind.i64.wrap (IntKind.i64.wrap ((2 : Int) + IntKind.i64.wrap (IntKind.i64.wrap (l.getD 1 (0 : Int)) - (128 : Int))) + IntKind.i64.wrap (IntKind.i64.wrap (IntKind.i64.wrap (l.getD 2 (0 : Int)) * (256 : Int)) + IntKind.i64.wrap (l.getD 3 (0 : Int))))).toNat l))], D.val (Value.int IntKind.i64 (IntKind.i64.wrap (IntKind.i64.wrap ((2 : Int) + IntKind.i64.wrap (IntKind.i64.wrap (l.getD 1 (0 : Int)) - (128 : Int))) + IntKind.i64.wrap (IntKind.i64.wrap (IntKind.i64.wrap (l.getD 2 (0 : Int)) * (256 : Int)) + IntKind.i64.wrap (l.getD 3 (0 : Int)))))), D.val (.int .i64 0)] = F
      | false => True ∧ True ∧ True ∧ match decide (IntKind.i64.wrap (l.getD 2 (0 : Int)) < (128 : Int)) with
       | true => (2 ≠ 0 ∧ 2 = 2 ∧ true = true) ∧ (Sk.st [Sk.one, Sk.one] = Sk.st [Sk.one, Sk.one] ∧ 2 ≠ 0 ∧ 2 = 2 ∧ false = false) ∧ True ∧ True ∧ ((2 ≠ 0 ∧ 2 = 2 ∧ true = true) ∧ false = false ∧ false = false ∧ True) ∧ D.tup [D.st [D.val (.int .u8 0), D.ints .u8 []], D.val (.int .i64 0), D.val (.int .i64 4)] = F
       | false => True ∧ True ∧ True ∧ True ∧ True ∧ True ∧ True ∧ match decide (IntKind.i64.wrap (l.getD 2 (0 : Int)) > (4096 : Int)) with
        | true => (2 ≠ 0 ∧ 2 = 2 ∧ true = true) ∧ (Sk.st [Sk.one, Sk.one] = Sk.st [Sk.one, Sk.one] ∧ 2 ≠ 0 ∧ 2 = 2 ∧ false = false) ∧ True ∧ True ∧ ((2 ≠ 0 ∧ 2 = 2 ∧ true = true) ∧ false = false ∧ false = false ∧ True) ∧ D.tup [D.st [D.val (.int .u8 0), D.ints .u8 []], D.val (.int .i64 0), D.val (.int .i64 2)] = F
        | false => True ∧ True ∧ True ∧ True ∧ match decide (IntKind.i64.wrap (IntKind.i64.wrap ((2 : Int) + IntKind.i64.wrap (IntKind.i64.wrap (l.getD 1 (0 : Int)) - (128 : Int))) + IntKind.i64.wrap (l.getD 2 (0 : Int))) > (↑l.length : Int)) with
         | true => (2 ≠ 0 ∧ 2 = 2 ∧ true = true) ∧ (Sk.st [Sk.one, Sk.one] = Sk.st [Sk.one, Sk.one] ∧ 2 ≠ 0 ∧ 2 = 2 ∧ false = false) ∧ True ∧ True ∧ ((2 ≠ 0 ∧ 2 = 2 ∧ true = true) ∧ false = false ∧ false = false ∧ True) ∧ D.tup [D.st [D.val (.int .u8 0), D.ints .u8 []], D.val (.int .i64 0), D.val (.int .i64 3)] = F
         | false => True ∧ ((0 : Int) ≤ 0 ∧ (0 : Int) < (↑l.length : Int)) ∧ True ∧ True ∧ True ∧ True ∧ ((0 : Int) ≤ IntKind.i64.wrap ((2 : Int) + IntKind.i64.wrap (IntKind.i64.wrap (l.getD 1 (0 : Int)) - (128 : Int))) ∧ IntKind.i64.wrap ((2 : Int) + IntKind.i64.wrap (IntKind.i64.wrap (l.getD 1 (0 : Int)) - (128 : Int))) ≤ IntKind.i64.wrap (IntKind.i64.wrap ((2 : Int) + IntKind.i64.wrap (IntKind.i64.wrap (l.getD 1 (0 : Int)) - (128 : Int))) + IntKind.i64.wrap (l.getD 2 (0 : Int))) ∧ IntKind.i64.wrap (IntKind.i64.wrap ((2 : Int) + IntKind.i64.wrap (IntKind.i64.wrap (l.getD 1 (0 : Int)) - (128 : Int))) + IntKind.i64.wrap (l.getD 2 (0 : Int))) ≤ (↑l.length : Int)) ∧ True ∧ (false = false ∧ (0 < 2 ∧ Sk.one = Sk.one) ∧ false = false ∧ (1 < 2 ∧ Sk.one = Sk.one) ∧ True) ∧ True ∧ (Sk.st [Sk.one, Sk.one] = Sk.st [Sk.one, Sk.one] ∧ 2 ≠ 0 ∧ 2 = 2 ∧ false = false) ∧ True ∧ True ∧ ((2 ≠ 0 ∧ 2 = 2 ∧ true = true) ∧ false = false ∧ false = false ∧ True) ∧ D.tup [D.st [D.val (.int .u8 (l.getD 0 (0 : Int))), D.ints .u8 (List.drop (IntKind.i64.wrap ((2 : Int) + IntKind.i64.wrap (IntKind.i64.wrap (l.getD 1 (0 : Int)) - (128 : Int)))).toNat (List.take (IntKind.i64.wrap (IntKind.i64.wrap ((2 : Int) + IntKind.i64.wrap (IntKind.i64.wrap (l.getD 1 (0 : Int)) - (128 : Int))) + IntKind.i64.wrap (l.getD 2 (0 : Int)))).toNat l))], D.val (.int .i64 (IntKind.i64.wrap (IntKind.i64.wrap ((2 : Int) + IntKind.i64.wrap (IntKind.i64.wrap (l.getD 1 (0 : Int)) - (128 : Int))) + IntKind.i64.wrap (l.getD 2 (0 : Int))))), D.val (.int .i64 0)] = F
    | false => True ∧ True ∧ True ∧ True ∧ True ∧ True ∧ True ∧ match decide (IntKind.i64.wrap (l.getD 1 (0 : Int)) > (4096 : Int)) with
     | true => (2 ≠ 0 ∧ 2 = 2 ∧ true = true) ∧ (Sk.st [Sk.one, Sk.one] = Sk.st [Sk.one, Sk.one] ∧ 2 ≠ 0 ∧ 2 = 2 ∧ false = false) ∧ True ∧ True ∧ ((2 ≠ 0 ∧ 2 = 2 ∧ true = true) ∧ false = false ∧ false = false ∧ True) ∧ D.tup [D.st [D.val (.int .u8 0), D.ints .u8 []], D.val (.int .i64 0), D.val (.int .i64 2)] = F
     | false => True ∧ True ∧ True ∧ True ∧ match decide (IntKind.i64.wrap (IntKind.i64.wrap ((2 : Int) + (0 : Int)) + IntKind.i64.wrap (l.getD 1 (0 : Int))) > (↑l.length : Int)) with
      | true => (2 ≠ 0 ∧ 2 = 2 ∧ true = true) ∧ (Sk.st [Sk.one, Sk.one] = Sk.st [Sk.one, Sk.one] ∧ 2 ≠ 0 ∧ 2 = 2 ∧ false = false) ∧ True ∧ True ∧ ((2 ≠ 0 ∧ 2 = 2 ∧ true = true) ∧ false = false ∧ false = false ∧ True) ∧ D.tup [D.st [D.val (.int .u8 0), D.ints .u8 []], D.val (.int .i64 0), D.val (.int .i64 3)] = F
      | false => True ∧ ((0 : Int) ≤ 0 ∧ (0 : Int) < (↑l.length : Int)) ∧ True ∧ True ∧ True ∧ True ∧ ((0 : Int) ≤ IntKind.i64.wrap ((2 : Int) + (0 : Int)) ∧ IntKind.i64.wrap ((2 : Int) + (0 : Int)) ≤ IntKind.i64.wrap (IntKind.i64.wrap ((2 : Int) + (0 : Int)) + IntKind.i64.wrap (l.getD 1 (0 : Int))) ∧ IntKind.i64.wrap (IntKind.i64.wrap ((2 : Int) + (0 : Int)) + IntKind.i64.wrap (l.getD 1 (0 : Int))) ≤ (↑l.length : Int)) ∧ True ∧ (false = false ∧ (0 < 2 ∧ Sk.one = Sk.one) ∧ false = false ∧ (1 < 2 ∧ Sk.one = Sk.one) ∧ True) ∧ True ∧ (Sk.st [Sk.one, Sk.one] = Sk.st [Sk.one, Sk.one] ∧ 2 ≠ 0 ∧ 2 = 2 ∧ false = false) ∧ True ∧ True ∧ ((2 ≠ 0 ∧ 2 = 2 ∧ true = true) ∧ false = false ∧ false = false ∧ True) ∧ D.tup [D.st [D.val (.int .u8 (l.getD 0 (0 : Int))), D.ints .u8 (List.drop (IntKind.i64.wrap ((2 : Int) + (0 : Int))).toNat (List.take (IntKind.i64.wrap (IntKind.i64.wrap ((2 : Int) + (0 : Int)) + IntKind.i64.wrap (l.getD 1 (0 : Int)))).toNat l))], D.val (.int .i64 (IntKind.i64.wrap (IntKind.i64.wrap ((2 : Int) + (0 : Int)) + IntKind.i64.wrap (l.getD 1 (0 : Int))))), D.val (.int .i64 0)] = F) := by kernel_rfl
end Go.Proofs.YtkicjckhkefnpaaDoor
namespace Go.Proofs.YtkicjckhkefnpaaDoor
open Go Go.Vg
theorem gB {l : List Int} (h : okb l) (i : Nat) : l.getD i 0 = ((gbt l i : Nat) : Int) ∧ gbt l i < 256 := by
 have : 0 ≤ l.getD i 0 ∧ l.getD i 0 < 256 := by
  rcases Nat.lt_or_ge i l.length with hi | hi
  ·exact h _ (by simp [List.getD_eq_getElem?_getD, hi])
  ·rw [List.getD_eq_getElem?_getD, List.getElem?_eq_none hi]
   decide
 unfold gbt
 omega
theorem g_drop (l : List Int) (n i : Nat) : gbt (l.drop n) i = gbt l (n + i) := by
 simp [gbt, List.getD_eq_getElem?_getD, List.getElem?_drop]
theorem okb_drop {l : List Int} (h : okb l) (n : Nat) : okb (l.drop n) := fun x hx => h x (List.mem_of_mem_drop hx)
theorem okb_take {l : List Int} (h : okb l) (n : Nat) : okb (l.take n) := fun x hx => h x (List.mem_of_mem_take hx)
theorem hd_ok {l : List Int} (h : okb l) {n a e : Nat} (hh : hdr l = (n, a, e)) : n < 65536 ∧ a ≤ 3 ∧ e ≤ 4 ∧ (e = 0 → a ≤ l.length) := by
 have h0 := (gB h 0).2
 have h1 := (gB h 1).2
 have h2 := (gB h 2).2
 unfold hdr at hh
 generalize l.length = m at hh ⊢
 generalize gbt l 0 = x at hh h0
 generalize gbt l 1 = y at hh h1
 generalize gbt l 2 = z at hh h2
 repeat' split at hh
 all_goals
  obtain ⟨rfl, h3⟩ := Prod.mk.inj hh
  obtain ⟨rfl, rfl⟩ := Prod.mk.inj h3
  refine ⟨?_, ?_, ?_, ?_⟩ <;> omega
theorem fs_len {l : List Int} (h : l.length = 0) : fst' l = (0, [], 0, 3) := by rw [fst', if_pos h]
theorem fs_err {l : List Int} (h : l.length ≠ 0) {n a e : Nat} (hh : hdr (l.drop 1) = (n, a, e)) (he : e ≠ 0) : fst' l = (0, [], 0, e) := by
 rw [fst', if_neg h]
 simp only [hE, hN, hA, hh]
 rw [if_pos he]
theorem fs_big {l : List Int} (h : l.length ≠ 0) {n a : Nat} (hh : hdr (l.drop 1) = (n, a, 0)) (hn : n > 4096) : fst' l = (0, [], 0, 2) := by
 rw [fst', if_neg h]
 simp only [hE, hN, hA, hh]
 rw [if_neg (by omega), if_pos hn]
theorem fs_short {l : List Int} (h : l.length ≠ 0) {n a : Nat} (hh : hdr (l.drop 1) = (n, a, 0)) (hn : ¬ n > 4096) (hs : n + (1 + a) > l.length) : fst' l = (0, [], 0, 3) := by
 rw [fst', if_neg h]
 simp only [hE, hN, hA, hh]
 rw [if_neg (by omega), if_neg hn, if_pos hs]
theorem fs_ok {l : List Int} (h : l.length ≠ 0) {n a : Nat} (hh : hdr (l.drop 1) = (n, a, 0)) (hn : ¬ n > 4096) (hs : ¬ n + (1 + a) > l.length) : fst' l = (gbt l 0, (l.drop (1 + a)).take n, 1 + a + n, 0) := by
 rw [fst', if_neg h]
 simp only [hE, hN, hA, hh]
 rw [if_neg (by omega), if_neg hn, if_neg hs]
theorem fin3 {l : List Int} {n a e : Nat} (h : hdr l = (n, a, e)) : D.tup [D.val (Value.int IntKind.i64 ((n : Nat) : Int)), D.val (Value.int IntKind.i64 ((a : Nat) : Int)), D.val (Value.int IntKind.i64 ((e : Nat) : Int))] = D.tup [i64n (hN l), i64n (hA l), i64n (hE l)] := by
 simp only [hN, hA, hE, h]
theorem fin4 {l : List Int} {t n e : Nat} {b : List Int} (h : fst' l = (t, b, n, e)) : D.tup [D.st [D.val (Value.int IntKind.u8 ((t : Nat) : Int)), D.ints IntKind.u8 b], D.val (Value.int IntKind.i64 ((n : Nat) : Int)), D.val (Value.int IntKind.i64 ((e : Nat) : Int))] = D.tup [itm l, i64n (itN l), i64n (itE l)] := by
 simp only [itm, itT, itB, itN, itE, h]
theorem shl_or {x y : Nat} (hx : x < 256) (hy : y < 256) : ior IntKind.i64 (ishl IntKind.i64 (x : Int) 8) (y : Int) = ((x * 256 + y : Nat) : Int) := by
 rw [show (8 : Int) = ((8 : Nat) : Int) from rfl, ishlN .i64 (by decide), wNi (by omega), iorN .i64 (by show _ < 9223372036854775808; omega) (by show _ < 9223372036854775808; omega)]
 have := Nat.two_pow_add_eq_or_of_lt (i := 8) (b := y) (by omega) x
 rw [Nat.mul_comm x, ← this]
set_option maxRecDepth 100000 in
theorem m131 : Meets Tryd.prog 131 sp131 := by
 refine meets_of_owed (C := c0) ⟨tab_ok, fun f s h => by cases h⟩ (by kernel_rfl) (by kernel_rfl : Tryd.prog.funcs[131]? = some Tryd.f131) (by kernel_rfl) (by kernel_rfl) (by kernel_rfl) _ ?_
 rintro _ ⟨l, rfl, hl, hlen⟩
 refine ⟨fun _ => rfl, fun _ => none, ?_⟩
 show owed c0 (fun _ => none) Tryd.f131 [bs l] (.tup [i64n (hN l), i64n (hA l), i64n (hE l)])
 rw [vc131]
 obtain ⟨e0, h0⟩ := gB hl 0
 obtain ⟨e1, h1⟩ := gB hl 1
 obtain ⟨e2, h2⟩ := gB hl 2
 simp (decide := true) only [eq_self, true_and, and_true, ne_eq, not_false_eq_true]
 rw [e0, e1, e2, wNi (n := gbt l 0) (by omega), wNi (n := gbt l 1) (by omega), wNi (n := gbt l 2) (by omega), shl_or h1 h2]
 have hw : IntKind.i64.wrap (((gbt l 0 : Nat) : Int) - 127) = ((gbt l 0 : Nat) : Int) - 127 := wi (by omega) (by omega)
 rw [hw]
 split
 ·rename_i h
  have h : ((l.length : Nat) : Int) = 0 := by simpa using h
  exact fin3 (by rw [hdr, if_pos (by omega)])
 ·rename_i h
  have h : ¬ ((l.length : Nat) : Int) = 0 := by simpa using h
  have hp : l.length ≠ 0 := by omega
  refine ⟨by omega, ?_⟩
  split
  ·rename_i h3
   have h3 := of_decide_eq_true h3
   exact fin3 (by rw [hdr, if_neg hp, if_pos (by omega)])
  ·rename_i h3
   have h3 := of_decide_eq_false h3
   have h3' : ¬ gbt l 0 < 128 := by omega
   split
   ·rename_i h4
    have h4 : ((gbt l 0 : Nat) : Int) = 128 := by simpa using h4
    exact fin3 (by rw [hdr, if_neg hp, if_neg h3', if_pos (by omega)])
   ·rename_i h4
    have h4 : ¬ ((gbt l 0 : Nat) : Int) = 128 := by simpa using h4
    split
    ·rename_i h5
     have h5 := of_decide_eq_true h5
     exact fin3 (by rw [hdr, if_neg hp, if_neg h3', if_pos (by omega)])
    ·rename_i h5
     have h5 := of_decide_eq_false h5
     have h5' : ¬ (gbt l 0 = 128 ∨ gbt l 0 > 130) := by omega
     split
     ·rename_i h6
      have h6 := of_decide_eq_true h6
      exact fin3 (by rw [hdr, if_neg hp, if_neg h3', if_neg h5', if_pos (by omega)])
     ·rename_i h6
      have h6 := of_decide_eq_false h6
      have h6' : ¬ l.length < gbt l 0 - 127 := by omega
      split
      ·rename_i h7
       have h7 : ((gbt l 0 : Nat) : Int) = 129 := by simpa using h7
       have h7' : gbt l 0 = 129 := by omega
       refine ⟨by omega, ?_⟩
       split
       ·rename_i h8
        have h8 := of_decide_eq_true h8
        exact fin3 (by rw [hdr, if_neg hp, if_neg h3', if_neg h5', if_neg h6', if_pos h7', if_pos (by omega)])
       ·rename_i h8
        have h8 := of_decide_eq_false h8
        exact fin3 (by rw [hdr, if_neg hp, if_neg h3', if_neg h5', if_neg h6', if_pos h7', if_neg (by omega)])
      ·rename_i h7
       have h7 : ¬ ((gbt l 0 : Nat) : Int) = 129 := by simpa using h7
       have h7' : ¬ gbt l 0 = 129 := by omega
       refine ⟨by omega, by omega, ?_⟩
       split
       ·rename_i h8
        have h8 := of_decide_eq_true h8
        exact fin3 (by rw [hdr, if_neg hp, if_neg h3', if_neg h5', if_neg h6', if_neg h7', if_pos (by omega)])
       ·rename_i h8
        have h8 := of_decide_eq_false h8
        exact fin3 (by rw [hdr, if_neg hp, if_neg h3', if_neg h5', if_neg h6', if_neg h7', if_neg (by omega)])
set_option maxRecDepth 100000 in
theorem m119 : Meets Tryd.prog 119 sp119 := by
 refine meets_of_owed (C := c119) ⟨tab_ok, lkS_ok ⟨m131, trivial⟩⟩ (by kernel_rfl) (by kernel_rfl : Tryd.prog.funcs[119]? = some Tryd.f119) (by kernel_rfl) (by kernel_rfl) (by kernel_rfl) _ ?_
 rintro _ ⟨l, rfl, hl, hlen⟩
 refine ⟨fun h => (by cases h), fun _ => none, ?_⟩
 show owed c119 (fun _ => none) Tryd.f119 [bs l] (.tup [itm l, i64n (itN l), i64n (itE l)])
 rw [vc119]
 have hlen' : l.length ≤ 9223372036854775807 := hlen
 rw [Int.toNat_natCast, List.take_length]
 obtain ⟨n, a, e, hh⟩ : ∃ n a e, hdr (l.drop 1) = (n, a, e) := ⟨_, _, _, rfl⟩
 obtain ⟨hn, ha, he, hae⟩ := hd_ok (okb_drop hl 1) hh
 have eN : hN (l.drop 1) = n := by rw [hN, hh]
 have eA : hA (l.drop 1) = a := by rw [hA, hh]
 have eE : hE (l.drop 1) = e := by rw [hE, hh]
 obtain ⟨e0, h0⟩ := gB hl 0
 have e1 : (1 : Int) + (a : Int) = ((1 + a : Nat) : Int) := by omega
 rw [eN, eA, eE, e0, e1, wNi (n := 1 + a) (by omega), ← Int.natCast_add, wNi (n := 1 + a + n) (by omega)]
 simp (decide := true) only [eq_self, true_and, and_true, ne_eq, not_false_eq_true, Int.toNat_natCast, List.drop_zero, List.length_take, List.length_drop]
 split
 ·rename_i h
  have h : ((l.length : Nat) : Int) = 0 := by simpa using h
  exact fin4 (fs_len (by omega))
 ·rename_i h
  have h : ¬ ((l.length : Nat) : Int) = 0 := by simpa using h
  have hp : l.length ≠ 0 := by omega
  have hld : (l.drop 1).length = l.length - 1 := List.length_drop
  refine ⟨by omega, ⟨_, rfl, okb_drop hl 1, by show (l.drop 1).length ≤ _; omega⟩, ?_⟩
  split
  ·rename_i h3
   have h3 : ¬ ((e : Nat) : Int) = 0 := by simpa using h3
   exact fin4 (fs_err hp hh (by omega))
  ·rename_i h3
   have h3 : ((e : Nat) : Int) = 0 := by simpa using h3
   obtain rfl : e = 0 := by omega
   have ha2 := hae rfl
   refine ⟨by omega, ?_⟩
   split
   ·rename_i h4
    have h4 := of_decide_eq_true h4
    exact fin4 (fs_big hp hh (by omega))
   ·rename_i h4
    have h4 := of_decide_eq_false h4
    split
    ·rename_i h5
     have h5 := of_decide_eq_true h5
     exact fin4 (fs_short hp hh (by omega) (by omega))
    ·rename_i h5
     have h5 := of_decide_eq_false h5
     have h6 : min n (l.length - (1 + a)) ≤ 4096 := by omega
     refine ⟨by omega, by omega, ?_⟩
     have hfin := fin4 (fs_ok hp hh (by omega) (by omega))
     and_intros <;> first | exact hfin | omega
theorem cut50 (l : List Int) (i n : Nat) : (l.take (i + n)).drop i = (l.drop i).take n := by
 rw [List.drop_take, show i + n - i = n by omega]
set_option maxRecDepth 100000 in
theorem m87 : Meets Tryd.prog 87 sp87 := by
 refine meets_of_owed (C := c87) ⟨tab_ok, fun f s h => by cases h⟩ (by kernel_rfl) (by kernel_rfl : Tryd.prog.funcs[87]? = some Tryd.f87) (by kernel_rfl) (by kernel_rfl) (by kernel_rfl) _ ?_
 rintro _ ⟨l, rfl, hl, hlen⟩
 refine ⟨fun h => (by cases h), fun _ => none, ?_⟩
 show owed c87 (fun _ => none) Tryd.f87 [.str l] (.tup [itm l, i64n (itN l), i64n (itE l)])
 rw [vc87]
 have hlen' : l.length ≤ 9223372036854775807 := hlen
 obtain ⟨e0, h0⟩ := gB hl 0
 obtain ⟨e1, h1⟩ := gB hl 1
 obtain ⟨e2, h2⟩ := gB hl 2
 obtain ⟨e3, h3⟩ := gB hl 3
 have hld : (l.drop 1).length = l.length - 1 := List.length_drop
 have d0 : gbt (l.drop 1) 0 = gbt l 1 := g_drop l 1 0
 have d1 : gbt (l.drop 1) 1 = gbt l 2 := g_drop l 1 1
 have d2 : gbt (l.drop 1) 2 = gbt l 3 := g_drop l 1 2
 have hdv : hdr (l.drop 1) = _ := rfl
 conv at hdv => rhs; unfold hdr
 rw [hld, d0, d1, d2] at hdv
 rw [e0, e1, e2, e3, wNi (n := gbt l 1) (by omega), wNi (n := gbt l 2) (by omega), wNi (n := gbt l 3) (by omega)]
 have w1 : IntKind.i64.wrap (((gbt l 1 : Nat) : Int) - 128) = ((gbt l 1 : Nat) : Int) - 128 := wi (by omega) (by omega)
 have w2 : IntKind.i64.wrap ((1 : Int) + (((gbt l 1 : Nat) : Int) - 128)) = (1 : Int) + (((gbt l 1 : Nat) : Int) - 128) := wi (by omega) (by omega)
 have w3 : IntKind.i64.wrap (((gbt l 2 : Nat) : Int) * 256) = ((gbt l 2 * 256 : Nat) : Int) := by rw [wi (by omega) (by omega)]; omega
 have w4 : IntKind.i64.wrap (((gbt l 2 * 256 : Nat) : Int) + ((gbt l 3 : Nat) : Int)) = ((gbt l 2 * 256 + gbt l 3 : Nat) : Int) := by rw [wi (by omega) (by omega)]; omega
 have w5 : IntKind.i64.wrap ((2 : Int) + (((gbt l 1 : Nat) : Int) - 128)) = (2 : Int) + (((gbt l 1 : Nat) : Int) - 128) := wi (by omega) (by omega)
 have w6 : IntKind.i64.wrap ((2 : Int) + 0) = ((2 : Nat) : Int) := by decide
 rw [w1, w2, w3, w4, w5, w6]
 simp (decide := true) only [eq_self, true_and, and_true, ne_eq, not_false_eq_true]
 split
 ·rename_i h
  have h := of_decide_eq_true h
  by_cases hz : l.length = 0
  ·exact fin4 (fs_len hz)
  ·rw [if_pos (by omega)] at hdv
   exact fin4 (fs_err hz hdv (by decide))
 rename_i h
 have h := of_decide_eq_false h
 have hp : l.length ≠ 0 := by omega
 rw [if_neg (by omega)] at hdv
 refine ⟨by omega, ?_⟩
 split
 ·rename_i h4
  have h4 : ((gbt l 1 : Nat) : Int) = 128 := by simpa using h4
  rw [if_neg (by omega), if_pos (by omega)] at hdv
  exact fin4 (fs_err hp hdv (by decide))
 rename_i h4
 have h4 : ¬ ((gbt l 1 : Nat) : Int) = 128 := by simpa using h4
 split
 ·rename_i h5
  have h5 := of_decide_eq_true h5
  rw [if_neg (by omega), if_pos (by omega)] at hdv
  exact fin4 (fs_err hp hdv (by decide))
 rename_i h5
 have h5 := of_decide_eq_false h5
 split
 ·rename_i h6
  have h6 := of_decide_eq_true h6
  rw [if_neg (by omega), if_neg (by omega)] at hdv
  split
  ·rename_i h7
   have h7 := of_decide_eq_true h7
   rw [if_pos (by omega)] at hdv
   exact fin4 (fs_err hp hdv (by decide))
  rename_i h7
  have h7 := of_decide_eq_false h7
  rw [if_neg (by omega)] at hdv
  refine ⟨by omega, ?_⟩
  split
  ·rename_i h8
   have h8 : ((gbt l 1 : Nat) : Int) - 128 = 2 := by simpa using h8
   have h8' : ((gbt l 1 : Nat) : Int) - 128 = ((2 : Nat) : Int) := h8
   rw [if_neg (by omega)] at hdv
   refine ⟨by omega, ?_⟩
   split
   ·rename_i h9
    have h9 := of_decide_eq_true h9
    rw [if_pos (by omega)] at hdv
    exact fin4 (fs_err hp hdv (by decide))
   rename_i h9
   have h9 := of_decide_eq_false h9
   rw [if_neg (by omega)] at hdv
   have hh := hdv
   have w7 : IntKind.i64.wrap ((2 : Int) + (((gbt l 1 : Nat) : Int) - 128) + ((gbt l 2 * 256 + gbt l 3 : Nat) : Int)) = ((1 + 3 + (gbt l 2 * 256 + gbt l 3) : Nat) : Int) := by rw [wi (by omega) (by omega)]; omega
   rw [w7, show (2 : Int) + (((gbt l 1 : Nat) : Int) - 128) = ((1 + 3 : Nat) : Int) by omega]
   simp only [Int.toNat_natCast]
   split
   ·rename_i q
    have q := of_decide_eq_true q
    exact fin4 (fs_big hp hh (by omega))
   ·rename_i q
    have q := of_decide_eq_false q
    split
    ·rename_i q2
     have q2 := of_decide_eq_true q2
     exact fin4 (fs_short hp hh (by omega) (by omega))
    ·rename_i q2
     have q2 := of_decide_eq_false q2
     have hfin := fin4 (fs_ok hp hh (by omega) (by omega))
     rw [cut50 l (1 + 3) (gbt l 2 * 256 + gbt l 3)]
     and_intros <;> first | exact hfin | omega
  ·rename_i h8
   have h8 : ¬ ((gbt l 1 : Nat) : Int) - 128 = 2 := by simpa using h8
   rw [if_pos (by omega)] at hdv
   split
   ·rename_i h9
    have h9 := of_decide_eq_true h9
    rw [if_pos (by omega)] at hdv
    exact fin4 (fs_err hp hdv (by decide))
   rename_i h9
   have h9 := of_decide_eq_false h9
   rw [if_neg (by omega)] at hdv
   have hh := hdv
   have w7 : IntKind.i64.wrap ((2 : Int) + (((gbt l 1 : Nat) : Int) - 128) + ((gbt l 2 : Nat) : Int)) = ((1 + 2 + gbt l 2 : Nat) : Int) := by rw [wi (by omega) (by omega)]; omega
   rw [w7, show (2 : Int) + (((gbt l 1 : Nat) : Int) - 128) = ((1 + 2 : Nat) : Int) by omega]
   simp only [Int.toNat_natCast]
   split
   ·rename_i q
    have q := of_decide_eq_true q
    exact fin4 (fs_big hp hh (by omega))
   ·rename_i q
    have q := of_decide_eq_false q
    split
    ·rename_i q2
     have q2 := of_decide_eq_true q2
     exact fin4 (fs_short hp hh (by omega) (by omega))
    ·rename_i q2
     have q2 := of_decide_eq_false q2
     have hfin := fin4 (fs_ok hp hh (by omega) (by omega))
     rw [cut50 l (1 + 2) (gbt l 2)]
     and_intros <;> first | exact hfin | omega
 rename_i h6
 have h6 := of_decide_eq_false h6
 rw [if_pos (by omega)] at hdv
 have hh := hdv
 have w7 : IntKind.i64.wrap (((2 : Nat) : Int) + ((gbt l 1 : Nat) : Int)) = ((1 + 1 + gbt l 1 : Nat) : Int) := by rw [wi (by omega) (by omega)]; omega
 rw [w7, show ((2 : Nat) : Int) = ((1 + 1 : Nat) : Int) from rfl]
 simp only [Int.toNat_natCast]
 split
 ·rename_i q
  have q := of_decide_eq_true q
  exact fin4 (fs_big hp hh (by omega))
 ·rename_i q
  have q := of_decide_eq_false q
  split
  ·rename_i q2
   have q2 := of_decide_eq_true q2
   exact fin4 (fs_short hp hh (by omega) (by omega))
  ·rename_i q2
   have q2 := of_decide_eq_false q2
   have hfin := fin4 (fs_ok hp hh (by omega) (by omega))
   rw [cut50 l (1 + 1) (gbt l 1)]
   and_intros <;> first | exact hfin | omega
end Go.Proofs.YtkicjckhkefnpaaDoor
namespace Go.Proofs.YtkicjckhkefnpaaDoor
open Go Go.Vg
theorem fst_ok {l : List Int} (h : okb l) : itT l < 256 ∧ okb (itB l) ∧ (itB l).length ≤ 4096 ∧ itN l ≤ l.length := by
 unfold itT itB itN
 have nil : okb [] := fun x hx => by cases hx
 by_cases hp : l.length = 0
 ·rw [fs_len hp]
  exact ⟨by show 0 < 256; decide, nil, Nat.zero_le _, Nat.zero_le _⟩
 obtain ⟨n, a, e, hh⟩ : ∃ n a e, hdr (l.drop 1) = (n, a, e) := ⟨_, _, _, rfl⟩
 by_cases he : e = 0
 ·subst he
  by_cases hn : n > 4096
  ·rw [fs_big hp hh hn]
   exact ⟨by show 0 < 256; decide, nil, Nat.zero_le _, Nat.zero_le _⟩
  ·by_cases hs : n + (1 + a) > l.length
   ·rw [fs_short hp hh hn hs]
    exact ⟨by show 0 < 256; decide, nil, Nat.zero_le _, Nat.zero_le _⟩
   ·rw [fs_ok hp hh hn hs]
    refine ⟨(gB h 0).2, okb_take (okb_drop h _) _, ?_, ?_⟩
    ·show (List.take n (List.drop (1 + a) l)).length ≤ 4096
     rw [List.length_take, List.length_drop]
     omega
    ·show 1 + a + n ≤ l.length
     omega
 ·rw [fs_err hp hh he]
  exact ⟨by show 0 < 256; decide, nil, Nat.zero_le _, Nat.zero_le _⟩
end Go.Proofs.YtkicjckhkefnpaaDoor
namespace Go.Proofs.YtkicjckhkefnpaaDoor
open Go Go.Vg
abbrev It := Int × List Int
def itD (x : It) : D := .st [u8 x.1, bys x.2]
def itOf : D → It
 | .st [.val (.int _ t), .ints _ b] => (t, b)
 | _ => (0, [])
def itsD (L : List It) : D := .slc 2 (L.map itD)
def itsOf : D → List It
 | .slc _ xs => xs.map itOf
 | _ => []
theorem itsOf_D (L : List It) : itsOf (itsD L) = L := by
 simp only [itsOf, itsD, List.map_map]
 induction L with
 | nil => rfl
 | cons x L ih => simp only [List.map_cons, ih]; rfl
def okIts (L : List It) : Prop := L.length ≤ maxLen ∧ ∀ x ∈ L, (0 ≤ x.1 ∧ x.1 < 256) ∧ isBytes x.2 ∧ x.2.length ≤ maxLen
def bigIt (x : It) : Bool := Nat.blt 4096 x.2.length
def items (L : List It) : Int := bif Nat.blt 200 L.length || L.any bigIt then 2 else 0
def itHead (x : It) : List Int :=
 if x.2.length < 128 then [x.1, x.2.length] else if x.2.length < 256 then [x.1, 129, x.2.length] else [x.1, 130, x.2.length / 256, x.2.length % 256]
def wrIts (L : List It) : List Int := L.flatMap fun x => itHead x ++ x.2
def sp120 : Go.Vg.Spec := ⟨fun ds => ∃ L, ds = [itsD L] ∧ okIts L ∧ items L = 0, fun ds => .str (wrIts (itsOf (ds.headD default))), true, [137]⟩
def wrB (L : List It) : List Int := bif Nat.blt 200 L.length || L.any bigIt then [] else wrIts L
def wrD (L : List It) : D := .tup [bys (wrB L), i64 (items L)]
def sp90 : Go.Vg.Spec := ⟨fun ds => ∃ L, ds = [itsD L] ∧ okIts L, fun ds => wrD (itsOf (ds.headD default)), false, [137]⟩
def c90 : Ctx := ⟨tab, fun _ => none, [4], []⟩
def inv120 (L : List It) : Nat → Option Inv
 | 3 => some ⟨Int, fun i => [(10, .d (i64 i)), (3, .d (.str (wrIts (L.take i.toNat))))], fun _ => [], fun s => slotN s 10, fun _ i => 0 ≤ i ∧ i ≤ L.length, fun i => (L.length - i).toNat⟩
 | _ => none
def inv90 (L : List It) : Nat → Option Inv
 | 5 => some ⟨Int, fun i => [(13, .d (i64 i)), (4, .row 4)], fun i => [(4,   .row 5 (bys (wrIts (L.take i.toNat))))], fun s => slotN s 13, fun _ i => 0 ≤ i ∧ i ≤ L.length ∧ (L.take i.toNat).any bigIt = false, fun i => (L.length - i).toNat⟩
 | _ => none
set_option maxRecDepth 100000 in
theorem vc120  (L : List It) (F : D)  :
    (owed c0 (inv120 L) Tryd.f120 [itsD L] F) = (
 True ∧ True ∧ True ∧ True ∧ True ∧ (((sm (AV.d (D.val (.int .i64 0))) ∧ AV.d (D.str (ints { data := { toList := [] } })) = AV.d (D.str (wrIts (List.take 0 L))) ∧ True) ∧ True ∧ true = true) ∧ (0 : Int) ≤ 0 ∧ (0 : Int) ≤ (↑L.length : Int)) ∧ ∀ (x : Int), (0 : Int) ≤ x ∧ x ≤ (↑L.length : Int) → true = true ∧ True ∧ match decide (x < (↑(List.map itD L).length : Int)) with
 | true => ((0 : Int) ≤ x ∧ x < (↑(List.map itD L).length : Int) ∧ 2 ≠ 0 ∧ 2 = 2 ∧ D.st [D.val (.int .u8 (numOf (fldOf ((List.map itD L).getD x.toNat (D.val (Value.bool false))) 0))), D.ints .u8 (intsOf (fldOf ((List.map itD L).getD x.toNat (D.val (Value.bool false))) 1))] = (List.map itD L).getD x.toNat (D.val (Value.bool false))) ∧ (2 ≠ 0 ∧ 2 = 2 ∧ true = true) ∧ (True ∧ 2 ≠ 0) ∧ (Sk.st [Sk.one, Sk.one] = Sk.st [Sk.one, Sk.one] ∧ 2 ≠ 0 ∧ 2 = 2 ∧ false = false) ∧ (Sk.st [Sk.one, Sk.one] = Sk.st [Sk.one, Sk.one] ∧ 1 < 2) ∧ (1 ≠ 0 ∧ 1 = 1 ∧ false = false) ∧ True ∧ True ∧ (Sk.st [Sk.one, Sk.one] = Sk.st [Sk.one, Sk.one] ∧ 0 < 2) ∧ (1 ≠ 0 ∧ 1 = 1 ∧ false = false) ∧ True ∧ True ∧ (1 = 1 ∧ 2 ≤ 4096) ∧ True ∧ True ∧ True ∧ match decide ((↑(intsOf (fldOf ((List.map itD L).getD x.toNat (D.val (Value.bool false))) 1)).length : Int) ≥ (256 : Int)) with
  | true => (Sk.st [Sk.one, Sk.one] = Sk.st [Sk.one, Sk.one] ∧ 0 < 2) ∧ (1 ≠ 0 ∧ 1 = 1 ∧ false = false) ∧ True ∧ (256 : Int) ≠ 0 ∧ True ∧ True ∧ (256 : Int) ≠ 0 ∧ True ∧ (1 = 1 ∧ 4 ≤ 4096) ∧ True ∧ True ∧ True ∧ isBytes [numOf (fldOf ((List.map itD L).getD x.toNat (D.val (Value.bool false))) 0), (130 : Int), IntKind.u8.wrap (IntKind.i64.wrap ((↑(intsOf (fldOf ((List.map itD L).getD x.toNat (D.val (Value.bool false))) 1)).length : Int).tdiv (256 : Int))), IntKind.u8.wrap ((↑(intsOf (fldOf ((List.map itD L).getD x.toNat (D.val (Value.bool false))) 1)).length : Int).tmod (256 : Int))] ∧ (Sk.st [Sk.one, Sk.one] = Sk.st [Sk.one, Sk.one] ∧ 1 < 2) ∧ (1 ≠ 0 ∧ 1 = 1 ∧ false = false) ∧ isBytes (intsOf (fldOf ((List.map itD L).getD x.toNat (D.val (Value.bool false))) 1)) ∧ (↑(4 + (intsOf (fldOf ((List.map itD L).getD x.toNat (D.val (Value.bool false))) 1)).length) : Int) ≤ (9223372036854775807 : Int) ∧ (↑((wrIts (List.take x.toNat L)).length + (numOf (fldOf ((List.map itD L).getD x.toNat (D.val (Value.bool false))) 0) :: (130 : Int) :: IntKind.u8.wrap (IntKind.i64.wrap ((↑(intsOf (fldOf ((List.map itD L).getD x.toNat (D.val (Value.bool false))) 1)).length : Int).tdiv (256 : Int))) :: IntKind.u8.wrap ((↑(intsOf (fldOf ((List.map itD L).getD x.toNat (D.val (Value.bool false))) 1)).length : Int).tmod (256 : Int)) :: intsOf (fldOf ((List.map itD L).getD x.toNat (D.val (Value.bool false))) 1)).length) : Int) ≤ (9223372036854775807 : Int) ∧ True ∧ True ∧ True ∧ ((sm (AV.d (D.val (.int .i64 (IntKind.i64.wrap (x + (1 : Int)))))) ∧ AV.d (D.str (wrIts (List.take x.toNat L) ++ numOf (fldOf ((List.map itD L).getD x.toNat (D.val (Value.bool false))) 0) :: (130 : Int) :: IntKind.u8.wrap (IntKind.i64.wrap ((↑(intsOf (fldOf ((List.map itD L).getD x.toNat (D.val (Value.bool false))) 1)).length : Int).tdiv (256 : Int))) :: IntKind.u8.wrap ((↑(intsOf (fldOf ((List.map itD L).getD x.toNat (D.val (Value.bool false))) 1)).length : Int).tmod (256 : Int)) :: intsOf (fldOf ((List.map itD L).getD x.toNat (D.val (Value.bool false))) 1))) = AV.d (D.str (wrIts (List.take (IntKind.i64.wrap (x + (1 : Int))).toNat L))) ∧ True) ∧ True ∧ true = true) ∧ ((0 : Int) ≤ IntKind.i64.wrap (x + (1 : Int)) ∧ IntKind.i64.wrap (x + (1 : Int)) ≤ (↑L.length : Int)) ∧ ((↑L.length : Int) - IntKind.i64.wrap (x + (1 : Int))).toNat < ((↑L.length : Int) - x).toNat
  | false => True ∧ True ∧ match decide ((↑(intsOf (fldOf ((List.map itD L).getD x.toNat (D.val (Value.bool false))) 1)).length : Int) ≥ (128 : Int)) with
   | true => (Sk.st [Sk.one, Sk.one] = Sk.st [Sk.one, Sk.one] ∧ 0 < 2) ∧ (1 ≠ 0 ∧ 1 = 1 ∧ false = false) ∧ True ∧ True ∧ (1 = 1 ∧ 3 ≤ 4096) ∧ True ∧ True ∧ True ∧ isBytes [numOf (fldOf ((List.map itD L).getD x.toNat (D.val (Value.bool false))) 0), (129 : Int), IntKind.u8.wrap (↑(intsOf (fldOf ((List.map itD L).getD x.toNat (D.val (Value.bool false))) 1)).length : Int)] ∧ (Sk.st [Sk.one, Sk.one] = Sk.st [Sk.one, Sk.one] ∧ 1 < 2) ∧ (1 ≠ 0 ∧ 1 = 1 ∧ false = false) ∧ isBytes (intsOf (fldOf ((List.map itD L).getD x.toNat (D.val (Value.bool false))) 1)) ∧ (↑(3 + (intsOf (fldOf ((List.map itD L).getD x.toNat (D.val (Value.bool false))) 1)).length) : Int) ≤ (9223372036854775807 : Int) ∧ (↑((wrIts (List.take x.toNat L)).length + (numOf (fldOf ((List.map itD L).getD x.toNat (D.val (Value.bool false))) 0) :: (129 : Int) :: IntKind.u8.wrap (↑(intsOf (fldOf ((List.map itD L).getD x.toNat (D.val (Value.bool false))) 1)).length : Int) :: intsOf (fldOf ((List.map itD L).getD x.toNat (D.val (Value.bool false))) 1)).length) : Int) ≤ (9223372036854775807 : Int) ∧ True ∧ True ∧ True ∧ ((sm (AV.d (D.val (.int .i64 (IntKind.i64.wrap (x + (1 : Int)))))) ∧ AV.d (D.str (wrIts (List.take x.toNat L) ++ numOf (fldOf ((List.map itD L).getD x.toNat (D.val (Value.bool false))) 0) :: (129 : Int) :: IntKind.u8.wrap (↑(intsOf (fldOf ((List.map itD L).getD x.toNat (D.val (Value.bool false))) 1)).length : Int) :: intsOf (fldOf ((List.map itD L).getD x.toNat (D.val (Value.bool false))) 1))) = AV.d (D.str (wrIts (List.take (IntKind.i64.wrap (x + (1 : Int))).toNat L))) ∧ True) ∧ True ∧ true = true) ∧ ((0 : Int) ≤ IntKind.i64.wrap (x + (1 : Int)) ∧ IntKind.i64.wrap (x + (1 : Int)) ≤ (↑L.length : Int)) ∧ ((↑L.length : Int) - IntKind.i64.wrap (x + (1 : Int))).toNat < ((↑L.length : Int) - x).toNat
   | false => True ∧ True ∧ isBytes [numOf (fldOf ((List.map itD L).getD x.toNat (D.val (Value.bool false))) 0), IntKind.u8.wrap (↑(intsOf (fldOf ((List.map itD L).getD x.toNat (D.val (Value.bool false))) 1)).length : Int)] ∧ (Sk.st [Sk.one, Sk.one] = Sk.st [Sk.one, Sk.one] ∧ 1 < 2) ∧ (1 ≠ 0 ∧ 1 = 1 ∧ false = false) ∧ isBytes (intsOf (fldOf ((List.map itD L).getD x.toNat (D.val (Value.bool false))) 1)) ∧ (↑(2 + (intsOf (fldOf ((List.map itD L).getD x.toNat (D.val (Value.bool false))) 1)).length) : Int) ≤ (9223372036854775807 : Int) ∧ (↑((wrIts (List.take x.toNat L)).length + (numOf (fldOf ((List.map itD L).getD x.toNat (D.val (Value.bool false))) 0) :: IntKind.u8.wrap (↑(intsOf (fldOf ((List.map itD L).getD x.toNat (D.val (Value.bool false))) 1)).length : Int) :: intsOf (fldOf ((List.map itD L).getD x.toNat (D.val (Value.bool false))) 1)).length) : Int) ≤ (9223372036854775807 : Int) ∧ True ∧ True ∧ True ∧ ((sm (AV.d (D.val (.int .i64 (IntKind.i64.wrap (x + (1 : Int)))))) ∧ AV.d (D.str (wrIts (List.take x.toNat L) ++ numOf (fldOf ((List.map itD L).getD x.toNat (D.val (Value.bool false))) 0) :: IntKind.u8.wrap (↑(intsOf (fldOf ((List.map itD L).getD x.toNat (D.val (Value.bool false))) 1)).length : Int) :: intsOf (fldOf ((List.map itD L).getD x.toNat (D.val (Value.bool false))) 1))) = AV.d (D.str (wrIts (List.take (IntKind.i64.wrap (x + (1 : Int))).toNat L))) ∧ True) ∧ True ∧ true = true) ∧ ((0 : Int) ≤ IntKind.i64.wrap (x + (1 : Int)) ∧ IntKind.i64.wrap (x + (1 : Int)) ≤ (↑L.length : Int)) ∧ ((↑L.length : Int) - IntKind.i64.wrap (x + (1 : Int))).toNat < ((↑L.length : Int) - x).toNat
 | false => True ∧ True ∧ (false = false ∧ True) ∧ D.str (wrIts (List.take x.toNat L)) = F) := by kernel_rfl
set_option maxRecDepth 100000 in
theorem vc90  (L : List It) (F : D)  :
    (owed c90 (inv90 L) Tryd.f90 [itsD L] F) = (
 True ∧ True ∧ True ∧ True ∧ True ∧ match decide ((↑(List.map itD L).length : Int) > (200 : Int)) with
 | true => True ∧ True ∧ (false = false ∧ false = false ∧ True) ∧ D.tup [D.ints .u8 [], D.val (.int .i64 2)] = F
 | false => 1 ≠ 0 ∧ True ∧ True ∧ True ∧ (((sm (AV.d (D.val (.int .i64 0))) ∧ sm (AV.row 4) ∧ True) ∧ (some (Blk.row (5 : TypeId) (D.ints .u8 [])) = some (Blk.row (5 : TypeId) (D.ints .u8 (wrIts (List.take 0 L)))) ∧ True) ∧ true = true) ∧ (0 : Int) ≤ 0 ∧ (0 : Int) ≤ (↑L.length : Int) ∧ (List.take 0 L).any bigIt = false) ∧ ∀ (x : Int), (0 : Int) ≤ x ∧ x ≤ (↑L.length : Int) ∧ (List.take x.toNat L).any bigIt = false → true = true ∧ True ∧ match decide (x < (↑(List.map itD L).length : Int)) with
  | true => ((0 : Int) ≤ x ∧ x < (↑(List.map itD L).length : Int) ∧ 2 ≠ 0 ∧ 2 = 2 ∧ D.st [D.val (.int .u8 (numOf (fldOf ((List.map itD L).getD x.toNat (D.val (Value.bool false))) 0))), D.ints .u8 (intsOf (fldOf ((List.map itD L).getD x.toNat (D.val (Value.bool false))) 1))] = (List.map itD L).getD x.toNat (D.val (Value.bool false))) ∧ (2 ≠ 0 ∧ 2 = 2 ∧ true = true) ∧ (True ∧ 2 ≠ 0) ∧ (Sk.st [Sk.one, Sk.one] = Sk.st [Sk.one, Sk.one] ∧ 2 ≠ 0 ∧ 2 = 2 ∧ false = false) ∧ (Sk.st [Sk.one, Sk.one] = Sk.st [Sk.one, Sk.one] ∧ 1 < 2) ∧ (1 ≠ 0 ∧ 1 = 1 ∧ false = false) ∧ True ∧ True ∧ True ∧ True ∧ True ∧ match decide ((↑(intsOf (fldOf ((List.map itD L).getD x.toNat (D.val (Value.bool false))) 1)).length : Int) > (4096 : Int)) with
   | true => True ∧ True ∧ (false = false ∧ false = false ∧ True) ∧ D.tup [D.ints .u8 [], D.val (.int .i64 2)] = F
   | false => True ∧ True ∧ True ∧ match decide ((↑(intsOf (fldOf ((List.map itD L).getD x.toNat (D.val (Value.bool false))) 1)).length : Int) < (128 : Int)) with
    | true => True ∧ (Sk.st [Sk.one, Sk.one] = Sk.st [Sk.one, Sk.one] ∧ 0 < 2) ∧ (1 ≠ 0 ∧ 1 = 1 ∧ false = false) ∧ True ∧ True ∧ (1 = 1 ∧ 2 ≤ 4096) ∧ ((5 : TypeId) = (5 : TypeId) ∧ 26 = 26 ∧ true = true ∧ (wrIts (List.take x.toNat L) ++ [numOf (fldOf ((List.map itD L).getD x.toNat (D.val (Value.bool false))) 0), IntKind.u8.wrap (↑(intsOf (fldOf ((List.map itD L).getD x.toNat (D.val (Value.bool false))) 1)).length : Int)]).length ≤ 140737488355328 ∧ (wrIts (List.take x.toNat L) ++ [numOf (fldOf ((List.map itD L).getD x.toNat (D.val (Value.bool false))) 0), IntKind.u8.wrap (↑(intsOf (fldOf ((List.map itD L).getD x.toNat (D.val (Value.bool false))) 1)).length : Int)]).length * 1 ≤ 140737488355328 ∧ 1 ≠ 0 ∧ 1 = 1) ∧ True ∧ True ∧ (Sk.st [Sk.one, Sk.one] = Sk.st [Sk.one, Sk.one] ∧ 1 < 2) ∧ (1 ≠ 0 ∧ 1 = 1 ∧ false = false) ∧ ((5 : TypeId) = (5 : TypeId) ∧ 26 = 26 ∧ true = true ∧ (wrIts (List.take x.toNat L) ++ [numOf (fldOf ((List.map itD L).getD x.toNat (D.val (Value.bool false))) 0), IntKind.u8.wrap (↑(intsOf (fldOf ((List.map itD L).getD x.toNat (D.val (Value.bool false))) 1)).length : Int)] ++ intsOf (fldOf ((List.map itD L).getD x.toNat (D.val (Value.bool false))) 1)).length ≤ 140737488355328 ∧ (wrIts (List.take x.toNat L) ++ [numOf (fldOf ((List.map itD L).getD x.toNat (D.val (Value.bool false))) 0), IntKind.u8.wrap (↑(intsOf (fldOf ((List.map itD L).getD x.toNat (D.val (Value.bool false))) 1)).length : Int)] ++ intsOf (fldOf ((List.map itD L).getD x.toNat (D.val (Value.bool false))) 1)).length * 1 ≤ 140737488355328 ∧ 1 ≠ 0 ∧ 1 = 1) ∧ True ∧ True ∧ True ∧ ((sm (AV.d (D.val (.int .i64 (IntKind.i64.wrap (x + (1 : Int)))))) ∧ sm (AV.row 4) ∧ True) ∧ (some (Blk.row (5 : TypeId) (D.ints .u8 (wrIts (List.take x.toNat L) ++ [numOf (fldOf ((List.map itD L).getD x.toNat (D.val (Value.bool false))) 0), IntKind.u8.wrap (↑(intsOf (fldOf ((List.map itD L).getD x.toNat (D.val (Value.bool false))) 1)).length : Int)] ++ intsOf (fldOf ((List.map itD L).getD x.toNat (D.val (Value.bool false))) 1)))) = some (Blk.row (5 : TypeId) (D.ints .u8 (wrIts (List.take (IntKind.i64.wrap (x + (1 : Int))).toNat L)))) ∧ True) ∧ true = true) ∧ ((0 : Int) ≤ IntKind.i64.wrap (x + (1 : Int)) ∧ IntKind.i64.wrap (x + (1 : Int)) ≤ (↑L.length : Int) ∧ (List.take (IntKind.i64.wrap (x + (1 : Int))).toNat L).any bigIt = false) ∧ ((↑L.length : Int) - IntKind.i64.wrap (x + (1 : Int))).toNat < ((↑L.length : Int) - x).toNat
    | false => True ∧ True ∧ True ∧ match decide ((↑(intsOf (fldOf ((List.map itD L).getD x.toNat (D.val (Value.bool false))) 1)).length : Int) < (256 : Int)) with
     | true => True ∧ (Sk.st [Sk.one, Sk.one] = Sk.st [Sk.one, Sk.one] ∧ 0 < 2) ∧ (1 ≠ 0 ∧ 1 = 1 ∧ false = false) ∧ True ∧ True ∧ (1 = 1 ∧ 3 ≤ 4096) ∧ ((5 : TypeId) = (5 : TypeId) ∧ 26 = 26 ∧ true = true ∧ (wrIts (List.take x.toNat L) ++ [numOf (fldOf ((List.map itD L).getD x.toNat (D.val (Value.bool false))) 0), (129 : Int), IntKind.u8.wrap (↑(intsOf (fldOf ((List.map itD L).getD x.toNat (D.val (Value.bool false))) 1)).length : Int)]).length ≤ 140737488355328 ∧ (wrIts (List.take x.toNat L) ++ [numOf (fldOf ((List.map itD L).getD x.toNat (D.val (Value.bool false))) 0), (129 : Int), IntKind.u8.wrap (↑(intsOf (fldOf ((List.map itD L).getD x.toNat (D.val (Value.bool false))) 1)).length : Int)]).length * 1 ≤ 140737488355328 ∧ 1 ≠ 0 ∧ 1 = 1) ∧ True ∧ True ∧ (Sk.st [Sk.one, Sk.one] = Sk.st [Sk.one, Sk.one] ∧ 1 < 2) ∧ (1 ≠ 0 ∧ 1 = 1 ∧ false = false) ∧ ((5 : TypeId) = (5 : TypeId) ∧ 26 = 26 ∧ true = true ∧ (wrIts (List.take x.toNat L) ++ [numOf (fldOf ((List.map itD L).getD x.toNat (D.val (Value.bool false))) 0), (129 : Int), IntKind.u8.wrap (↑(intsOf (fldOf ((List.map itD L).getD x.toNat (D.val (Value.bool false))) 1)).length : Int)] ++ intsOf (fldOf ((List.map itD L).getD x.toNat (D.val (Value.bool false))) 1)).length ≤ 140737488355328 ∧ (wrIts (List.take x.toNat L) ++ [numOf (fldOf ((List.map itD L).getD x.toNat (D.val (Value.bool false))) 0), (129 : Int), IntKind.u8.wrap (↑(intsOf (fldOf ((List.map itD L).getD x.toNat (D.val (Value.bool false))) 1)).length : Int)] ++ intsOf (fldOf ((List.map itD L).getD x.toNat (D.val (Value.bool false))) 1)).length * 1 ≤ 140737488355328 ∧ 1 ≠ 0 ∧ 1 = 1) ∧ True ∧ True ∧ True ∧ ((sm (AV.d (D.val (.int .i64 (IntKind.i64.wrap (x + (1 : Int)))))) ∧ sm (AV.row 4) ∧ True) ∧ (some (Blk.row (5 : TypeId) (D.ints .u8 (wrIts (List.take x.toNat L) ++ [numOf (fldOf ((List.map itD L).getD x.toNat (D.val (Value.bool false))) 0), (129 : Int), IntKind.u8.wrap (↑(intsOf (fldOf ((List.map itD L).getD x.toNat (D.val (Value.bool false))) 1)).length : Int)] ++ intsOf (fldOf ((List.map itD L).getD x.toNat (D.val (Value.bool false))) 1)))) = some (Blk.row (5 : TypeId) (D.ints .u8 (wrIts (List.take (IntKind.i64.wrap (x + (1 : Int))).toNat L)))) ∧ True) ∧ true = true) ∧ ((0 : Int) ≤ IntKind.i64.wrap (x + (1 : Int)) ∧ IntKind.i64.wrap (x + (1 : Int)) ≤ (↑L.length : Int) ∧ (List.take (IntKind.i64.wrap (x + (1 : Int))).toNat L).any bigIt = false) ∧ ((↑L.length : Int) - IntKind.i64.wrap (x + (1 : Int))).toNat < ((↑L.length : Int) - x).toNat
     | false => True ∧ (Sk.st [Sk.one, Sk.one] = Sk.st [Sk.one, Sk.one] ∧ 0 < 2) ∧ (1 ≠ 0 ∧ 1 = 1 ∧ false = false) ∧ True ∧ (0 : Int) ≤ 8 ∧ True ∧ True ∧ True ∧ (1 = 1 ∧ 4 ≤ 4096) ∧ ((5 : TypeId) = (5 : TypeId) ∧ 26 = 26 ∧ true = true ∧ (wrIts (List.take x.toNat L) ++ [numOf (fldOf ((List.map itD L).getD x.toNat (D.val (Value.bool false))) 0), (130 : Int), IntKind.u8.wrap (ishr IntKind.i64 (↑(intsOf (fldOf ((List.map itD L).getD x.toNat (D.val (Value.bool false))) 1)).length : Int) (8 : Int)), IntKind.u8.wrap (↑(intsOf (fldOf ((List.map itD L).getD x.toNat (D.val (Value.bool false))) 1)).length : Int)]).length ≤ 140737488355328 ∧ (wrIts (List.take x.toNat L) ++ [numOf (fldOf ((List.map itD L).getD x.toNat (D.val (Value.bool false))) 0), (130 : Int), IntKind.u8.wrap (ishr IntKind.i64 (↑(intsOf (fldOf ((List.map itD L).getD x.toNat (D.val (Value.bool false))) 1)).length : Int) (8 : Int)), IntKind.u8.wrap (↑(intsOf (fldOf ((List.map itD L).getD x.toNat (D.val (Value.bool false))) 1)).length : Int)]).length * 1 ≤ 140737488355328 ∧ 1 ≠ 0 ∧ 1 = 1) ∧ True ∧ True ∧ (Sk.st [Sk.one, Sk.one] = Sk.st [Sk.one, Sk.one] ∧ 1 < 2) ∧ (1 ≠ 0 ∧ 1 = 1 ∧ false = false) ∧ ((5 : TypeId) = (5 : TypeId) ∧ 26 = 26 ∧ true = true ∧ (wrIts (List.take x.toNat L) ++ [numOf (fldOf ((List.map itD L).getD x.toNat (D.val (Value.bool false))) 0), (130 : Int), IntKind.u8.wrap (ishr IntKind.i64 (↑(intsOf (fldOf ((List.map itD L).getD x.toNat (D.val (Value.bool false))) 1)).length : Int) (8 : Int)), IntKind.u8.wrap (↑(intsOf (fldOf ((List.map itD L).getD x.toNat (D.val (Value.bool false))) 1)).length : Int)] ++ intsOf (fldOf ((List.map itD L).getD x.toNat (D.val (Value.bool false))) 1)).length ≤ 140737488355328 ∧ (wrIts (List.take x.toNat L) ++ [numOf (fldOf ((List.map itD L).getD x.toNat (D.val (Value.bool false))) 0), (130 : Int), IntKind.u8.wrap (ishr IntKind.i64 (↑(intsOf (fldOf ((List.map itD L).getD x.toNat (D.val (Value.bool false))) 1)).length : Int) (8 : Int)), IntKind.u8.wrap (↑(intsOf (fldOf ((List.map itD L).getD x.toNat (D.val (Value.bool false))) 1)).length : Int)] ++ intsOf (fldOf ((List.map itD L).getD x.toNat (D.val (Value.bool false))) 1)).length * 1 ≤ 140737488355328 ∧ 1 ≠ 0 ∧ 1 = 1) ∧ True ∧ True ∧ True ∧ ((sm (AV.d (D.val (.int .i64 (IntKind.i64.wrap (x + (1 : Int)))))) ∧ sm (AV.row 4) ∧ True) ∧ (some (Blk.row (5 : TypeId) (D.ints .u8 (wrIts (List.take x.toNat L) ++ [numOf (fldOf ((List.map itD L).getD x.toNat (D.val (Value.bool false))) 0), (130 : Int), IntKind.u8.wrap (ishr IntKind.i64 (↑(intsOf (fldOf ((List.map itD L).getD x.toNat (D.val (Value.bool false))) 1)).length : Int) (8 : Int)), IntKind.u8.wrap (↑(intsOf (fldOf ((List.map itD L).getD x.toNat (D.val (Value.bool false))) 1)).length : Int)] ++ intsOf (fldOf ((List.map itD L).getD x.toNat (D.val (Value.bool false))) 1)))) = some (Blk.row (5 : TypeId) (D.ints .u8 (wrIts (List.take (IntKind.i64.wrap (x + (1 : Int))).toNat L)))) ∧ True) ∧ true = true) ∧ ((0 : Int) ≤ IntKind.i64.wrap (x + (1 : Int)) ∧ IntKind.i64.wrap (x + (1 : Int)) ≤ (↑L.length : Int) ∧ (List.take (IntKind.i64.wrap (x + (1 : Int))).toNat L).any bigIt = false) ∧ ((↑L.length : Int) - IntKind.i64.wrap (x + (1 : Int))).toNat < ((↑L.length : Int) - x).toNat
  | false => True ∧ True ∧ True ∧ (false = false ∧ false = false ∧ True) ∧ D.tup [D.ints .u8 (wrIts (List.take x.toNat L)), D.val (.int .i64 0)] = F) := by kernel_rfl
theorem itD_t (e : It) : numOf (fldOf (itD e) 0) = e.1 := rfl
theorem itD_b (e : It) : intsOf (fldOf (itD e) 1) = e.2 := rfl
theorem itD_r (e : It) : D.st [D.val (Value.int IntKind.u8 e.1), D.ints IntKind.u8 e.2] = itD e := rfl
theorem any_push {L M : List It} {e : It} (h : L = M ++ [e]) : L.any bigIt = (M.any bigIt || bigIt e) := by
 subst h
 simp
theorem wr_push {L M : List It} {e : It} (h : L = M ++ [e]) : wrIts L = wrIts M ++ (itHead e ++ e.2) := by
 subst h
 simp [wrIts]
theorem hd_len (e : It) : (itHead e).length ≤ 4 := by
 unfold itHead
 split
 ·simp
 ·split <;> simp
theorem wr_len : ∀ (M : List It), (∀ e ∈ M, e.2.length ≤ 4096) → (wrIts M).length ≤ 4100 * M.length
 | [], _ => by simp [wrIts]
 | e :: M, h => by
  have h1 := wr_len M fun x hx => h x (List.mem_cons_of_mem _ hx)
  have h2 := h e (by simp)
  have h3 := hd_len e
  simp only [wrIts, List.flatMap_cons, List.length_append, List.length_cons] at h1 ⊢
  omega
theorem hd1 {e : It} (h : e.2.length < 128) : itHead e = [e.1, IntKind.u8.wrap (e.2.length : Int)] := by
 unfold itHead
 rw [if_pos h, w8]
 congr 2
 omega
theorem hd2 {e : It} (h0 : ¬ e.2.length < 128) (h : e.2.length < 256) : itHead e = [e.1, 129, IntKind.u8.wrap (e.2.length : Int)] := by
 unfold itHead
 rw [if_neg h0, if_pos h, w8]
 congr 3
 omega
theorem hd3 {e : It} (h0 : ¬ e.2.length < 256) (h : e.2.length ≤ 4096) : itHead e = [e.1, 130, IntKind.u8.wrap (IntKind.i64.wrap ((e.2.length : Int).tdiv 256)), IntKind.u8.wrap ((e.2.length : Int).tmod 256)] := by
 unfold itHead
 rw [if_neg (by omega), if_neg h0, w8, w8, show (256 : Int) = (256 : Nat) from rfl, tdivN, tmodN, wi (by omega) (by omega)]
 simp only [List.cons.injEq, and_true, true_and]
 omega
theorem hd4 {e : It} (h0 : ¬ e.2.length < 256) (h : e.2.length ≤ 4096) : itHead e = [e.1, 130, IntKind.u8.wrap (ishr IntKind.i64 (e.2.length : Int) 8), IntKind.u8.wrap (e.2.length : Int)] := by
 unfold itHead
 rw [if_neg (by omega), if_neg h0, w8, w8, show (8 : Int) = ((8 : Nat) : Int) from rfl, ishr_eq _ _ _ (by decide)]
 congr 4
 ·omega
theorem small_of {L : List It} (h : items L = 0) : L.length ≤ 200 ∧ ∀ e ∈ L, e.2.length ≤ 4096 := by
 unfold items at h
 cases h1 : Nat.blt 200 L.length
 ·cases h2 : L.any bigIt
  ·refine ⟨?_, fun e he => ?_⟩
   ·have : ¬ 200 < L.length := by rw [← Nat.blt_eq, h1]; simp
    omega
   ·rw [List.any_eq_false] at h2
    have := h2 e he
    simp only [bigIt, Nat.blt_eq] at this
    omega
  ·rw [h1, h2] at h; cases h
 ·rw [h1] at h; cases h
theorem bytes2 {a b : Int} (h : 0 ≤ a ∧ a < 256) : isBytes [a, IntKind.u8.wrap b] := by
 intro x hx
 simp only [List.mem_cons, List.not_mem_nil, or_false] at hx
 rcases hx with rfl | rfl
 ·exact h
 ·rw [w8]; omega
theorem bytes3 {a b : Int} (h : 0 ≤ a ∧ a < 256) : isBytes [a, 129, IntKind.u8.wrap b] := by
 intro x hx
 simp only [List.mem_cons, List.not_mem_nil, or_false] at hx
 rcases hx with rfl | rfl | rfl
 ·exact h
 ·decide
 ·rw [w8]; omega
theorem bytes4 {a b c : Int} (h : 0 ≤ a ∧ a < 256) : isBytes [a, 130, IntKind.u8.wrap b, IntKind.u8.wrap c] := by
 intro x hx
 simp only [List.mem_cons, List.not_mem_nil, or_false] at hx
 rcases hx with rfl | rfl | rfl | rfl
 ·exact h
 ·decide
 ·rw [w8]; omega
 ·rw [w8]; omega
theorem m120 : Meets Tryd.prog 120 sp120 := by
 refine meets_of_owed (C := c0) ⟨tab_ok, fun f s h => by cases h⟩ (by kernel_rfl) (by kernel_rfl : Tryd.prog.funcs[120]? = some Tryd.f120) (by kernel_rfl) (by kernel_rfl) (by kernel_rfl) _ ?_
 rintro _ ⟨L, rfl, hL, hz⟩
 refine ⟨fun _ => rfl, inv120 L, ?_⟩
 show owed c0 (inv120 L) Tryd.f120 [itsD L] (.str (wrIts (itsOf (itsD L))))
 rw [itsOf_D, vc120]
 obtain ⟨s1, s2⟩ := small_of hz
 simp (decide := true) only [eq_self, true_and, and_true, ne_eq, List.length_map, not_false_eq_true]
 refine ⟨⟨rfl, by omega⟩, fun x hx => ?_⟩
 split
 ·rename_i h1
  have h1 := of_decide_eq_true h1
  obtain ⟨e, he, e1, e2⟩ := getD_map itD L x hx.1 h1 (D.val (.bool false))
  have hlen := wr_len (L.take x.toNat) fun e' he' => s2 e' (List.mem_of_mem_take he')
  have hlen2 : (L.take x.toNat).length ≤ 200 := by rw [List.length_take]; omega
  have s3 := s2 e he
  obtain ⟨b1, b2, b3⟩ := hL.2 e he
  rw [wi (n := x + 1) (by omega) (by omega)]
  simp only [e1, itD_t, itD_b, itD_r, true_and, and_true, wr_push e2]
  refine ⟨⟨hx.1, h1⟩, ?_⟩
  split
  ·rename_i h3
   have h3 := of_decide_eq_true h3
   have hh := hd3 (e := e) (by omega) s3
   refine ⟨bytes4 b1, b2, by omega, ?_, ?_, by omega, by omega⟩
   ·simp only [List.length_cons]; omega
   ·rw [hh]; simp
  ·rename_i h3
   have h3 := of_decide_eq_false h3
   split
   ·rename_i h4
    have h4 := of_decide_eq_true h4
    have hh := hd2 (e := e) (by omega) (by omega)
    refine ⟨bytes3 b1, b2, by omega, ?_, ?_, by omega, by omega⟩
    ·simp only [List.length_cons]; omega
    ·rw [hh]; simp
   ·rename_i h4
    have h4 := of_decide_eq_false h4
    have hh := hd1 (e := e) (by omega)
    refine ⟨bytes2 b1, b2, by omega, ?_, ?_, by omega, by omega⟩
    ·simp only [List.length_cons]; omega
    ·rw [hh]; simp
 ·rename_i h1
  have h1 := of_decide_eq_false h1
  rw [List.take_of_length_le (by omega)]
set_option maxRecDepth 100000 in
theorem m90 : Meets Tryd.prog 90 sp90 := by
 refine meets_of_owed (C := c90) ⟨tab_ok, fun f s h => by cases h⟩ (by kernel_rfl) (by kernel_rfl : Tryd.prog.funcs[90]? = some Tryd.f90) (by kernel_rfl) (by kernel_rfl) (by kernel_rfl) _ ?_
 rintro _ ⟨L, rfl, hL⟩
 refine ⟨fun h => (by cases h), inv90 L, ?_⟩
 show owed c90 (inv90 L) Tryd.f90 [itsD L] (wrD (itsOf (itsD L)))
 rw [itsOf_D, vc90]
 have hm := hL.1
 simp only [maxLen] at hm
 simp (decide := true) only [eq_self, true_and, and_true, ne_eq, List.length_map, not_false_eq_true]
 have big : 200 < L.length → wrD L = .tup [bys [], i64 2] := fun h => by
  unfold wrD wrB items
  rw [show Nat.blt 200 L.length = true by rw [Nat.blt_eq]; exact h]
  rfl
 have big2 : L.any bigIt = true → wrD L = .tup [bys [], i64 2] := fun h => by
  unfold wrD wrB items
  rw [h, Bool.or_true]
  rfl
 split
 ·rename_i h
  have h := of_decide_eq_true h
  rw [big (by omega)]
 ·rename_i h
  have h := of_decide_eq_false h
  refine ⟨⟨rfl, by omega, rfl⟩, fun x hx => ?_⟩
  have hsm : ∀ e' ∈ L.take x.toNat, e'.2.length ≤ 4096 := fun e' he' => by
   have := hx.2.2
   rw [List.any_eq_false] at this
   have := this e' he'
   simp only [bigIt, Nat.blt_eq] at this
   omega
  have hlen := wr_len (L.take x.toNat) hsm
  have hlen2 : (L.take x.toNat).length ≤ 200 := by rw [List.length_take]; omega
  split
  ·rename_i h1
   have h1 := of_decide_eq_true h1
   obtain ⟨e, he, e1, e2⟩ := getD_map itD L x hx.1 h1 (D.val (.bool false))
   obtain ⟨b1, b2, b3⟩ := hL.2 e he
   rw [wi (n := x + 1) (by omega) (by omega)]
   simp only [e1, itD_t, itD_b, itD_r, true_and, and_true, wr_push e2, any_push e2]
   refine ⟨⟨hx.1, h1⟩, ?_⟩
   split
   ·rename_i h3
    have h3 := of_decide_eq_true h3
    rw [big2]
    rw [List.any_eq_true]
    exact ⟨e, he, by simp only [bigIt, Nat.blt_eq]; omega⟩
   ·rename_i h3
    have h3 := of_decide_eq_false h3
    have hne : bigIt e = false := by
     cases hb : Nat.blt 4096 e.2.length
     ·exact hb
     ·rw [Nat.blt_eq] at hb
      omega
    have hor : ((L.take x.toNat).any bigIt || bigIt e) = false := Bool.or_eq_false_iff.2 ⟨hx.2.2, hne⟩
    split
    ·rename_i h4
     have h4 := of_decide_eq_true h4
     have hh := hd1 (e := e) (by omega)
     rw [hh]
     simp only [List.length_append, List.length_cons, List.length_nil, List.append_assoc]
     and_intros <;> first | omega | exact hor | trivial | rfl
    ·rename_i h4
     have h4 := of_decide_eq_false h4
     split
     ·rename_i h5
      have h5 := of_decide_eq_true h5
      have hh := hd2 (e := e) (by omega) (by omega)
      rw [hh]
      simp only [List.length_append, List.length_cons, List.length_nil, List.append_assoc]
      and_intros <;> first | omega | exact hor | trivial | rfl
     ·rename_i h5
      have h5 := of_decide_eq_false h5
      have hh := hd4 (e := e) (by omega) (by omega)
      rw [hh]
      simp only [List.length_append, List.length_cons, List.length_nil, List.append_assoc]
      and_intros <;> first | omega | exact hor | trivial | rfl
  ·rename_i h1
   have h1 := of_decide_eq_false h1
   have hx2 := hx.2.2
   rw [List.take_of_length_le (by omega)] at hx2 ⊢
   unfold wrD wrB items
   have : Nat.blt 200 L.length = false := by
    cases hb : Nat.blt 200 L.length
    ·rfl
    ·rw [Nat.blt_eq] at hb
     omega
   rw [this, hx2]
   rfl
end Go.Proofs.YtkicjckhkefnpaaDoor
namespace Go.Proofs.YtkicjckhkefnpaaDoor
open Go Go.Vg
def isP (p : List Int) : Prop := isBytes p ∧ p.length ≤ 140737488351232
structure TS where
 last : List Int
 recs : List (List Int)
 at_ : Nat
abbrev stT (k : List Int) (s : TS) : D := .st [.ints .u8 k, .arr .u8 32 s.last, .slc 1 (s.recs.map (.ints .u8)), i64 (s.at_ : Int)]
def mkT (k : List Int) (s : TS) (rec' : List Int) : List Int := mkL k (s.last ++ rec')
def erT (k t : List Int) (s : TS) : Int :=
 if itE (t.drop s.at_) ≠ 0 then (itE (t.drop s.at_) : Nat)
 else if itT (t.drop s.at_) ≠ 1 ∨ (itB (t.drop s.at_)).length < 32 then 4
 else if mkT k s ((itB (t.drop s.at_)).drop 32) ≠ (itB (t.drop s.at_)).take 32 then 5 else 0
def nxT (k t : List Int) (s : TS) : TS := ⟨mkT k s ((itB (t.drop s.at_)).drop 32), s.recs ++ [(itB (t.drop s.at_)).drop 32], s.at_ + itN (t.drop s.at_)⟩
def goT (k t : List Int) : Nat → TS → TS × Int
 | 0, s => (s, 0)
 | f + 1, s => if s.at_ ≥ t.length then (s, 0) else if erT k t s ≠ 0 then (s, erT k t s) else goT k t f (nxT k t s)
def s0T : TS := ⟨List.replicate 32 0, [], 0⟩
def rdSt (k t : List Int) : TS := (goT k t (t.length + 1) s0T).1
def rdEr (k t : List Int) : Int := (goT k t (t.length + 1) s0T).2
def unR : D → D
 | .ref x => x
 | d => d
def lsO (d : D) : List Int := arrOf (fldOf d 1)
def kyO (d : D) : List Int := intsOf (fldOf d 0)
def sp78 : Go.Vg.Spec := ⟨fun ds => ∃ l, ds = [.ints .u8 l] ∧ isP l, fun ds => .ints .u8 (intsOf (ds.headD default)), false, [26]⟩
def sp78r : Go.Vg.Spec := ⟨fun ds => ∃ l, ds = [.ints .u8 l] ∧ isP l, fun ds => .tup [.ints .u8 (intsOf (ds.headD default))], false, [26, 8500005]⟩
def sp89 : Go.Vg.Spec := ⟨fun ds => ∃ k s p, ds = [.ref (stT k s), .ints .u8 p] ∧ isP k ∧ (isBytes s.last ∧ s.last.length = 32) ∧ isP p, fun ds => .arr .u8 32 (mkL (kyO (unR (ds.headD default))) (lsO (unR (ds.headD default)) ++ intsOf (ds.getD 1 default))), true, [127, 26]⟩
def sp86 : Go.Vg.Spec := ⟨fun ds => ∃ k t, ds = [stT k s0T, .ints .u8 t] ∧ isP k ∧ isP t, fun ds => .tup [i64 (rdEr (kyO (ds.headD default)) (intsOf (ds.getD 1 default))), stT (kyO (ds.headD default)) (rdSt (kyO (ds.headD default)) (intsOf (ds.getD 1 default)))], false, [9100200026, 26]⟩
def c78 : Ctx := ⟨tab, fun _ => none, [5], []⟩
def c89 : Ctx := ⟨tab, lkS [(82, sp82), (83, sp83), (84, sp84)], [], []⟩
noncomputable def c86 : Ctx := ⟨tab, lkS [(119, sp119), (89, sp89), (80, sp80), (78, sp78)], [], [600000]⟩
def unI (d : D) : List Int := intsOf d
def tsO (s : St) : TS := match Go.Vg.look s.M 1000, Go.Vg.look s.M 1001 with
 | some (.lnk fs _ _), some (.row _ (.slc _ xs)) => ⟨arrOf (fs.getD 1 default), xs.map unI, (numOf (fs.getD 3 default)).toNat⟩
 | _, _ => s0T
def inv86 (k t : List Int) : Nat → Option Inv
 | 1 => some ⟨TS, fun _ => [], fun s => [(1000, .lnk [.ints .u8 k, .arr .u8 32 s.last, .slc 1 [], i64 (s.at_ : Int)] 2 (some 1001)), (1001, .row 26 (.slc 1 (s.recs.map (.ints .u8))))], tsO,
   fun _ s => (isBytes s.last ∧ s.last.length = 32) ∧ (s.at_ ≤ t.length ∧ s.recs.length * 33 ≤ s.at_) ∧ goT k t (t.length - s.at_ + 1) s = goT k t (t.length + 1) s0T, fun s => t.length - s.at_⟩
 | _ => none
set_option maxRecDepth 100000 in
theorem vc78  (l : List Int) (F : D)  :
    (owed c78 (fun _ => none) Tryd.f78 [.ints .u8 l] F) = (
 True ∧ True ∧ True ∧ (l.length = 0 → True ∧ (false = false ∧ True) ∧ D.ints .u8 [] = F) ∧ (True → (1 = 1 ∧ 0 ≤ 4096) ∧ True ∧ ((5 : TypeId) = (5 : TypeId) ∧ 26 = 26 ∧ true = true ∧ l.length ≤ 140737488355328 ∧ l.length * 1 ≤ 140737488355328 ∧ 1 ≠ 0 ∧ 1 = 1) ∧ True ∧ (false = false ∧ True) ∧ D.ints .u8 l = F)) := by kernel_rfl
set_option maxRecDepth 100000 in
theorem vc78r  (l : List Int) (F : D)  :
    (owedRw c78 (fun _ => none) Tryd.f78 5 [.ints .u8 l] F) = (
 True ∧ True ∧ True ∧ (l.length = 0 → True ∧ True ∧ true = true ∧ D.tup [D.ints .u8 []] = F) ∧ (True → (1 = 1 ∧ 0 ≤ 4096) ∧ True ∧ ((5 : TypeId) = (5 : TypeId) ∧ 26 = 26 ∧ true = true ∧ l.length ≤ 140737488355328 ∧ l.length * 1 ≤ 140737488355328 ∧ 1 ≠ 0 ∧ 1 = 1) ∧ True ∧ True ∧ (5 : TypeId) = (5 : TypeId) ∧ True ∧ D.tup [D.ints .u8 l] = F)) := by kernel_rfl
set_option maxRecDepth 100000 in
theorem vc89  (k : List Int) (s : TS) (p : List Int) (F : D)  :
    (owed c89 (fun _ => none) Tryd.f89 [.ref (stT k s), .ints .u8 p] F) = (
 (True ∧ 32 ≠ 0) ∧ True ∧ True ∧ (Sk.st [Sk.one, Sk.arr 32, Sk.one, Sk.one] = Sk.st [Sk.one, Sk.arr 32, Sk.one, Sk.one] ∧ 0 < 4) ∧ (1 ≠ 0 ∧ 1 = 1 ∧ false = false) ∧ (∃ (k_1 : List Int), [D.ints .u8 k] = [D.ints .u8 k_1] ∧ isB k_1) ∧ True ∧ True ∧ (Sk.st [Sk.one, Sk.arr 32, Sk.one, Sk.one] = Sk.st [Sk.one, Sk.arr 32, Sk.one, Sk.one] ∧ 1 < 4) ∧ ((0 : Int) ≤ 0 ∧ (0 : Int) ≤ (↑(32 : Nat) : Int) ∧ (↑(32 : Nat) : Int) ≤ (↑(32 : Nat) : Int) ∧ 32 = 32 ∧ 1 = 1) ∧ (∃ (s_1 : MS), ∃ (p : List Int), [D.st [D.st [D.arr .u32 8 (mNew k).i.h.l, D.val (.int .u64 (↑(mNew k).i.n : Int)), D.arr .u8 64 (mNew k).i.l], D.st [D.arr .u32 8 (mNew k).o.h.l, D.val (.int .u64 (↑(mNew k).o.n : Int)), D.arr .u8 64 (mNew k).o.l]], D.ints .u8 (List.drop 0 (List.take (↑(32 : Nat) : Int).toNat s.last))] = [D.st [D.st [D.arr .u32 8 s_1.i.h.l, D.val (.int .u64 (↑s_1.i.n : Int)), D.arr .u8 64 s_1.i.l], D.st [D.arr .u32 8 s_1.o.h.l, D.val (.int .u64 (↑s_1.o.n : Int)), D.arr .u8 64 s_1.o.l]], D.ints .u8 p] ∧ okM s_1 ∧ isB p) ∧ True ∧ (∃ (s_1 : MS), ∃ (p_1 : List Int), [D.st [D.st [D.arr .u32 8 (mWr (ofM (D.st [D.st [D.arr .u32 8 (mNew k).i.h.l, D.val (.int .u64 (↑(mNew k).i.n : Int)), D.arr .u8 64 (mNew k).i.l], D.st [D.arr .u32 8 (mNew k).o.h.l, D.val (.int .u64 (↑(mNew k).o.n : Int)), D.arr .u8 64 (mNew k).o.l]])) (List.drop 0 (List.take (↑(32 : Nat) : Int).toNat s.last))).i.h.l, D.val (Value.int IntKind.u64 (↑(mWr (ofM (D.st [D.st [D.arr .u32 8 (mNew k).i.h.l, D.val (.int .u64 (↑(mNew k).i.n : Int)), D.arr .u8 64 (mNew k).i.l], D.st [D.arr .u32 8 (mNew k).o.h.l, D.val (.int .u64 (↑(mNew k).o.n : Int)), D.arr .u8 64 (mNew k).o.l]])) (List.drop 0 (List.take (↑(32 : Nat) : Int).toNat s.last))).i.n : Int)), D.arr .u8 64 (mWr (ofM (D.st [D.st [D.arr .u32 8 (mNew k).i.h.l, D.val (.int .u64 (↑(mNew k).i.n : Int)), D.arr .u8 64 (mNew k).i.l], D.st [D.arr .u32 8 (mNew k).o.h.l, D.val (.int .u64 (↑(mNew k).o.n : Int)), D.arr .u8 64 (mNew k).o.l]])) (List.drop 0 (List.take (↑(32 : Nat) : Int).toNat s.last))).i.l], D.st [D.arr .u32 8 (mWr (ofM (D.st [D.st [D.arr .u32 8 (mNew k).i.h.l, D.val (.int .u64 (↑(mNew k).i.n : Int)), D.arr .u8 64 (mNew k).i.l], D.st [D.arr .u32 8 (mNew k).o.h.l, D.val (.int .u64 (↑(mNew k).o.n : Int)), D.arr .u8 64 (mNew k).o.l]])) (List.drop 0 (List.take (↑(32 : Nat) : Int).toNat s.last))).o.h.l, D.val (Value.int IntKind.u64 (↑(mWr (ofM (D.st [D.st [D.arr .u32 8 (mNew k).i.h.l, D.val (.int .u64 (↑(mNew k).i.n : Int)), D.arr .u8 64 (mNew k).i.l], D.st [D.arr .u32 8 (mNew k).o.h.l, D.val (.int .u64 (↑(mNew k).o.n : Int)), D.arr .u8 64 (mNew k).o.l]])) (List.drop 0 (List.take (↑(32 : Nat) : Int).toNat s.last))).o.n : Int)), D.arr .u8 64 (mWr (ofM (D.st [D.st [D.arr .u32 8 (mNew k).i.h.l, D.val (.int .u64 (↑(mNew k).i.n : Int)), D.arr .u8 64 (mNew k).i.l], D.st [D.arr .u32 8 (mNew k).o.h.l, D.val (.int .u64 (↑(mNew k).o.n : Int)), D.arr .u8 64 (mNew k).o.l]])) (List.drop 0 (List.take (↑(32 : Nat) : Int).toNat s.last))).o.l]], D.ints .u8 p] = [D.st [D.st [D.arr .u32 8 s_1.i.h.l, D.val (.int .u64 (↑s_1.i.n : Int)), D.arr .u8 64 s_1.i.l], D.st [D.arr .u32 8 s_1.o.h.l, D.val (.int .u64 (↑s_1.o.n : Int)), D.arr .u8 64 s_1.o.l]], D.ints .u8 p_1] ∧
 okM s_1 ∧ isB p_1) ∧ (∃ (s_1 : MS), [D.st [D.st [D.arr .u32 8 (mWr (ofM (D.st [D.st [D.arr .u32 8 (mWr (ofM (D.st [D.st [D.arr .u32 8 (mNew k).i.h.l, D.val (.int .u64 (↑(mNew k).i.n : Int)), D.arr .u8 64 (mNew k).i.l], D.st [D.arr .u32 8 (mNew k).o.h.l, D.val (.int .u64 (↑(mNew k).o.n : Int)), D.arr .u8 64 (mNew k).o.l]])) (List.drop 0 (List.take (↑(32 : Nat) : Int).toNat s.last))).i.h.l, D.val (Value.int IntKind.u64 (↑(mWr (ofM (D.st [D.st [D.arr .u32 8 (mNew k).i.h.l, D.val (.int .u64 (↑(mNew k).i.n : Int)), D.arr .u8 64 (mNew k).i.l], D.st [D.arr .u32 8 (mNew k).o.h.l, D.val (.int .u64 (↑(mNew k).o.n : Int)), D.arr .u8 64 (mNew k).o.l]])) (List.drop 0 (List.take (↑(32 : Nat) : Int).toNat s.last))).i.n : Int)), D.arr .u8 64 (mWr (ofM (D.st [D.st [D.arr .u32 8 (mNew k).i.h.l, D.val (.int .u64 (↑(mNew k).i.n : Int)), D.arr .u8 64 (mNew k).i.l], D.st [D.arr .u32 8 (mNew k).o.h.l, D.val (.int .u64 (↑(mNew k).o.n : Int)), D.arr .u8 64 (mNew k).o.l]])) (List.drop 0 (List.take (↑(32 : Nat) : Int).toNat s.last))).i.l], D.st [D.arr .u32 8 (mWr (ofM (D.st [D.st [D.arr .u32 8 (mNew k).i.h.l, D.val (.int .u64 (↑(mNew k).i.n : Int)), D.arr .u8 64 (mNew k).i.l], D.st [D.arr .u32 8 (mNew k).o.h.l, D.val (.int .u64 (↑(mNew k).o.n : Int)), D.arr .u8 64 (mNew k).o.l]])) (List.drop 0 (List.take (↑(32 : Nat) : Int).toNat s.last))).o.h.l, D.val (Value.int IntKind.u64 (↑(mWr (ofM (D.st [D.st [D.arr .u32 8 (mNew k).i.h.l, D.val (.int .u64 (↑(mNew k).i.n : Int)), D.arr .u8 64 (mNew k).i.l], D.st [D.arr .u32 8 (mNew k).o.h.l, D.val (.int .u64 (↑(mNew k).o.n : Int)), D.arr .u8 64 (mNew k).o.l]])) (List.drop 0 (List.take (↑(32 : Nat) : Int).toNat s.last))).o.n : Int)), D.arr .u8 64 (mWr (ofM (D.st [D.st [D.arr .u32 8 (mNew k).i.h.l, D.val (.int .u64 (↑(mNew k).i.n : Int)), D.arr .u8 64 (mNew k).i.l], D.st [D.arr .u32 8 (mNew k).o.h.l, D.val (.int .u64 (↑(mNew k).o.n : Int)), D.arr .u8 64 (mNew k).o.l]])) (List.drop 0 (List.take (↑(32 : Nat) : Int).toNat s.last))).o.l]])) p).i.h.l, D.val (Value.int IntKind.u64 (↑(mWr (ofM (D.st [D.st [D.arr .u32 8 (mWr (ofM (D.st [D.st [D.arr .u32 8 (mNew k).i.h.l, D.val (.int .u64 (↑(mNew k).i.n : Int)), D.arr .u8 64 (mNew k).i.l], D.st [D.arr .u32 8 (mNew k).o.h.l, D.val (.int .u64 (↑(mNew k).o.n : Int)), D.arr .u8 64 (mNew k).o.l]])) (List.drop 0 (List.take (↑(32 : Nat) : Int).toNat s.last))).i.h.l, D.val (Value.int IntKind.u64 (↑(mWr (ofM (D.st [D.st [D.arr .u32 8 (mNew k).i.h.l, D.val (.int .u64 (↑(mNew k).i.n : Int)), D.arr .u8 64 (mNew k).i.l], D.st [D.arr .u32 8 (mNew k).o.h.l, D.val (.int .u64 (↑(mNew k).o.n : Int)), D.arr .u8 64 (mNew k).o.l]])) (List.drop 0 (List.take (↑(32 : Nat) : Int).toNat s.last))).i.n : Int)), D.arr .u8 64 (mWr (ofM (D.st [D.st [D.arr .u32 8 (mNew k).i.h.l, D.val (.int .u64 (↑(mNew k).i.n : Int)), D.arr .u8 64 (mNew k).i.l], D.st [D.arr .u32 8 (mNew k).o.h.l, D.val (.int .u64 (↑(mNew k).o.n : Int)), D.arr .u8 64 (mNew k).o.l]])) (List.drop 0 (List.take (↑(32 : Nat) : Int).toNat s.last))).i.l], D.st [D.arr .u32 8
 (mWr (ofM (D.st [D.st [D.arr .u32 8 (mNew k).i.h.l, D.val (.int .u64 (↑(mNew k).i.n : Int)), D.arr .u8 64 (mNew k).i.l], D.st [D.arr .u32 8 (mNew k).o.h.l, D.val (.int .u64 (↑(mNew k).o.n : Int)), D.arr .u8 64 (mNew k).o.l]])) (List.drop 0 (List.take (↑(32 : Nat) : Int).toNat s.last))).o.h.l, D.val (Value.int IntKind.u64 (↑(mWr (ofM (D.st [D.st [D.arr .u32 8 (mNew k).i.h.l, D.val (.int .u64 (↑(mNew k).i.n : Int)), D.arr .u8 64 (mNew k).i.l], D.st [D.arr .u32 8 (mNew k).o.h.l, D.val (.int .u64 (↑(mNew k).o.n : Int)), D.arr .u8 64 (mNew k).o.l]])) (List.drop 0 (List.take (↑(32 : Nat) : Int).toNat s.last))).o.n : Int)), D.arr .u8 64 (mWr (ofM (D.st [D.st [D.arr .u32 8 (mNew k).i.h.l, D.val (.int .u64 (↑(mNew k).i.n : Int)), D.arr .u8 64 (mNew k).i.l], D.st [D.arr .u32 8 (mNew k).o.h.l, D.val (.int .u64 (↑(mNew k).o.n : Int)), D.arr .u8 64 (mNew k).o.l]])) (List.drop 0 (List.take (↑(32 : Nat) : Int).toNat s.last))).o.l]])) p).i.n : Int)), D.arr .u8 64 (mWr (ofM (D.st [D.st [D.arr .u32 8 (mWr (ofM (D.st [D.st [D.arr .u32 8 (mNew k).i.h.l, D.val (.int .u64 (↑(mNew k).i.n : Int)), D.arr .u8 64 (mNew k).i.l], D.st [D.arr .u32 8 (mNew k).o.h.l, D.val (.int .u64 (↑(mNew k).o.n : Int)), D.arr .u8 64 (mNew k).o.l]])) (List.drop 0 (List.take (↑(32 : Nat) : Int).toNat s.last))).i.h.l, D.val (Value.int IntKind.u64 (↑(mWr (ofM (D.st [D.st [D.arr .u32 8 (mNew k).i.h.l, D.val (.int .u64 (↑(mNew k).i.n : Int)), D.arr .u8 64 (mNew k).i.l], D.st [D.arr .u32 8 (mNew k).o.h.l, D.val (.int .u64 (↑(mNew k).o.n : Int)), D.arr .u8 64 (mNew k).o.l]])) (List.drop 0 (List.take (↑(32 : Nat) : Int).toNat s.last))).i.n : Int)), D.arr .u8 64 (mWr (ofM (D.st [D.st [D.arr .u32 8 (mNew k).i.h.l, D.val (.int .u64 (↑(mNew k).i.n : Int)), D.arr .u8 64 (mNew k).i.l], D.st [D.arr .u32 8 (mNew k).o.h.l, D.val (.int .u64 (↑(mNew k).o.n : Int)), D.arr .u8 64 (mNew k).o.l]])) (List.drop 0 (List.take (↑(32 : Nat) : Int).toNat s.last))).i.l], D.st [D.arr .u32 8 (mWr (ofM (D.st [D.st [D.arr .u32 8 (mNew k).i.h.l, D.val (.int .u64 (↑(mNew k).i.n : Int)), D.arr .u8 64 (mNew k).i.l], D.st [D.arr .u32 8 (mNew k).o.h.l, D.val (.int .u64 (↑(mNew k).o.n : Int)), D.arr .u8 64 (mNew k).o.l]])) (List.drop 0 (List.take (↑(32 : Nat) : Int).toNat s.last))).o.h.l, D.val (Value.int IntKind.u64 (↑(mWr (ofM (D.st [D.st [D.arr .u32 8 (mNew k).i.h.l, D.val (.int .u64 (↑(mNew k).i.n : Int)), D.arr .u8 64 (mNew k).i.l], D.st [D.arr .u32 8 (mNew k).o.h.l, D.val (.int .u64 (↑(mNew k).o.n : Int)), D.arr .u8 64 (mNew k).o.l]])) (List.drop 0 (List.take (↑(32 : Nat) : Int).toNat s.last))).o.n : Int)), D.arr .u8 64 (mWr (ofM (D.st [D.st [D.arr .u32 8 (mNew k).i.h.l, D.val (.int .u64 (↑(mNew k).i.n : Int)), D.arr .u8 64 (mNew k).i.l], D.st [D.arr .u32 8 (mNew k).o.h.l, D.val (.int .u64 (↑(mNew k).o.n : Int)), D.arr .u8 64 (mNew k).o.l]])) (List.drop 0 (List.take (↑(32 : Nat) : Int).toNat s.last))).o.l]])) p).i.l], D.st [D.arr .u32 8 (mWr (ofM (D.st [D.st [D.arr .u32 8 (mWr (ofM (D.st [D.st [D.arr .u32 8 (mNew k).i.h.l, D.val (.int .u64 (↑(mNew k).i.n : Int)), D.arr .u8 64 (mNew k).i.l], D.st [D.arr .u32 8 (mNew k).o.h.l, D.val (.int .u64 (↑(mNew k).o.n : Int)), D.arr .u8 64 (mNew k).o.l]]))
 (List.drop 0 (List.take (↑(32 : Nat) : Int).toNat s.last))).i.h.l, D.val (Value.int IntKind.u64 (↑(mWr (ofM (D.st [D.st [D.arr .u32 8 (mNew k).i.h.l, D.val (.int .u64 (↑(mNew k).i.n : Int)), D.arr .u8 64 (mNew k).i.l], D.st [D.arr .u32 8 (mNew k).o.h.l, D.val (.int .u64 (↑(mNew k).o.n : Int)), D.arr .u8 64 (mNew k).o.l]])) (List.drop 0 (List.take (↑(32 : Nat) : Int).toNat s.last))).i.n : Int)), D.arr .u8 64 (mWr (ofM (D.st [D.st [D.arr .u32 8 (mNew k).i.h.l, D.val (.int .u64 (↑(mNew k).i.n : Int)), D.arr .u8 64 (mNew k).i.l], D.st [D.arr .u32 8 (mNew k).o.h.l, D.val (.int .u64 (↑(mNew k).o.n : Int)), D.arr .u8 64 (mNew k).o.l]])) (List.drop 0 (List.take (↑(32 : Nat) : Int).toNat s.last))).i.l], D.st [D.arr .u32 8 (mWr (ofM (D.st [D.st [D.arr .u32 8 (mNew k).i.h.l, D.val (.int .u64 (↑(mNew k).i.n : Int)), D.arr .u8 64 (mNew k).i.l], D.st [D.arr .u32 8 (mNew k).o.h.l, D.val (.int .u64 (↑(mNew k).o.n : Int)), D.arr .u8 64 (mNew k).o.l]])) (List.drop 0 (List.take (↑(32 : Nat) : Int).toNat s.last))).o.h.l, D.val (Value.int IntKind.u64 (↑(mWr (ofM (D.st [D.st [D.arr .u32 8 (mNew k).i.h.l, D.val (.int .u64 (↑(mNew k).i.n : Int)), D.arr .u8 64 (mNew k).i.l], D.st [D.arr .u32 8 (mNew k).o.h.l, D.val (.int .u64 (↑(mNew k).o.n : Int)), D.arr .u8 64 (mNew k).o.l]])) (List.drop 0 (List.take (↑(32 : Nat) : Int).toNat s.last))).o.n : Int)), D.arr .u8 64 (mWr (ofM (D.st [D.st [D.arr .u32 8 (mNew k).i.h.l, D.val (.int .u64 (↑(mNew k).i.n : Int)), D.arr .u8 64 (mNew k).i.l], D.st [D.arr .u32 8 (mNew k).o.h.l, D.val (.int .u64 (↑(mNew k).o.n : Int)), D.arr .u8 64 (mNew k).o.l]])) (List.drop 0 (List.take (↑(32 : Nat) : Int).toNat s.last))).o.l]])) p).o.h.l, D.val (Value.int IntKind.u64 (↑(mWr (ofM (D.st [D.st [D.arr .u32 8 (mWr (ofM (D.st [D.st [D.arr .u32 8 (mNew k).i.h.l, D.val (.int .u64 (↑(mNew k).i.n : Int)), D.arr .u8 64 (mNew k).i.l], D.st [D.arr .u32 8 (mNew k).o.h.l, D.val (.int .u64 (↑(mNew k).o.n : Int)), D.arr .u8 64 (mNew k).o.l]])) (List.drop 0 (List.take (↑(32 : Nat) : Int).toNat s.last))).i.h.l, D.val (Value.int IntKind.u64 (↑(mWr (ofM (D.st [D.st [D.arr .u32 8 (mNew k).i.h.l, D.val (.int .u64 (↑(mNew k).i.n : Int)), D.arr .u8 64 (mNew k).i.l], D.st [D.arr .u32 8 (mNew k).o.h.l, D.val (.int .u64 (↑(mNew k).o.n : Int)), D.arr .u8 64 (mNew k).o.l]])) (List.drop 0 (List.take (↑(32 : Nat) : Int).toNat s.last))).i.n : Int)), D.arr .u8 64 (mWr (ofM (D.st [D.st [D.arr .u32 8 (mNew k).i.h.l, D.val (.int .u64 (↑(mNew k).i.n : Int)), D.arr .u8 64 (mNew k).i.l], D.st [D.arr .u32 8 (mNew k).o.h.l, D.val (.int .u64 (↑(mNew k).o.n : Int)), D.arr .u8 64 (mNew k).o.l]])) (List.drop 0 (List.take (↑(32 : Nat) : Int).toNat s.last))).i.l], D.st [D.arr .u32 8 (mWr (ofM (D.st [D.st [D.arr .u32 8 (mNew k).i.h.l, D.val (.int .u64 (↑(mNew k).i.n : Int)), D.arr .u8 64 (mNew k).i.l], D.st [D.arr .u32 8 (mNew k).o.h.l, D.val (.int .u64 (↑(mNew k).o.n : Int)), D.arr .u8 64 (mNew k).o.l]])) (List.drop 0 (List.take (↑(32 : Nat) : Int).toNat s.last))).o.h.l, D.val (Value.int IntKind.u64
 (↑(mWr (ofM (D.st [D.st [D.arr .u32 8 (mNew k).i.h.l, D.val (.int .u64 (↑(mNew k).i.n : Int)), D.arr .u8 64 (mNew k).i.l], D.st [D.arr .u32 8 (mNew k).o.h.l, D.val (.int .u64 (↑(mNew k).o.n : Int)), D.arr .u8 64 (mNew k).o.l]])) (List.drop 0 (List.take (↑(32 : Nat) : Int).toNat s.last))).o.n : Int)), D.arr .u8 64 (mWr (ofM (D.st [D.st [D.arr .u32 8 (mNew k).i.h.l, D.val (.int .u64 (↑(mNew k).i.n : Int)), D.arr .u8 64 (mNew k).i.l], D.st [D.arr .u32 8 (mNew k).o.h.l, D.val (.int .u64 (↑(mNew k).o.n : Int)), D.arr .u8 64 (mNew k).o.l]])) (List.drop 0 (List.take (↑(32 : Nat) : Int).toNat s.last))).o.l]])) p).o.n : Int)), D.arr .u8 64 (mWr (ofM (D.st [D.st [D.arr .u32 8 (mWr (ofM (D.st [D.st [D.arr .u32 8 (mNew k).i.h.l, D.val (.int .u64 (↑(mNew k).i.n : Int)), D.arr .u8 64 (mNew k).i.l], D.st [D.arr .u32 8 (mNew k).o.h.l, D.val (.int .u64 (↑(mNew k).o.n : Int)), D.arr .u8 64 (mNew k).o.l]])) (List.drop 0 (List.take (↑(32 : Nat) : Int).toNat s.last))).i.h.l, D.val (Value.int IntKind.u64 (↑(mWr (ofM (D.st [D.st [D.arr .u32 8 (mNew k).i.h.l, D.val (.int .u64 (↑(mNew k).i.n : Int)), D.arr .u8 64 (mNew k).i.l], D.st [D.arr .u32 8 (mNew k).o.h.l, D.val (.int .u64 (↑(mNew k).o.n : Int)), D.arr .u8 64 (mNew k).o.l]])) (List.drop 0 (List.take (↑(32 : Nat) : Int).toNat s.last))).i.n : Int)), D.arr .u8 64 (mWr (ofM (D.st [D.st [D.arr .u32 8 (mNew k).i.h.l, D.val (.int .u64 (↑(mNew k).i.n : Int)), D.arr .u8 64 (mNew k).i.l], D.st [D.arr .u32 8 (mNew k).o.h.l, D.val (.int .u64 (↑(mNew k).o.n : Int)), D.arr .u8 64 (mNew k).o.l]])) (List.drop 0 (List.take (↑(32 : Nat) : Int).toNat s.last))).i.l], D.st [D.arr .u32 8 (mWr (ofM (D.st [D.st [D.arr .u32 8 (mNew k).i.h.l, D.val (.int .u64 (↑(mNew k).i.n : Int)), D.arr .u8 64 (mNew k).i.l], D.st [D.arr .u32 8 (mNew k).o.h.l, D.val (.int .u64 (↑(mNew k).o.n : Int)), D.arr .u8 64 (mNew k).o.l]])) (List.drop 0 (List.take (↑(32 : Nat) : Int).toNat s.last))).o.h.l, D.val (Value.int IntKind.u64 (↑(mWr (ofM (D.st [D.st [D.arr .u32 8 (mNew k).i.h.l, D.val (.int .u64 (↑(mNew k).i.n : Int)), D.arr .u8 64 (mNew k).i.l], D.st [D.arr .u32 8 (mNew k).o.h.l, D.val (.int .u64 (↑(mNew k).o.n : Int)), D.arr .u8 64 (mNew k).o.l]])) (List.drop 0 (List.take (↑(32 : Nat) : Int).toNat s.last))).o.n : Int)), D.arr .u8 64 (mWr (ofM (D.st [D.st [D.arr .u32 8 (mNew k).i.h.l, D.val (.int .u64 (↑(mNew k).i.n : Int)), D.arr .u8 64 (mNew k).i.l], D.st [D.arr .u32 8 (mNew k).o.h.l, D.val (.int .u64 (↑(mNew k).o.n : Int)), D.arr .u8 64 (mNew k).o.l]])) (List.drop 0 (List.take (↑(32 : Nat) : Int).toNat s.last))).o.l]])) p).o.l]]] = [D.st [D.st [D.arr .u32 8 s_1.i.h.l, D.val (.int .u64 (↑s_1.i.n : Int)), D.arr .u8 64 s_1.i.l], D.st [D.arr .u32 8 s_1.o.h.l, D.val (.int .u64 (↑s_1.o.n : Int)), D.arr .u8 64 s_1.o.l]]] ∧ okM s_1) ∧ (Sk.arr 32 = Sk.arr 32 ∧ 32 ≠ 0 ∧ 32 = 32 ∧ false = false) ∧ ((32 ≠ 0 ∧ 32 = 32 ∧ true = true) ∧ True) ∧ D.arr .u8 32 (mSum (ofM (D.st [D.st [D.arr .u32 8 (mWr (ofM (D.st [D.st [D.arr .u32 8 (mWr (ofM (D.st [D.st [D.arr .u32 8 (mNew k).i.h.l, D.val (.int .u64 (↑(mNew k).i.n : Int)), D.arr .u8 64 (mNew k).i.l], D.st [D.arr .u32 8 (mNew k).o.h.l, D.val (.int .u64 (↑(mNew k).o.n : Int)), D.arr .u8 64 (mNew k).o.l]]))
 (List.drop 0 (List.take (↑(32 : Nat) : Int).toNat s.last))).i.h.l, D.val (Value.int IntKind.u64 (↑(mWr (ofM (D.st [D.st [D.arr .u32 8 (mNew k).i.h.l, D.val (.int .u64 (↑(mNew k).i.n : Int)), D.arr .u8 64 (mNew k).i.l], D.st [D.arr .u32 8 (mNew k).o.h.l, D.val (.int .u64 (↑(mNew k).o.n : Int)), D.arr .u8 64 (mNew k).o.l]])) (List.drop 0 (List.take (↑(32 : Nat) : Int).toNat s.last))).i.n : Int)), D.arr .u8 64 (mWr (ofM (D.st [D.st [D.arr .u32 8 (mNew k).i.h.l, D.val (.int .u64 (↑(mNew k).i.n : Int)), D.arr .u8 64 (mNew k).i.l], D.st [D.arr .u32 8 (mNew k).o.h.l, D.val (.int .u64 (↑(mNew k).o.n : Int)), D.arr .u8 64 (mNew k).o.l]])) (List.drop 0 (List.take (↑(32 : Nat) : Int).toNat s.last))).i.l], D.st [D.arr .u32 8 (mWr (ofM (D.st [D.st [D.arr .u32 8 (mNew k).i.h.l, D.val (.int .u64 (↑(mNew k).i.n : Int)), D.arr .u8 64 (mNew k).i.l], D.st [D.arr .u32 8 (mNew k).o.h.l, D.val (.int .u64 (↑(mNew k).o.n : Int)), D.arr .u8 64 (mNew k).o.l]])) (List.drop 0 (List.take (↑(32 : Nat) : Int).toNat s.last))).o.h.l, D.val (Value.int IntKind.u64 (↑(mWr (ofM (D.st [D.st [D.arr .u32 8 (mNew k).i.h.l, D.val (.int .u64 (↑(mNew k).i.n : Int)), D.arr .u8 64 (mNew k).i.l], D.st [D.arr .u32 8 (mNew k).o.h.l, D.val (.int .u64 (↑(mNew k).o.n : Int)), D.arr .u8 64 (mNew k).o.l]])) (List.drop 0 (List.take (↑(32 : Nat) : Int).toNat s.last))).o.n : Int)), D.arr .u8 64 (mWr (ofM (D.st [D.st [D.arr .u32 8 (mNew k).i.h.l, D.val (.int .u64 (↑(mNew k).i.n : Int)), D.arr .u8 64 (mNew k).i.l], D.st [D.arr .u32 8 (mNew k).o.h.l, D.val (.int .u64 (↑(mNew k).o.n : Int)), D.arr .u8 64 (mNew k).o.l]])) (List.drop 0 (List.take (↑(32 : Nat) : Int).toNat s.last))).o.l]])) p).i.h.l, D.val (Value.int IntKind.u64 (↑(mWr (ofM (D.st [D.st [D.arr .u32 8 (mWr (ofM (D.st [D.st [D.arr .u32 8 (mNew k).i.h.l, D.val (.int .u64 (↑(mNew k).i.n : Int)), D.arr .u8 64 (mNew k).i.l], D.st [D.arr .u32 8 (mNew k).o.h.l, D.val (.int .u64 (↑(mNew k).o.n : Int)), D.arr .u8 64 (mNew k).o.l]])) (List.drop 0 (List.take (↑(32 : Nat) : Int).toNat s.last))).i.h.l, D.val (Value.int IntKind.u64 (↑(mWr (ofM (D.st [D.st [D.arr .u32 8 (mNew k).i.h.l, D.val (.int .u64 (↑(mNew k).i.n : Int)), D.arr .u8 64 (mNew k).i.l], D.st [D.arr .u32 8 (mNew k).o.h.l, D.val (.int .u64 (↑(mNew k).o.n : Int)), D.arr .u8 64 (mNew k).o.l]])) (List.drop 0 (List.take (↑(32 : Nat) : Int).toNat s.last))).i.n : Int)), D.arr .u8 64 (mWr (ofM (D.st [D.st [D.arr .u32 8 (mNew k).i.h.l, D.val (.int .u64 (↑(mNew k).i.n : Int)), D.arr .u8 64 (mNew k).i.l], D.st [D.arr .u32 8 (mNew k).o.h.l, D.val (.int .u64 (↑(mNew k).o.n : Int)), D.arr .u8 64 (mNew k).o.l]])) (List.drop 0 (List.take (↑(32 : Nat) : Int).toNat s.last))).i.l], D.st [D.arr .u32 8 (mWr (ofM (D.st [D.st [D.arr .u32 8 (mNew k).i.h.l, D.val (.int .u64 (↑(mNew k).i.n : Int)), D.arr .u8 64 (mNew k).i.l], D.st [D.arr .u32 8 (mNew k).o.h.l, D.val (.int .u64 (↑(mNew k).o.n : Int)), D.arr .u8 64 (mNew k).o.l]])) (List.drop 0 (List.take (↑(32 : Nat) : Int).toNat s.last))).o.h.l, D.val (Value.int IntKind.u64
 (↑(mWr (ofM (D.st [D.st [D.arr .u32 8 (mNew k).i.h.l, D.val (.int .u64 (↑(mNew k).i.n : Int)), D.arr .u8 64 (mNew k).i.l], D.st [D.arr .u32 8 (mNew k).o.h.l, D.val (.int .u64 (↑(mNew k).o.n : Int)), D.arr .u8 64 (mNew k).o.l]])) (List.drop 0 (List.take (↑(32 : Nat) : Int).toNat s.last))).o.n : Int)), D.arr .u8 64 (mWr (ofM (D.st [D.st [D.arr .u32 8 (mNew k).i.h.l, D.val (.int .u64 (↑(mNew k).i.n : Int)), D.arr .u8 64 (mNew k).i.l], D.st [D.arr .u32 8 (mNew k).o.h.l, D.val (.int .u64 (↑(mNew k).o.n : Int)), D.arr .u8 64 (mNew k).o.l]])) (List.drop 0 (List.take (↑(32 : Nat) : Int).toNat s.last))).o.l]])) p).i.n : Int)), D.arr .u8 64 (mWr (ofM (D.st [D.st [D.arr .u32 8 (mWr (ofM (D.st [D.st [D.arr .u32 8 (mNew k).i.h.l, D.val (.int .u64 (↑(mNew k).i.n : Int)), D.arr .u8 64 (mNew k).i.l], D.st [D.arr .u32 8 (mNew k).o.h.l, D.val (.int .u64 (↑(mNew k).o.n : Int)), D.arr .u8 64 (mNew k).o.l]])) (List.drop 0 (List.take (↑(32 : Nat) : Int).toNat s.last))).i.h.l, D.val (Value.int IntKind.u64 (↑(mWr (ofM (D.st [D.st [D.arr .u32 8 (mNew k).i.h.l, D.val (.int .u64 (↑(mNew k).i.n : Int)), D.arr .u8 64 (mNew k).i.l], D.st [D.arr .u32 8 (mNew k).o.h.l, D.val (.int .u64 (↑(mNew k).o.n : Int)), D.arr .u8 64 (mNew k).o.l]])) (List.drop 0 (List.take (↑(32 : Nat) : Int).toNat s.last))).i.n : Int)), D.arr .u8 64 (mWr (ofM (D.st [D.st [D.arr .u32 8 (mNew k).i.h.l, D.val (.int .u64 (↑(mNew k).i.n : Int)), D.arr .u8 64 (mNew k).i.l], D.st [D.arr .u32 8 (mNew k).o.h.l, D.val (.int .u64 (↑(mNew k).o.n : Int)), D.arr .u8 64 (mNew k).o.l]])) (List.drop 0 (List.take (↑(32 : Nat) : Int).toNat s.last))).i.l], D.st [D.arr .u32 8 (mWr (ofM (D.st [D.st [D.arr .u32 8 (mNew k).i.h.l, D.val (.int .u64 (↑(mNew k).i.n : Int)), D.arr .u8 64 (mNew k).i.l], D.st [D.arr .u32 8 (mNew k).o.h.l, D.val (.int .u64 (↑(mNew k).o.n : Int)), D.arr .u8 64 (mNew k).o.l]])) (List.drop 0 (List.take (↑(32 : Nat) : Int).toNat s.last))).o.h.l, D.val (Value.int IntKind.u64 (↑(mWr (ofM (D.st [D.st [D.arr .u32 8 (mNew k).i.h.l, D.val (.int .u64 (↑(mNew k).i.n : Int)), D.arr .u8 64 (mNew k).i.l], D.st [D.arr .u32 8 (mNew k).o.h.l, D.val (.int .u64 (↑(mNew k).o.n : Int)), D.arr .u8 64 (mNew k).o.l]])) (List.drop 0 (List.take (↑(32 : Nat) : Int).toNat s.last))).o.n : Int)), D.arr .u8 64 (mWr (ofM (D.st [D.st [D.arr .u32 8 (mNew k).i.h.l, D.val (.int .u64 (↑(mNew k).i.n : Int)), D.arr .u8 64 (mNew k).i.l], D.st [D.arr .u32 8 (mNew k).o.h.l, D.val (.int .u64 (↑(mNew k).o.n : Int)), D.arr .u8 64 (mNew k).o.l]])) (List.drop 0 (List.take (↑(32 : Nat) : Int).toNat s.last))).o.l]])) p).i.l], D.st [D.arr .u32 8 (mWr (ofM (D.st [D.st [D.arr .u32 8 (mWr (ofM (D.st [D.st [D.arr .u32 8 (mNew k).i.h.l, D.val (.int .u64 (↑(mNew k).i.n : Int)), D.arr .u8 64 (mNew k).i.l], D.st [D.arr .u32 8 (mNew k).o.h.l, D.val (.int .u64 (↑(mNew k).o.n : Int)), D.arr .u8 64 (mNew k).o.l]])) (List.drop 0 (List.take (↑(32 : Nat) : Int).toNat s.last))).i.h.l, D.val (Value.int IntKind.u64 (↑(mWr (ofM (D.st [D.st [D.arr .u32 8 (mNew k).i.h.l, D.val (.int .u64 (↑(mNew k).i.n : Int)), D.arr .u8 64 (mNew k).i.l], D.st [D.arr .u32 8 (mNew k).o.h.l, D.val (.int .u64 (↑(mNew k).o.n : Int)), D.arr .u8 64 (mNew k).o.l]]))
 (List.drop 0 (List.take (↑(32 : Nat) : Int).toNat s.last))).i.n : Int)), D.arr .u8 64 (mWr (ofM (D.st [D.st [D.arr .u32 8 (mNew k).i.h.l, D.val (.int .u64 (↑(mNew k).i.n : Int)), D.arr .u8 64 (mNew k).i.l], D.st [D.arr .u32 8 (mNew k).o.h.l, D.val (.int .u64 (↑(mNew k).o.n : Int)), D.arr .u8 64 (mNew k).o.l]])) (List.drop 0 (List.take (↑(32 : Nat) : Int).toNat s.last))).i.l], D.st [D.arr .u32 8 (mWr (ofM (D.st [D.st [D.arr .u32 8 (mNew k).i.h.l, D.val (.int .u64 (↑(mNew k).i.n : Int)), D.arr .u8 64 (mNew k).i.l], D.st [D.arr .u32 8 (mNew k).o.h.l, D.val (.int .u64 (↑(mNew k).o.n : Int)), D.arr .u8 64 (mNew k).o.l]])) (List.drop 0 (List.take (↑(32 : Nat) : Int).toNat s.last))).o.h.l, D.val (Value.int IntKind.u64 (↑(mWr (ofM (D.st [D.st [D.arr .u32 8 (mNew k).i.h.l, D.val (.int .u64 (↑(mNew k).i.n : Int)), D.arr .u8 64 (mNew k).i.l], D.st [D.arr .u32 8 (mNew k).o.h.l, D.val (.int .u64 (↑(mNew k).o.n : Int)), D.arr .u8 64 (mNew k).o.l]])) (List.drop 0 (List.take (↑(32 : Nat) : Int).toNat s.last))).o.n : Int)), D.arr .u8 64 (mWr (ofM (D.st [D.st [D.arr .u32 8 (mNew k).i.h.l, D.val (.int .u64 (↑(mNew k).i.n : Int)), D.arr .u8 64 (mNew k).i.l], D.st [D.arr .u32 8 (mNew k).o.h.l, D.val (.int .u64 (↑(mNew k).o.n : Int)), D.arr .u8 64 (mNew k).o.l]])) (List.drop 0 (List.take (↑(32 : Nat) : Int).toNat s.last))).o.l]])) p).o.h.l, D.val (Value.int IntKind.u64 (↑(mWr (ofM (D.st [D.st [D.arr .u32 8 (mWr (ofM (D.st [D.st [D.arr .u32 8 (mNew k).i.h.l, D.val (.int .u64 (↑(mNew k).i.n : Int)), D.arr .u8 64 (mNew k).i.l], D.st [D.arr .u32 8 (mNew k).o.h.l, D.val (.int .u64 (↑(mNew k).o.n : Int)), D.arr .u8 64 (mNew k).o.l]])) (List.drop 0 (List.take (↑(32 : Nat) : Int).toNat s.last))).i.h.l, D.val (Value.int IntKind.u64 (↑(mWr (ofM (D.st [D.st [D.arr .u32 8 (mNew k).i.h.l, D.val (.int .u64 (↑(mNew k).i.n : Int)), D.arr .u8 64 (mNew k).i.l], D.st [D.arr .u32 8 (mNew k).o.h.l, D.val (.int .u64 (↑(mNew k).o.n : Int)), D.arr .u8 64 (mNew k).o.l]])) (List.drop 0 (List.take (↑(32 : Nat) : Int).toNat s.last))).i.n : Int)), D.arr .u8 64 (mWr (ofM (D.st [D.st [D.arr .u32 8 (mNew k).i.h.l, D.val (.int .u64 (↑(mNew k).i.n : Int)), D.arr .u8 64 (mNew k).i.l], D.st [D.arr .u32 8 (mNew k).o.h.l, D.val (.int .u64 (↑(mNew k).o.n : Int)), D.arr .u8 64 (mNew k).o.l]])) (List.drop 0 (List.take (↑(32 : Nat) : Int).toNat s.last))).i.l], D.st [D.arr .u32 8 (mWr (ofM (D.st [D.st [D.arr .u32 8 (mNew k).i.h.l, D.val (.int .u64 (↑(mNew k).i.n : Int)), D.arr .u8 64 (mNew k).i.l], D.st [D.arr .u32 8 (mNew k).o.h.l, D.val (.int .u64 (↑(mNew k).o.n : Int)), D.arr .u8 64 (mNew k).o.l]])) (List.drop 0 (List.take (↑(32 : Nat) : Int).toNat s.last))).o.h.l, D.val (Value.int IntKind.u64 (↑(mWr (ofM (D.st [D.st [D.arr .u32 8 (mNew k).i.h.l, D.val (.int .u64 (↑(mNew k).i.n : Int)), D.arr .u8 64 (mNew k).i.l], D.st [D.arr .u32 8 (mNew k).o.h.l, D.val (.int .u64 (↑(mNew k).o.n : Int)), D.arr .u8 64 (mNew k).o.l]])) (List.drop 0 (List.take (↑(32 : Nat) : Int).toNat s.last))).o.n : Int)), D.arr .u8 64 (mWr (ofM (D.st [D.st [D.arr .u32 8 (mNew k).i.h.l, D.val (.int .u64 (↑(mNew k).i.n : Int)), D.arr .u8 64 (mNew k).i.l], D.st [D.arr .u32 8 (mNew k).o.h.l, D.val (.int .u64 (↑(mNew k).o.n : Int)), D.arr .u8 64 (mNew k).o.l]]))
 (List.drop 0 (List.take (↑(32 : Nat) : Int).toNat s.last))).o.l]])) p).o.n : Int)), D.arr .u8 64 (mWr (ofM (D.st [D.st [D.arr .u32 8 (mWr (ofM (D.st [D.st [D.arr .u32 8 (mNew k).i.h.l, D.val (.int .u64 (↑(mNew k).i.n : Int)), D.arr .u8 64 (mNew k).i.l], D.st [D.arr .u32 8 (mNew k).o.h.l, D.val (.int .u64 (↑(mNew k).o.n : Int)), D.arr .u8 64 (mNew k).o.l]])) (List.drop 0 (List.take (↑(32 : Nat) : Int).toNat s.last))).i.h.l, D.val (Value.int IntKind.u64 (↑(mWr (ofM (D.st [D.st [D.arr .u32 8 (mNew k).i.h.l, D.val (.int .u64 (↑(mNew k).i.n : Int)), D.arr .u8 64 (mNew k).i.l], D.st [D.arr .u32 8 (mNew k).o.h.l, D.val (.int .u64 (↑(mNew k).o.n : Int)), D.arr .u8 64 (mNew k).o.l]])) (List.drop 0 (List.take (↑(32 : Nat) : Int).toNat s.last))).i.n : Int)), D.arr .u8 64 (mWr (ofM (D.st [D.st [D.arr .u32 8 (mNew k).i.h.l, D.val (.int .u64 (↑(mNew k).i.n : Int)), D.arr .u8 64 (mNew k).i.l], D.st [D.arr .u32 8 (mNew k).o.h.l, D.val (.int .u64 (↑(mNew k).o.n : Int)), D.arr .u8 64 (mNew k).o.l]])) (List.drop 0 (List.take (↑(32 : Nat) : Int).toNat s.last))).i.l], D.st [D.arr .u32 8 (mWr (ofM (D.st [D.st [D.arr .u32 8 (mNew k).i.h.l, D.val (.int .u64 (↑(mNew k).i.n : Int)), D.arr .u8 64 (mNew k).i.l], D.st [D.arr .u32 8 (mNew k).o.h.l, D.val (.int .u64 (↑(mNew k).o.n : Int)), D.arr .u8 64 (mNew k).o.l]])) (List.drop 0 (List.take (↑(32 : Nat) : Int).toNat s.last))).o.h.l, D.val (Value.int IntKind.u64 (↑(mWr (ofM (D.st [D.st [D.arr .u32 8 (mNew k).i.h.l, D.val (.int .u64 (↑(mNew k).i.n : Int)), D.arr .u8 64 (mNew k).i.l], D.st [D.arr .u32 8 (mNew k).o.h.l, D.val (.int .u64 (↑(mNew k).o.n : Int)), D.arr .u8 64 (mNew k).o.l]])) (List.drop 0 (List.take (↑(32 : Nat) : Int).toNat s.last))).o.n : Int)), D.arr .u8 64 (mWr (ofM (D.st [D.st [D.arr .u32 8 (mNew k).i.h.l, D.val (.int .u64 (↑(mNew k).i.n : Int)), D.arr .u8 64 (mNew k).i.l], D.st [D.arr .u32 8 (mNew k).o.h.l, D.val (.int .u64 (↑(mNew k).o.n : Int)), D.arr .u8 64 (mNew k).o.l]])) (List.drop 0 (List.take (↑(32 : Nat) : Int).toNat s.last))).o.l]])) p).o.l]]))) = F) := by kernel_rfl
set_option maxRecDepth 100000 in
theorem vc86  (k : List Int) (t : List Int) (F : D)  :
    (owedIoL c86 (inv86 k t) Tryd.f86 2 26 [.ints .u8 k, .arr .u8 32 (List.replicate 32 0), .slc 1 [], i64 0] [.ints .u8 t] F) = (
 True ∧ ((True ∧ (some (Blk.lnk [D.ints .u8 k, D.arr .u8 32 [(0 : Int), (0 : Int), (0 : Int), (0 : Int), (0 : Int), (0 : Int), (0 : Int), (0 : Int), (0 : Int), (0 : Int), (0 : Int), (0 : Int), (0 : Int), (0 : Int), (0 : Int), (0 : Int), (0 : Int), (0 : Int), (0 : Int), (0 : Int), (0 : Int), (0 : Int), (0 : Int), (0 : Int), (0 : Int), (0 : Int), (0 : Int), (0 : Int), (0 : Int), (0 : Int), (0 : Int), (0 : Int)], D.slc 1 [], D.val (.int .i64 0)] 2 (some 1001)) = some (Blk.lnk [D.ints .u8 k, D.arr .u8 32 [(0 : Int), (0 : Int), (0 : Int), (0 : Int), (0 : Int), (0 : Int), (0 : Int), (0 : Int), (0 : Int), (0 : Int), (0 : Int), (0 : Int), (0 : Int), (0 : Int), (0 : Int), (0 : Int), (0 : Int), (0 : Int), (0 : Int), (0 : Int), (0 : Int), (0 : Int), (0 : Int), (0 : Int), (0 : Int), (0 : Int), (0 : Int), (0 : Int), (0 : Int), (0 : Int), (0 : Int), (0 : Int)], D.slc 1 [], D.val (.int .i64 (↑(0 : Nat) : Int))] 2 (some 1001)) ∧ sm (some (Blk.row (26 : TypeId) (D.slc 1 []))) ∧ True) ∧ true = true) ∧ (isBytes [(0 : Int), (0 : Int), (0 : Int), (0 : Int), (0 : Int), (0 : Int), (0 : Int), (0 : Int), (0 : Int), (0 : Int), (0 : Int), (0 : Int), (0 : Int), (0 : Int), (0 : Int), (0 : Int), (0 : Int), (0 : Int), (0 : Int), (0 : Int), (0 : Int), (0 : Int), (0 : Int), (0 : Int), (0 : Int), (0 : Int), (0 : Int), (0 : Int), (0 : Int), (0 : Int), (0 : Int), (0 : Int)] ∧ 32 = 32) ∧ (0 ≤ t.length ∧ 0 ≤ 0) ∧ goT k t (t.length - 0 + 1) (TS.mk [(0 : Int), (0 : Int), (0 : Int), (0 : Int), (0 : Int), (0 : Int), (0 : Int), (0 : Int), (0 : Int), (0 : Int), (0 : Int), (0 : Int), (0 : Int), (0 : Int), (0 : Int), (0 : Int), (0 : Int), (0 : Int), (0 : Int), (0 : Int), (0 : Int), (0 : Int), (0 : Int), (0 : Int), (0 : Int), (0 : Int), (0 : Int), (0 : Int), (0 : Int), (0 : Int), (0 : Int), (0 : Int)] [] 0) = goT k t (t.length + 1) (TS.mk [(0 : Int), (0 : Int), (0 : Int), (0 : Int), (0 : Int), (0 : Int), (0 : Int), (0 : Int), (0 : Int), (0 : Int), (0 : Int), (0 : Int), (0 : Int), (0 : Int), (0 : Int), (0 : Int), (0 : Int), (0 : Int), (0 : Int), (0 : Int), (0 : Int), (0 : Int), (0 : Int), (0 : Int), (0 : Int), (0 : Int), (0 : Int), (0 : Int), (0 : Int), (0 : Int), (0 : Int), (0 : Int)] [] 0)) ∧ ∀ (x : TS), (isBytes x.last ∧ x.last.length = 32) ∧ (x.at_ ≤ t.length ∧ x.recs.length * 33 ≤ x.at_) ∧ goT k t (t.length - x.at_ + 1) x = goT k t (t.length + 1) (TS.mk [(0 : Int), (0 : Int), (0 : Int), (0 : Int), (0 : Int), (0 : Int), (0 : Int), (0 : Int), (0 : Int), (0 : Int), (0 : Int), (0 : Int), (0 : Int), (0 : Int), (0 : Int), (0 : Int), (0 : Int), (0 : Int), (0 : Int), (0 : Int), (0 : Int), (0 : Int), (0 : Int), (0 : Int), (0 : Int), (0 : Int), (0 : Int), (0 : Int), (0 : Int), (0 : Int), (0 : Int), (0 : Int)] [] 0) → true = true ∧ true = true ∧ True ∧ (Sk.st [Sk.one, Sk.arr 32, Sk.one, Sk.one] = Sk.st [Sk.one, Sk.arr 32, Sk.one, Sk.one] ∧ 3 < 4) ∧ (1 ≠ 0 ∧ 1 = 1 ∧ false = false) ∧ True ∧ True ∧ True ∧ match decide ((↑x.at_ : Int) < (↑t.length : Int)) with
 | true => True ∧ true = true ∧ True ∧ (Sk.st [Sk.one, Sk.arr 32, Sk.one, Sk.one] = Sk.st [Sk.one, Sk.arr 32, Sk.one, Sk.one] ∧ 3 < 4) ∧ (1 ≠ 0 ∧ 1 = 1 ∧ false = false) ∧ ((0 : Int) ≤ (↑x.at_ : Int) ∧ (↑x.at_ : Int) ≤ (↑t.length : Int) ∧ (↑t.length : Int) ≤ (↑t.length : Int) ∧ 1 = 1) ∧ (∃ (l : List Int), [D.ints .u8 (List.drop (↑x.at_ : Int).toNat (List.take (↑t.length : Int).toNat t))] = [D.ints .u8 l] ∧ okb l ∧ lenB l) ∧ True ∧ (0 < 3 ∧ false = false) ∧ (1 < 3 ∧ false = false) ∧ (2 < 3 ∧ false = false) ∧ (True ∧ 2 ≠ 0) ∧ (Sk.st [Sk.one, Sk.one] = Sk.st [Sk.one, Sk.one] ∧ 2 ≠ 0 ∧ 2 = 2 ∧ false = false) ∧ True ∧ True ∧ True ∧ True ∧ match (↑(itE (List.drop (↑x.at_ : Int).toNat (List.take (↑t.length : Int).toNat t))) : Int) != (0 : Int) with
  | true => True ∧ True ∧ (false = false ∧ True) ∧ 2 = 2 ∧ (26 : TypeId) = (26 : TypeId) ∧ Sk.st [Sk.one, Sk.arr 32, Sk.one, Sk.one] = Sk.st [Sk.one, Sk.arr 32, Sk.one, Sk.one] ∧ D.tup [D.val (.int .i64 (↑(itE (List.drop (↑x.at_ : Int).toNat (List.take (↑t.length : Int).toNat t))) : Int)), D.st [D.ints .u8 k, D.arr .u8 32 x.last, D.slc 1 (List.map (D.ints .u8) x.recs), D.val (.int .i64 (↑x.at_ : Int))]] = F
  | false => (Sk.st [Sk.one, Sk.one] = Sk.st [Sk.one, Sk.one] ∧ 0 < 2) ∧ (1 ≠ 0 ∧ 1 = 1 ∧ false = false) ∧ True ∧ True ∧ match (↑(itT (List.drop (↑x.at_ : Int).toNat (List.take (↑t.length : Int).toNat t))) : Int) != (1 : Int) with
   | true => True ∧ True ∧ (false = false ∧ True) ∧ 2 = 2 ∧ (26 : TypeId) = (26 : TypeId) ∧ Sk.st [Sk.one, Sk.arr 32, Sk.one, Sk.one] = Sk.st [Sk.one, Sk.arr 32, Sk.one, Sk.one] ∧ D.tup [D.val (.int .i64 4), D.st [D.ints .u8 k, D.arr .u8 32 x.last, D.slc 1 (List.map (D.ints .u8) x.recs), D.val (.int .i64 (↑x.at_ : Int))]] = F
   | false => (Sk.st [Sk.one, Sk.one] = Sk.st [Sk.one, Sk.one] ∧ 1 < 2) ∧ (1 ≠ 0 ∧ 1 = 1 ∧ false = false) ∧ True ∧ True ∧ True ∧ match decide ((↑(itB (List.drop (↑x.at_ : Int).toNat (List.take (↑t.length : Int).toNat t))).length : Int) < (32 : Int)) with
    | true => True ∧ (false = false ∧ True) ∧ 2 = 2 ∧ (26 : TypeId) = (26 : TypeId) ∧ Sk.st [Sk.one, Sk.arr 32, Sk.one, Sk.one] = Sk.st [Sk.one, Sk.arr 32, Sk.one, Sk.one] ∧ D.tup [D.val (.int .i64 4), D.st [D.ints .u8 k, D.arr .u8 32 x.last, D.slc 1 (List.map (D.ints .u8) x.recs), D.val (.int .i64 (↑x.at_ : Int))]] = F
    | false => true = true ∧ (Sk.st [Sk.one, Sk.one] = Sk.st [Sk.one, Sk.one] ∧ 1 < 2) ∧ (1 ≠ 0 ∧ 1 = 1 ∧ false = false) ∧ ((0 : Int) ≤ 32 ∧ (32 : Int) ≤ (↑(itB (List.drop (↑x.at_ : Int).toNat (List.take (↑t.length : Int).toNat t))).length : Int) ∧ (↑(itB (List.drop (↑x.at_ : Int).toNat (List.take (↑t.length : Int).toNat t))).length : Int) ≤ (↑(itB (List.drop (↑x.at_ : Int).toNat (List.take (↑t.length : Int).toNat t))).length : Int) ∧ 1 = 1) ∧ (∃ (k_1 : List Int), ∃ (s : TS), ∃ (p : List Int), [(D.st [D.ints .u8 k, D.arr .u8 32 x.last, D.slc 1 (List.map (D.ints .u8) x.recs), D.val (.int .i64 (↑x.at_ : Int))]).ref, D.ints .u8 (List.drop 32 (List.take (↑(itB (List.drop (↑x.at_ : Int).toNat (List.take (↑t.length : Int).toNat t))).length : Int).toNat (itB (List.drop (↑x.at_ : Int).toNat (List.take (↑t.length : Int).toNat t)))))] = [(D.st [D.ints .u8 k_1, D.arr .u8 32 s.last, D.slc 1 (List.map (D.ints .u8) s.recs), D.val (.int .i64 (↑s.at_ : Int))]).ref, D.ints .u8 p] ∧ isP k_1 ∧ (isBytes s.last ∧ s.last.length = 32) ∧ isP p) ∧ (True ∧ 32 ≠ 0) ∧ (Sk.arr 32 = Sk.arr 32 ∧ 32 ≠ 0 ∧ 32 = 32 ∧ false = false) ∧ ((0 : Int) ≤ 0 ∧ (0 : Int) ≤ (↑(32 : Nat) : Int) ∧ (↑(32 : Nat) : Int) ≤ (↑(32 : Nat) : Int) ∧ 32 = 32 ∧ 1 = 1) ∧ (Sk.st [Sk.one, Sk.one] = Sk.st [Sk.one, Sk.one] ∧ 1 < 2) ∧ (1 ≠ 0 ∧ 1 = 1 ∧ false = false) ∧ ((0 : Int) ≤ 0 ∧ (0 : Int) ≤ 32 ∧ (32 : Int) ≤ (↑(itB (List.drop (↑x.at_ : Int).toNat (List.take (↑t.length : Int).toNat t))).length : Int) ∧ 1 = 1) ∧ (∃ (a : List Int), ∃ (b : List Int), [D.ints .u8 (List.take ((↑(32 : Nat) : Int).toNat - 0) (List.drop 0 (mkL k (x.last ++ List.drop 32 (List.take (↑(itB (List.drop (↑x.at_ : Int).toNat (List.take (↑t.length : Int).toNat t))).length : Int).toNat (itB (List.drop (↑x.at_ : Int).toNat (List.take (↑t.length : Int).toNat t)))))))), D.ints .u8 (List.drop 0 (List.take 32 (itB (List.drop (↑x.at_ : Int).toNat (List.take (↑t.length : Int).toNat t)))))] = [D.ints .u8 a, D.ints .u8 b] ∧ isB a ∧ isB b) ∧ True ∧ match !eqB (List.take ((↑(32 : Nat) : Int).toNat - 0) (List.drop 0 (mkL k (x.last ++ List.drop 32 (List.take (↑(itB (List.drop (↑x.at_ : Int).toNat (List.take (↑t.length : Int).toNat t))).length : Int).toNat (itB (List.drop (↑x.at_ : Int).toNat (List.take (↑t.length : Int).toNat t)))))))) (List.drop 0 (List.take 32 (itB (List.drop (↑x.at_ : Int).toNat (List.take (↑t.length : Int).toNat t))))) with
     | true => True ∧ (false = false ∧ True) ∧ 2 = 2 ∧ (26 : TypeId) = (26 : TypeId) ∧ Sk.st [Sk.one, Sk.arr 32, Sk.one, Sk.one] = Sk.st [Sk.one, Sk.arr 32, Sk.one, Sk.one] ∧ D.tup [D.val (.int .i64 5), D.st [D.ints .u8 k, D.arr .u8 32 x.last, D.slc 1 (List.map (D.ints .u8) x.recs), D.val (.int .i64 (↑x.at_ : Int))]] = F
     | false => true = true ∧ (32 ≠ 0 ∧ 32 = 32 ∧ true = true) ∧ True ∧ (Sk.st [Sk.one, Sk.arr 32, Sk.one, Sk.one] = Sk.st [Sk.one, Sk.arr 32, Sk.one, Sk.one] ∧ 1 < 4) ∧ ((1 < 4 ∧ Sk.arr 32 = Sk.arr 32) ∧ 32 ≠ 0 ∧ 32 = 32 ∧ false = false) ∧ true = true ∧ true = true ∧ True ∧ (Sk.st [Sk.one, Sk.arr 32, Sk.one, Sk.one] = Sk.st [Sk.one, Sk.arr 32, Sk.one, Sk.one] ∧ 2 < 4) ∧ (1 = 1 ∧ false = false) ∧ (Sk.st [Sk.one, Sk.one] = Sk.st [Sk.one, Sk.one] ∧ 1 < 2) ∧ (1 ≠ 0 ∧ 1 = 1 ∧ false = false) ∧ ((0 : Int) ≤ 32 ∧ (32 : Int) ≤ (↑(itB (List.drop (↑x.at_ : Int).toNat (List.take (↑t.length : Int).toNat t))).length : Int) ∧ (↑(itB (List.drop (↑x.at_ : Int).toNat (List.take (↑t.length : Int).toNat t))).length : Int) ≤ (↑(itB (List.drop (↑x.at_ : Int).toNat (List.take (↑t.length : Int).toNat t))).length : Int) ∧ 1 = 1) ∧ (∃ (l : List Int), [D.ints .u8 (List.drop 32 (List.take (↑(itB (List.drop (↑x.at_ : Int).toNat (List.take (↑t.length : Int).toNat t))).length : Int).toNat (itB (List.drop (↑x.at_ : Int).toNat (List.take (↑t.length : Int).toNat t)))))] = [D.ints .u8 l] ∧ isP l) ∧ (1 ≤ 4096 ∧ 1 ≤ 256 ∧ 1 ≠ 0) ∧ ((26 : TypeId) = (26 : TypeId) ∧ 22 = 22 ∧ true = true ∧ (List.map (D.ints .u8) x.recs ++ [D.ints .u8 (List.drop 32 (List.take (↑(itB (List.drop (↑x.at_ : Int).toNat (List.take (↑t.length : Int).toNat t))).length : Int).toNat (itB (List.drop (↑x.at_ : Int).toNat (List.take (↑t.length : Int).toNat t)))))]).length ≤ 140737488355328 ∧ (List.map (D.ints .u8) x.recs ++ [D.ints .u8 (List.drop 32 (List.take (↑(itB (List.drop (↑x.at_ : Int).toNat (List.take (↑t.length : Int).toNat t))).length : Int).toNat (itB (List.drop (↑x.at_ : Int).toNat (List.take (↑t.length : Int).toNat t)))))]).length * 24 ≤ 140737488355328 ∧ 1 ≠ 0 ∧ 1 = 1) ∧ True ∧ (Sk.st [Sk.one, Sk.arr 32, Sk.one, Sk.one] = Sk.st [Sk.one, Sk.arr 32, Sk.one, Sk.one] ∧ 2 < 4) ∧ (2 = 2 ∧ 1 = 1) ∧ true = true ∧ True ∧ (Sk.st [Sk.one, Sk.arr 32, Sk.one, Sk.one] = Sk.st [Sk.one, Sk.arr 32, Sk.one, Sk.one] ∧ 3 < 4) ∧ (1 ≠ 0 ∧ 1 = 1 ∧ false = false) ∧ True ∧ True ∧ True ∧ (Sk.st [Sk.one, Sk.arr 32, Sk.one, Sk.one] = Sk.st [Sk.one, Sk.arr 32, Sk.one, Sk.one] ∧ 3 < 4) ∧ ((3 < 4 ∧ Sk.one = Sk.one) ∧ 1 ≠ 0 ∧ 1 = 1 ∧ false = false) ∧ (True ∧ (some (Blk.lnk [D.ints .u8 k, D.arr .u8 32 (mkL k (x.last ++ List.drop 32 (List.take (↑(itB (List.drop (↑x.at_ : Int).toNat (List.take (↑t.length : Int).toNat t))).length : Int).toNat (itB (List.drop (↑x.at_ : Int).toNat (List.take (↑t.length : Int).toNat t)))))), D.slc 1 [], D.val (.int .i64 (IntKind.i64.wrap ((↑x.at_ : Int) + (↑(itN (List.drop (↑x.at_ : Int).toNat (List.take (↑t.length : Int).toNat t))) : Int))))] 2 (some 1001)) = some (Blk.lnk [D.ints .u8 k, D.arr .u8 32 (mkL k (x.last ++ List.drop 32 (List.take (↑(itB (List.drop (↑x.at_ : Int).toNat (List.take (↑t.length : Int).toNat t))).length : Int).toNat (itB (List.drop (↑x.at_ : Int).toNat (List.take (↑t.length : Int).toNat t)))))), D.slc 1 [], D.val (.int .i64 (↑(IntKind.i64.wrap ((↑x.at_ : Int) + (↑(itN (List.drop (↑x.at_ : Int).toNat (List.take (↑t.length : Int).toNat t))) : Int))).toNat : Int))]
      2 (some 1001)) ∧ some (Blk.row (26 : TypeId) (D.slc 1 (List.map (D.ints .u8) x.recs ++ [D.ints .u8 (List.drop 32 (List.take (↑(itB (List.drop (↑x.at_ : Int).toNat (List.take (↑t.length : Int).toNat t))).length : Int).toNat (itB (List.drop (↑x.at_ : Int).toNat (List.take (↑t.length : Int).toNat t)))))]))) = some (Blk.row (26 : TypeId) (D.slc 1 (List.map (D.ints .u8) (List.map unI (List.map (D.ints .u8) x.recs ++ [D.ints .u8 (List.drop 32 (List.take (↑(itB (List.drop (↑x.at_ : Int).toNat (List.take (↑t.length : Int).toNat t))).length : Int).toNat (itB (List.drop (↑x.at_ : Int).toNat (List.take (↑t.length : Int).toNat t)))))]))))) ∧ True) ∧ true = true) ∧ ((isBytes (mkL k (x.last ++ List.drop 32 (List.take (↑(itB (List.drop (↑x.at_ : Int).toNat (List.take (↑t.length : Int).toNat t))).length : Int).toNat (itB (List.drop (↑x.at_ : Int).toNat (List.take (↑t.length : Int).toNat t)))))) ∧ (mkL k (x.last ++ List.drop 32 (List.take (↑(itB (List.drop (↑x.at_ : Int).toNat (List.take (↑t.length : Int).toNat t))).length : Int).toNat (itB (List.drop (↑x.at_ : Int).toNat (List.take (↑t.length : Int).toNat t)))))).length = 32) ∧ ((IntKind.i64.wrap ((↑x.at_ : Int) + (↑(itN (List.drop (↑x.at_ : Int).toNat (List.take (↑t.length : Int).toNat t))) : Int))).toNat ≤ t.length ∧ (List.map unI (List.map (D.ints .u8) x.recs ++ [D.ints .u8 (List.drop 32 (List.take (↑(itB (List.drop (↑x.at_ : Int).toNat (List.take (↑t.length : Int).toNat t))).length : Int).toNat (itB (List.drop (↑x.at_ : Int).toNat (List.take (↑t.length : Int).toNat t)))))])).length * 33 ≤ (IntKind.i64.wrap ((↑x.at_ : Int) + (↑(itN (List.drop (↑x.at_ : Int).toNat (List.take (↑t.length : Int).toNat t))) : Int))).toNat) ∧ goT k t (t.length - (IntKind.i64.wrap ((↑x.at_ : Int) + (↑(itN (List.drop (↑x.at_ : Int).toNat (List.take (↑t.length : Int).toNat t))) : Int))).toNat + 1) (TS.mk (mkL k (x.last ++ List.drop 32 (List.take (↑(itB (List.drop (↑x.at_ : Int).toNat (List.take (↑t.length : Int).toNat t))).length : Int).toNat (itB (List.drop (↑x.at_ : Int).toNat (List.take (↑t.length : Int).toNat t)))))) (List.map unI (List.map (D.ints .u8) x.recs ++ [D.ints .u8 (List.drop 32 (List.take (↑(itB (List.drop (↑x.at_ : Int).toNat (List.take (↑t.length : Int).toNat t))).length : Int).toNat (itB (List.drop (↑x.at_ : Int).toNat (List.take (↑t.length : Int).toNat t)))))])) (IntKind.i64.wrap ((↑x.at_ : Int) + (↑(itN (List.drop (↑x.at_ : Int).toNat (List.take (↑t.length : Int).toNat t))) : Int))).toNat) = goT k t (t.length + 1) (TS.mk [(0 : Int), (0 : Int), (0 : Int), (0 : Int), (0 : Int), (0 : Int), (0 : Int), (0 : Int), (0 : Int), (0 : Int), (0 : Int), (0 : Int), (0 : Int), (0 : Int), (0 : Int), (0 : Int), (0 : Int), (0 : Int), (0 : Int), (0 : Int), (0 : Int), (0 : Int), (0 : Int), (0 : Int), (0 : Int), (0 : Int), (0 : Int), (0 : Int), (0 : Int), (0 : Int), (0 : Int), (0 : Int)] [] 0)) ∧ t.length - (IntKind.i64.wrap ((↑x.at_ : Int) + (↑(itN (List.drop (↑x.at_ : Int).toNat (List.take (↑t.length : Int).toNat t))) : Int))).toNat < t.length - x.at_
 | false => True ∧ (false = false ∧ True) ∧ 2 = 2 ∧ (26 : TypeId) = (26 : TypeId) ∧ Sk.st [Sk.one, Sk.arr 32, Sk.one, Sk.one] = Sk.st [Sk.one, Sk.arr 32, Sk.one, Sk.one] ∧ D.tup [D.val (.int .i64 0), D.st [D.ints .u8 k, D.arr .u8 32 x.last, D.slc 1 (List.map (D.ints .u8) x.recs), D.val (.int .i64 (↑x.at_ : Int))]] = F) := by kernel_rfl
end Go.Proofs.YtkicjckhkefnpaaDoor
namespace Go.Proofs.YtkicjckhkefnpaaDoor
open Go Go.Vg
theorem mkL_len (k p : List Int) : (mkL k p).length = 32 := digL_len _
theorem mkL_bytes (k p : List Int) : isBytes (mkL k p) := digL_bytes _
theorem isP_B {p : List Int} (h : isP p) : isB p := ⟨h.1, by have := h.2; omega⟩
theorem t32 (l : List Int) (h : l.length = 32) : l.take 32 = l := List.take_of_length_le (by omega)
set_option maxRecDepth 100000 in
theorem m78 : Meets Tryd.prog 78 sp78 := by
 refine meets_of_owed (C := c78) ⟨tab_ok, fun f s h => by cases h⟩ (by kernel_rfl) (by kernel_rfl : Tryd.prog.funcs[78]? = some Tryd.f78) (by kernel_rfl) (by kernel_rfl) (by kernel_rfl) _ ?_
 rintro _ ⟨l, rfl, hb, hl⟩
 refine ⟨fun h => (by cases h), fun _ => none, ?_⟩
 show owed c78 (fun _ => none) Tryd.f78 [.ints .u8 l] (.ints .u8 l)
 rw [vc78]
 simp (decide := true) only [List.nil_append, eq_self, true_and, and_true, ne_eq, not_false_eq_true, true_implies]
 refine ⟨fun h => ?_, ?_⟩
 ·rw [List.eq_nil_of_length_eq_zero h]
 ·and_intros <;> first | rfl | trivial | omega
set_option maxRecDepth 100000 in
theorem m78r : MeetsQ Tryd.prog 78 sp78r := by
 refine meetsRw_of_owed (C := c78) ⟨tab_ok, fun f s h => by cases h⟩ (by kernel_rfl) (by kernel_rfl : Tryd.prog.funcs[78]? = some Tryd.f78) (by kernel_rfl) (by kernel_rfl) (by kernel_rfl) _ 5 ⟨by kernel_rfl, by kernel_rfl, by kernel_rfl, by kernel_rfl⟩ ?_
 rintro _ ⟨l, rfl, hb, hl⟩
 refine ⟨fun _ => none, ?_⟩
 show owedRw c78 (fun _ => none) Tryd.f78 5 [.ints .u8 l] (.tup [.ints .u8 l])
 rw [vc78r]
 simp (decide := true) only [List.nil_append, eq_self, true_and, and_true, ne_eq, not_false_eq_true, true_implies]
 refine ⟨fun h => ?_, ?_⟩
 ·rw [List.eq_nil_of_length_eq_zero h]
 ·and_intros <;> first | rfl | trivial | omega
set_option maxRecDepth 100000 in
theorem m89 : Meets Tryd.prog 89 sp89 := by
 refine meets_of_owed (C := c89) ⟨tab_ok, lkS_ok ⟨m82, m83, m84, trivial⟩⟩ (by kernel_rfl) (by kernel_rfl : Tryd.prog.funcs[89]? = some Tryd.f89) (by kernel_rfl) (by kernel_rfl) (by kernel_rfl) _ ?_
 rintro _ ⟨k, s, p, rfl, hk, ⟨hs1, hs2⟩, hp⟩
 refine ⟨fun _ => rfl, fun _ => none, ?_⟩
 show owed c89 (fun _ => none) Tryd.f89 [.ref (stT k s), .ints .u8 p] (.arr .u8 32 (mkL k (s.last ++ p)))
 rw [vc89]
 have hkB := isP_B hk
 have hpB := isP_B hp
 have hsB : isB s.last := ⟨hs1, by omega⟩
 have hsp : isBytes (s.last ++ p) := fun z hz => (List.mem_append.1 hz).elim (hs1 z) (hp.1 z)
 have e32 : List.take 32 s.last = s.last := t32 _ hs2
 simp (decide := true) only [ofM', mWr_app, mac_eq, e32, Int.toNat_natCast, List.drop_zero, show Int.toNat 32 = 32 from rfl, show Int.toNat 0 = 0 from rfl, Nat.sub_zero, eq_self, true_and, and_true, ne_eq, not_false_eq_true]
 exact ⟨⟨k, rfl, hkB⟩, ⟨_, _, rfl, mNew_ok hkB, hsB⟩, ⟨_, _, rfl, mWr_ok (mNew_ok hkB) hs1, hpB⟩, ⟨_, rfl, mWr_ok (mNew_ok hkB) hsp⟩⟩
end Go.Proofs.YtkicjckhkefnpaaDoor
namespace Go.Proofs.YtkicjckhkefnpaaDoor
open Go Go.Vg
theorem it_pos {l : List Int} (h : itE l = 0) : 1 ≤ itN l := by
 unfold itE at h
 unfold itN
 unfold fst' at h ⊢
 split at h
 ·exact absurd h (by decide)
 ·rename_i h0
  rw [if_neg h0]
  split at h
  ·rename_i h1; exact absurd h h1
  ·rename_i h1
   rw [if_neg h1]
   split at h
   ·exact absurd h (by decide)
   ·rename_i h2
    rw [if_neg h2]
    split at h
    ·exact absurd h (by decide)
    ·rename_i h3
     rw [if_neg h3]
     show 1 ≤ 1 + _ + _
     omega
theorem it_grow {l : List Int} (h : itE l = 0) : (itB l).length + 1 ≤ itN l := by
 unfold itE at h
 unfold itN itB
 unfold fst' at h ⊢
 split at h
 ·exact absurd h (by decide)
 ·rename_i h0
  rw [if_neg h0]
  split at h
  ·rename_i h1; exact absurd h h1
  ·rename_i h1
   rw [if_neg h1]
   split at h
   ·exact absurd h (by decide)
   ·rename_i h2
    rw [if_neg h2]
    split at h
    ·exact absurd h (by decide)
    ·rename_i h3
     rw [if_neg h3]
     show (List.take _ _).length + 1 ≤ 1 + _ + _
     rw [List.length_take]
     omega
theorem bytes_rep (n : Nat) (x : Int) (h : 0 ≤ x ∧ x < 256) : isBytes (List.replicate n x) := fun z hz => by rw [List.eq_of_mem_replicate hz]; exact h
theorem er_zero {k t : List Int} {s : TS} : erT k t s = 0 ↔ itE (t.drop s.at_) = 0 ∧ itT (t.drop s.at_) = 1 ∧ 32 ≤ (itB (t.drop s.at_)).length ∧ mkT k s ((itB (t.drop s.at_)).drop 32) = (itB (t.drop s.at_)).take 32 := by
 unfold erT
 constructor
 ·intro h
  split at h
  ·rename_i h0; omega
  ·rename_i h0
   split at h
   ·exact absurd h (by decide)
   ·rename_i h1
    split at h
    ·exact absurd h (by decide)
    ·rename_i h2
     refine ⟨by omega, ?_, ?_, Classical.byContradiction h2⟩
     ·exact Classical.byContradiction fun e => h1 (.inl e)
     ·exact Classical.byContradiction fun e => h1 (.inr (by omega))
 ·rintro ⟨h0, h1, h2, h3⟩
  rw [if_neg (by omega), if_neg (by omega), if_neg (fun e => e h3)]
theorem nx_at {k t : List Int} (ht : okb t) {s : TS} (h : erT k t s = 0) (hl : s.at_ ≤ t.length) : s.at_ < (nxT k t s).at_ ∧ (nxT k t s).at_ ≤ t.length := by
 have h0 := (er_zero.1 h).1
 have h1 := it_pos h0
 have h2 := (fst_ok (okb_drop ht s.at_)).2.2.2
 rw [List.length_drop] at h2
 show s.at_ < s.at_ + itN _ ∧ s.at_ + itN _ ≤ t.length
 omega
theorem go_stable {k t : List Int} (ht : okb t) : ∀ (f g : Nat) (s : TS), s.at_ ≤ t.length → t.length - s.at_ + 1 ≤ f → t.length - s.at_ + 1 ≤ g → goT k t f s = goT k t g s
 | 0, _, _, _, h, _ => by omega
 | _ + 1, 0, _, _, _, h => by omega
 | f + 1, g + 1, s, hs, hf, hg => by
  unfold goT
  by_cases h1 : s.at_ ≥ t.length
  ·rw [if_pos h1, if_pos h1]
  ·rw [if_neg h1, if_neg h1]
   by_cases h2 : erT k t s ≠ 0
   ·rw [if_pos h2, if_pos h2]
   ·rw [if_neg h2, if_neg h2]
    have h3 := nx_at ht (Classical.byContradiction fun e => h2 e) hs
    exact go_stable ht f g (nxT k t s) h3.2 (by omega) (by omega)
theorem go_step {k t : List Int} (ht : okb t) {s : TS} (hs : s.at_ < t.length) (h : erT k t s = 0) : goT k t (t.length - s.at_ + 1) s = goT k t (t.length - (nxT k t s).at_ + 1) (nxT k t s) := by
 have h3 := nx_at ht h (by omega)
 rw [goT, if_neg (by omega), if_neg (fun e => e h)]
 exact go_stable ht _ _ _ h3.2 (by omega) (by omega)
theorem map_unI (l : List (List Int)) : (l.map (D.ints .u8)).map unI = l := by
 rw [List.map_map]
 exact List.map_id l
theorem map_snoc (l : List (List Int)) (x : List Int) : l.map (D.ints .u8) ++ [D.ints .u8 x] = (l ++ [x]).map (D.ints .u8) := by rw [List.map_append]; rfl
set_option maxRecDepth 100000 in
theorem m86 : MeetsQ Tryd.prog 86 sp86 := by
 refine meetsIoL_of_owed (C := c86) ⟨tab_ok, lkS_ok ⟨m119, m89, m80, m78, trivial⟩⟩ (by kernel_rfl) (by kernel_rfl : Tryd.prog.funcs[86]? = some Tryd.f86) (by kernel_rfl) (by kernel_rfl) (by kernel_rfl) _ 2 26 ⟨by kernel_rfl, by kernel_rfl⟩ ?_
 rintro fs ds ⟨k, t, he, hk, ht⟩
 obtain ⟨hfs, rfl⟩ := List.cons.inj he
 obtain rfl : fs = [.ints .u8 k, .arr .u8 32 (List.replicate 32 0), .slc 1 [], i64 0] := by injection hfs
 refine ⟨inv86 k t, ?_⟩
 show owedIoL c86 (inv86 k t) Tryd.f86 2 26 [.ints .u8 k, .arr .u8 32 (List.replicate 32 0), .slc 1 [], i64 0] [.ints .u8 t] (.tup [i64 (rdEr k t), stT k (rdSt k t)])
 rw [vc86]
 have htb : okb t := ht.1
 have tl : List.take t.length t = t := List.take_length
 simp (decide := true) only [tl, Int.toNat_natCast, show Int.toNat 32 = 32 from rfl, Nat.sub_zero, List.drop_zero, sm, eq_self, true_and, and_true, ne_eq, not_false_eq_true]
 refine ⟨⟨rfl, bytes_rep 32 0 (by decide), Nat.zero_le _⟩, fun x hx => ?_⟩
 obtain ⟨⟨hl1, hl2⟩, ⟨hat, hrl⟩, hgo⟩ := hx
 have hgo : goT k t (t.length - x.at_ + 1) x = goT k t (t.length + 1) s0T := hgo
 have hend : ∀ e, (goT k t (t.length - x.at_ + 1) x) = (x, e) → D.tup [i64 e, stT k x] = D.tup [i64 (rdEr k t), stT k (rdSt k t)] := fun e h => by
  unfold rdEr rdSt
  rw [← hgo, h]
 have htl := ht.2
 split
 ·rename_i hlt
  have hlt : x.at_ < t.length := by have := of_decide_eq_true hlt; omega
  have hgoN : erT k t x ≠ 0 → goT k t (t.length - x.at_ + 1) x = (x, erT k t x) := fun h => by
   rw [goT, if_neg (by omega), if_pos h]
  have hdl : (t.drop x.at_).length ≤ t.length := by rw [List.length_drop]; omega
  have hdb : okb (t.drop x.at_) := okb_drop htb _
  have hf := fst_ok hdb
  have hst := fun h => go_step (k := k) htb hlt h
  have hnx := fun h => nx_at (k := k) htb (s := x) h hat
  have hern := er_zero (k := k) (t := t) (s := x)
  have her : erT k t x = (if itE (t.drop x.at_) ≠ 0 then ((itE (t.drop x.at_) : Nat) : Int) else if itT (t.drop x.at_) ≠ 1 ∨ (itB (t.drop x.at_)).length < 32 then 4
   else if mkT k x ((itB (t.drop x.at_)).drop 32) ≠ (itB (t.drop x.at_)).take 32 then 5 else 0) := rfl
  have hnxe : nxT k t x = ⟨mkT k x ((itB (t.drop x.at_)).drop 32), x.recs ++ [(itB (t.drop x.at_)).drop 32], x.at_ + itN (t.drop x.at_)⟩ := rfl
  have hgro := fun h => it_grow (l := t.drop x.at_) h
  generalize t.drop x.at_ = l at *
  have tb : List.take (itB l).length (itB l) = itB l := List.take_length
  have hmk : mkT k x ((itB l).drop 32) = mkL k (x.last ++ (itB l).drop 32) := rfl
  rw [tb, ← hmk]
  refine ⟨⟨by omega, by omega, by omega⟩, ⟨l, rfl, hdb, by unfold lenB; omega⟩, ?_⟩
  by_cases h0 : itE l = 0
  ·have e0 : (((itE l : Nat) : Int) != 0) = false := by rw [h0]; rfl
   rw [e0]
   dsimp only
   by_cases h1 : itT l = 1
   ·have e1 : (((itT l : Nat) : Int) != 1) = false := by rw [h1]; rfl
    rw [e1]
    dsimp only
    by_cases h2 : (itB l).length < 32
    ·rw [decide_eq_true (show (((itB l).length : Nat) : Int) < 32 by omega)]
     have h4 : erT k t x = 4 := by rw [her, if_neg (fun e => e h0), if_pos (.inr h2)]
     exact hend 4 (by rw [hgoN (by rw [h4]; decide), h4])
    ·rw [decide_eq_false (show ¬ (((itB l).length : Nat) : Int) < 32 by omega)]
     dsimp only
     have hmb : isBytes (mkT k x ((itB l).drop 32)) := mkL_bytes _ _
     have hml : (mkT k x ((itB l).drop 32)).length = 32 := mkL_len _ _
     have tm : List.take 32 (mkT k x ((itB l).drop 32)) = mkT k x ((itB l).drop 32) := t32 _ hml
     have hdr : isP ((itB l).drop 32) := ⟨fun z hz => hf.2.1 z (List.mem_of_mem_drop hz), by rw [List.length_drop]; omega⟩
     have htk : isB ((itB l).take 32) := ⟨fun z hz => hf.2.1 z (List.mem_of_mem_take hz), by rw [List.length_take]; omega⟩
     rw [tm]
     refine ⟨⟨by omega, by omega⟩, ⟨k, x, _, rfl, hk, ⟨hl1, hl2⟩, hdr⟩, by omega, ⟨_, _, rfl, ⟨hmb, by omega⟩, htk⟩, ?_⟩
     by_cases h3 : mkT k x ((itB l).drop 32) = (itB l).take 32
     ·have e3 : eqB (mkT k x ((itB l).drop 32)) ((itB l).take 32) = true := by rw [h3]; exact eqB_refl _
      rw [e3, Bool.not_true]
      have h4 : erT k t x = 0 := hern.2 ⟨h0, h1, by omega, h3⟩
      have hn := hnx h4
      have hs := hst h4
      have hg := hgro h0
      rw [hnxe] at hn hs
      have w1 : IntKind.i64.wrap ((x.at_ : Int) + ((itN l : Nat) : Int)) = ((x.at_ + itN l : Nat) : Int) := by
       have : x.at_ + itN l ≤ t.length := hn.2
       rw [wi (by omega) (by omega)]; omega
      have hn1 : x.at_ < x.at_ + itN l := hn.1
      have hn2 : x.at_ + itN l ≤ t.length := hn.2
      simp only [w1, Int.toNat_natCast, List.length_append, List.length_map, List.length_singleton, map_snoc, map_unI]
      have hs2 : goT k t (t.length - x.at_ + 1) x = goT k t (t.length - (x.at_ + itN l) + 1) ⟨mkT k x ((itB l).drop 32), x.recs ++ [(itB l).drop 32], x.at_ + itN l⟩ := hs
      exact ⟨⟨by omega, by omega⟩, ⟨_, rfl, hdr⟩, ⟨by omega, by omega⟩, ⟨trivial, trivial⟩, ⟨⟨hmb, hml⟩, ⟨hn2, by omega⟩, hs2.symm.trans hgo⟩, by omega⟩
     ·have e3 : eqB (mkT k x ((itB l).drop 32)) ((itB l).take 32) = false := by
       exact eqB_not.2 h3
      rw [e3]
      have h4 : erT k t x = 5 := by rw [her, if_neg (fun e => e h0), if_neg (by omega), if_pos h3]
      exact hend 5 (by rw [hgoN (by rw [h4]; decide), h4])
   ·have e1 : (((itT l : Nat) : Int) != 1) = true := by
     have : ((itT l : Nat) : Int) ≠ 1 := by omega
     simpa using this
    rw [e1]
    have h4 : erT k t x = 4 := by rw [her, if_neg (fun e => e h0), if_pos (.inl h1)]
    exact hend 4 (by rw [hgoN (by rw [h4]; decide), h4])
  ·have e0 : (((itE l : Nat) : Int) != 0) = true := by
    have : ((itE l : Nat) : Int) ≠ 0 := by omega
    simpa using this
   rw [e0]
   have h4 : erT k t x = ((itE l : Nat) : Int) := by rw [her, if_pos h0]
   exact hend _ (by rw [hgoN (by rw [h4]; omega), h4])
 ·rename_i hlt
  have hlt := of_decide_eq_false hlt
  refine hend 0 ?_
  rw [goT, if_pos (by omega)]
end Go.Proofs.YtkicjckhkefnpaaDoor
