/- DrawTells: the law: the proof. -/
import Derived.Test.YtkicjckhkefnpaaDoorZb13
namespace Go.Proofs.YtkicjckhkefnpaaDoor
open Go Go.Vg
structure VS (k : List Int) (s : SR) : Prop where
 key : s.k = mNew k
 lt : s.p < 18446744073709551616
 by' : isBytes s.b
 len : s.b.length = 32
 blk : s.m = true → s.p % 32 ≠ 0 → s.b = mkL k (be8 (s.p / 32))
theorem VS.ok {k : List Int} {s : SR} (hk : isB k) (h : VS k s) : okR s := ⟨h.key ▸ mNew_ok hk, h.lt, h.by', h.len⟩
theorem VS.nxB {k : List Int} {s : SR} (h : VS k s) : nxB s = mkL k (be8 (s.p / 32)) := by
 unfold Go.Proofs.YtkicjckhkefnpaaDoor.nxB blkS
 split
 ·rw [h.key, mac_eq]
 ·rename_i hn
  have h1 : s.p % 32 ≠ 0 := fun e => hn (.inl e)
  have h2 : s.m = true := by
   cases e : s.m
   ·exact absurd (Or.inr e) hn
   ·rfl
  exact h.blk h2 h1
theorem VS.nxV {k : List Int} {s : SR} (h : VS k s) : nxV s = plcB k s.p := by
 unfold Go.Proofs.YtkicjckhkefnpaaDoor.nxV plcB
 rw [h.nxB]
theorem VS.nx {k : List Int} {s : SR} (hk : isB k) (h : VS k s) : VS k (nxS s) := by
 have ho := nxS_ok (h.ok hk)
 refine ⟨h.key, ho.2.1, ho.2.2.1, ho.2.2.2, fun _ hp => ?_⟩
 show Go.Proofs.YtkicjckhkefnpaaDoor.nxB s = _
 rw [h.nxB]
 have hlt := h.lt
 have e : (nxS s).p = (s.p + 1) % 18446744073709551616 := rfl
 rw [e] at hp ⊢
 have : (s.p + 1) % 18446744073709551616 / 32 = s.p / 32 := by omega
 rw [this]
theorem VS.it {k : List Int} {s : SR} (hk : isB k) (h : VS k s) : ∀ n, VS k (itS s n) ∧ (itS s n).p = (s.p + n) % 18446744073709551616
 | 0 => ⟨h, by have := h.lt; show s.p = (s.p + 0) % _; omega⟩
 | n + 1 => by
  obtain ⟨h1, h2⟩ := VS.it hk h n
  refine ⟨h1.nx hk, ?_⟩
  show ((itS s n).p + 1) % 18446744073709551616 = _
  rw [h2]
  omega
theorem VS.drw {k : List Int} {s : SR} (hk : isB k) (h : VS k s) (n : Nat) : itV s n = drwL k s.p n := by
 unfold itV drwL
 refine List.map_congr_left fun i _ => ?_
 obtain ⟨h1, h2⟩ := h.it hk i
 rw [h1.nxV, h2]
theorem VS.gT {k : List Int} {s : SR} (hk : isB k) (h : VS k s) (v : Nat) : gT s v = gR k s.p v := by
 funext t
 unfold Go.Proofs.YtkicjckhkefnpaaDoor.gT gR
 obtain ⟨h1, h2⟩ := h.it hk (32 * t)
 rw [h1.drw hk, h2]
theorem VS.sk {k : List Int} {s : SR} (h : VS k s) (n : Int) : VS k (skS s n) := by
 unfold skS
 split
 ·exact ⟨h.key, Nat.mod_lt _ (by decide), h.by', h.len, fun e => by cases e⟩
 ·exact h
theorem VS.dr {k : List Int} {s : SR} (hk : isB k) (h : VS k s) (x : D) : VS k (drS s x) := by
 unfold drS
 split
 ·unfold bwS
  exact (h.it hk _).1
 ·split
  ·exact h.sk _
  ·unfold bysS
   split
   ·exact (h.it hk _).1
   ·exact h
theorem VS.zero (k : List Int) : VS k (sr0 k 0) := by
 refine ⟨rfl, Nat.two_pow_pos 64, ?_, List.length_replicate, fun e => by cases e⟩
 intro x hx
 rw [List.eq_of_mem_replicate hx]
 decide
theorem VS.ds {k : List Int} (hk : isB k) (xs : List D) : ∀ i, VS k (dsN k xs i)
 | 0 => VS.zero k
 | i + 1 => (VS.ds hk xs i).dr hk _
theorem bwN_le (g : Nat → Nat) (v : Nat) : bwN g v ≤ 3200 := by
 have : ∀ n t r, fstB g v n t = some r → r < n + t := by
  intro n
  induction n with
  | zero => intro t r h; cases h
  | succ n ih =>
   intro t r h
   unfold fstB at h
   split at h
   ·cases h; omega
   ·have := ih (t + 1) r h; omega
 unfold bwN
 split
 ·omega
 ·cases e : fstB g v 100 0 with
  | none => exact Nat.le_refl _
  | some t =>
   have := this 100 0 t e
   show 32 * (t + 1) ≤ 3200
   omega
end Go.Proofs.YtkicjckhkefnpaaDoor
namespace Go.Proofs.YtkicjckhkefnpaaDoor
open Go Go.Vg
noncomputable def LW : List Int := opq (nB 18446744073709551616 4 LQ)
noncomputable def amL (l m : List Int) : List Int := opq (nB 18446744073709551616 4 ((vB 18446744073709551616 l + vB 18446744073709551616 m) % LQ))
noncomputable def mmL (l m : List Int) : List Int := opq (nB 18446744073709551616 4 (vB 18446744073709551616 l * vB 18446744073709551616 m % LQ))
noncomputable def nmL (x : Int) : List Int := opq (nB 18446744073709551616 4 x.toNat)
def sp114 : Go.Vg.Spec := ⟨fun ds => ∃ n, ds = [i64 n] ∧ 0 ≤ n ∧ n ≤ 9223372036854775807, fun ds => num4 (nB 18446744073709551616 4 (numOf (ds.headD default)).toNat), true, [3]⟩
noncomputable def sp114o : Go.Vg.Spec := ⟨sp114.pre, fun ds => num4 (nmL (numOf (ds.headD default))), true, [3]⟩
noncomputable def sp55o : Go.Vg.Spec := ⟨sp55.pre, fun _ => num4 LW, true, []⟩
noncomputable def sp59o : Go.Vg.Spec := ⟨sp59.pre, fun ds => num4 (amL (arrOf (ds.headD default)) (arrOf (ds.getD 1 default))), true, [75, 75]⟩
noncomputable def sp62o : Go.Vg.Spec := ⟨sp62.pre, fun ds => num4 (mmL (arrOf (ds.headD default)) (arrOf (ds.getD 1 default))), true, [75, 75]⟩
def cstS (v : Nat) (s : SR) : Nat → SR
 | 0 => s
 | i + 1 => bwS (cstS v s i) v
def fE (v : Nat) (s : SR) : Nat → Int
 | 0 => 0
 | m + 1 => if fE v s m = 0 then bwE (gT (cstS v s m) v) v else fE v s m
def cX (v : Nat) (s : SR) (j : Nat) : List Int := bwV (gT (cstS v s j) v) v
def cRow (v : Nat) (a : List Int) (s : SR) (i : Nat) : List D := num4 a :: (List.range i).map fun j => num4 (cX v s j)
noncomputable def hWd (c : List D) (k x : Nat) : Nat → List Int
 | 0 => arrOf (c.getD (k - 1) default)
 | t + 1 => amL (mmL (hWd c k x t) (nmL (x : Int))) (arrOf (c.getD (k - 2 - t) default))
noncomputable def shW (c : List D) (k i : Nat) : D := .st [i64 ((i + 1 : Nat) : Int), num4 (hWd c k (i + 1) (k - 1))]
noncomputable def oRow (c : List D) (k n i : Nat) : List D := (List.range i).map (shW c k) ++ List.replicate (n - i) (.st [i64 0, num4 [0, 0, 0, 0]])
def rowX (s : St) (b : Nat) : List D := match Go.Vg.look s.M b with
 | some (.row _ (.slc _ xs)) => xs
 | _ => []
noncomputable def c67 : Ctx := ⟨tab, lkS [(55, sp55o), (98, sp98o), (40, sp40q), (41, sp41), (114, sp114o), (62, sp62o), (59, sp59o)], [36, 57], []⟩
noncomputable def inv67 (a : List Int) (k n : Nat) (s0 : SR) : Nat → Option Inv
 | 5 => some ⟨Nat, fun _ => [(10, .row 36), (36, .any)], fun i => [(36, .row 75 (.slc 4 (cRow (vB 18446744073709551616 LW) a s0 i))), (38, .fix (stQ (cstS (vB 18446744073709551616 LW) s0 i)))], fun t => (rowX t 36).length - 1, fun _ i => i + 1 ≤ k ∧ fE (vB 18446744073709551616 LW) s0 i = 0, fun i => k - i⟩
 | 12 => some ⟨Nat, fun i => [(60, .d (i64 i))], fun i => [(57, .row 167 (.slc 5 (oRow (cRow (vB 18446744073709551616 LW) a s0 (k - 1)) k n i)))], fun t => (slotN t 60).toNat, fun s i => i ≤ n ∧ rowX s 36 = cRow (vB 18446744073709551616 LW) a s0 (k - 1), fun i => n - i⟩
 | 16 => some ⟨Nat × Nat, fun y => [(17, .d (i64 ((k : Int) - 2 - (y.1 : Int))))], fun y => [(16, .fix (num4 (hWd (cRow (vB 18446744073709551616 LW) a s0 (k - 1)) k (y.2 + 1) y.1)))], fun t => (((k : Int) - 2 - slotN t 17).toNat, (slotN t 60).toNat), fun s y => y.1 + 1 ≤ k ∧ (y.2 : Int) = slotN s 60, fun y => k - y.1⟩
 | _ => none
set_option maxRecDepth 100000 in
theorem vc114  (n : Int) (F : D)  :
    (owed c0 (fun _ => none) Tryd.f114 [i64 n] F) = (
 (True ∧ 4 ≠ 0) ∧ True ∧ True ∧ (1 = 1 ∧ false = false ∧ (0 < 4 ∧ ([] : List Nat) = [] ∧ true = true) ∧ True) ∧ (Sk.arr 4 = Sk.arr 4 ∧ 4 ≠ 0 ∧ 4 = 4 ∧ false = false) ∧ ((4 ≠ 0 ∧ 4 = 4 ∧ true = true) ∧ True) ∧ D.arr .u64 4 [IntKind.u64.wrap n, (0 : Int), (0 : Int), (0 : Int)] = F) := by kernel_rfl
set_option maxRecDepth 100000 in
theorem vc67  (a : List Int) (k n : Int) (p : List Int) (F : D)  :
    (owed c67 (inv67 a k.toNat n.toNat (sr0 p 0)) Tryd.f67 [num4 a, i64 k, i64 n, .ints .u8 p] F) = (
 (True ∧ false = false) ∧ True ∧ True ∧ True ∧ True ∧ True ∧ match decide (k < (1 : Int)) with
 | true => True ∧ True ∧ True ∧ True ∧ True ∧ True ∧ True ∧ (false = false ∧ false = false ∧ True) ∧ D.tup [D.slc 5 [], D.val (.int .i64 1)] = F
 | false => True ∧ True ∧ True ∧ True ∧ True ∧ match decide (k > n) with
  | true => True ∧ True ∧ True ∧ True ∧ True ∧ (false = false ∧ false = false ∧ True) ∧ D.tup [D.slc 5 [], D.val (.int .i64 1)] = F
  | false => True ∧ True ∧ True ∧ True ∧ match decide (n > (20 : Int)) with
   | true => True ∧ True ∧ True ∧ (false = false ∧ false = false ∧ True) ∧ D.tup [D.slc 5 [], D.val (.int .i64 1)] = F
   | false => (4 ≠ 0 ∧ 4 = 4 ∧ true = true) ∧ 0 = 0 ∧ (∃ (l : List Int), ∃ (m : List Int), [D.arr .u64 4 a, D.arr .u64 4 LW] = [D.arr .u64 4 l, D.arr .u64 4 m] ∧ (okw l ∧ l.length = 4) ∧ okw m ∧ m.length = 4) ∧ True ∧ True ∧ match decide (cmL a LW ≥ (0 : Int)) with
    | true => True ∧ True ∧ (false = false ∧ false = false ∧ True) ∧ D.tup [D.slc 5 [], D.val (.int .i64 1)] = F
    | false => (4 ≠ 0 ∧ 4 = 4 ∧ true = true) ∧ (1 ≤ 4096 ∧ 4 ≤ 256 ∧ 4 ≠ 0) ∧ True ∧ True ∧ ((∃ (k : List Int), [D.ints .u8 p] = [D.ints .u8 k] ∧ isB k) ∧ True) ∧ True ∧ (((sm (AV.d (D.arr .u64 4 a)) ∧ sm (AV.d (D.val (Value.int IntKind.i64 k))) ∧ sm (AV.d (D.val (Value.int IntKind.i64 n))) ∧ sm (AV.d (D.ints .u8 p)) ∧ sm (AV.ptr 4 []) ∧ sm (AV.row 36) ∧ sm (AV.ptr 38 []) ∧ sm (AV.d (D.val (Value.int IntKind.i64 k))) ∧ sm (AV.d (D.val (Value.bool (decide (k < (1 : Int)))))) ∧ sm (AV.d (D.val (Value.bool false))) ∧ sm (AV.d (D.val (Value.int IntKind.i64 k))) ∧ sm (AV.d (D.val (Value.int IntKind.i64 n))) ∧ sm (AV.d (D.val (Value.bool (decide (k > n))))) ∧ sm (AV.d (D.val (Value.bool (decide (k > n))))) ∧ sm (AV.d (D.val (Value.bool false))) ∧ sm (AV.d (D.val (Value.int IntKind.i64 n))) ∧ sm (AV.d (D.val (Value.bool (decide (n > (20 : Int)))))) ∧ sm (AV.d (D.val (Value.bool (decide (n > (20 : Int)))))) ∧ sm (AV.d (D.val (Value.bool false))) ∧ sm (AV.d (D.arr .u64 4 a)) ∧ sm (AV.d (D.arr .u64 4 LW)) ∧ sm (AV.d (D.val (.int .i64 (cmL a LW)))) ∧ sm (AV.d (D.val (Value.bool (decide (cmL a LW ≥ (0 : Int)))))) ∧ sm (AV.d (D.val (Value.bool (decide (cmL a LW ≥ (0 : Int)))))) ∧ sm (AV.d (D.arr .u64 4 a)) ∧ sm (AV.d (D.ints .u8 p)) ∧ sm (AV.ptr 38 []) ∧ True) ∧ (sm (some (Blk.fix (D.arr .u64 4 a))) ∧ some (Blk.row (75 : TypeId) (D.slc 4 [D.arr .u64 4 a])) = some (Blk.row (75 : TypeId) (D.slc 4 (cRow (vB 18446744073709551616 LW) a (sr0 p 0) (1 - 1)))) ∧ some (Blk.fix (stQ (sr0 p 0))) = some (Blk.fix (stQ (cstS (vB 18446744073709551616 LW) (sr0 p 0) (1 - 1)))) ∧ True) ∧ true = true) ∧ 1 ≤ k.toNat ∧ fE (vB 18446744073709551616 LW) (sr0 p 0) (1 - 1) = (0 : Int)) ∧ ∀ (x : Nat), x + 1 ≤ k.toNat ∧ fE (vB 18446744073709551616 LW) (sr0 p 0) x = (0 : Int) → true = true ∧ True ∧ True ∧ True ∧ True ∧ match decide ((↑(cRow (vB 18446744073709551616 LW) a (sr0 p 0) x).length : Int) < k) with
     | true => True ∧ 0 = 0 ∧ (∃ (s : SR), ∃ (l : List Int), [stQ (cstS (vB 18446744073709551616 LW) (sr0 p 0) x), D.arr .u64 4 LW] = [stQ s, D.arr .u64 4 l] ∧ okR s ∧ isN l) ∧ True ∧ (0 < 2 ∧ false = false) ∧ (1 < 2 ∧ false = false) ∧ (True ∧ 4 ≠ 0) ∧ (Sk.arr 4 = Sk.arr 4 ∧ 4 ≠ 0 ∧ 4 = 4 ∧ false = false) ∧ True ∧ True ∧ True ∧ match bwE (gT (srOf (stQ (cstS (vB 18446744073709551616 LW) (sr0 p 0) x))) (vB 18446744073709551616 LW)) (vB 18446744073709551616 LW) != (0 : Int) with
      | true => True ∧ True ∧ True ∧ (false = false ∧ false = false ∧ True) ∧ D.tup [D.slc 5 [], D.val (.int .i64 (bwE (gT (srOf (stQ (cstS (vB 18446744073709551616 LW) (sr0 p 0) x))) (vB 18446744073709551616 LW)) (vB 18446744073709551616 LW)))] = F
      | false => True ∧ (4 ≠ 0 ∧ 4 = 4 ∧ true = true) ∧ (1 ≤ 4096 ∧ 4 ≤ 256 ∧ 4 ≠ 0) ∧ ((75 : TypeId) = (75 : TypeId) ∧ 164 = 164 ∧ true = true ∧ (cRow (vB 18446744073709551616 LW) a (sr0 p 0) x ++ [D.arr .u64 4 (bwV (gT (srOf (stQ (cstS (vB 18446744073709551616 LW) (sr0 p 0) x))) (vB 18446744073709551616 LW)) (vB 18446744073709551616 LW))]).length ≤ 140737488355328 ∧ (cRow (vB 18446744073709551616 LW) a (sr0 p 0) x ++ [D.arr .u64 4 (bwV (gT (srOf (stQ (cstS (vB 18446744073709551616 LW) (sr0 p 0) x))) (vB 18446744073709551616 LW)) (vB 18446744073709551616 LW))]).length * 32 ≤ 140737488355328 ∧ 4 ≠ 0 ∧ 4 = 4) ∧ True ∧ ((sm (AV.d (D.arr .u64 4 a)) ∧ sm (AV.d (D.val (Value.int IntKind.i64 k))) ∧ sm (AV.d (D.val (Value.int IntKind.i64 n))) ∧ sm (AV.d (D.ints .u8 p)) ∧ sm (AV.ptr 4 []) ∧ sm (AV.row 36) ∧ sm (AV.ptr 38 []) ∧ sm (AV.d (D.val (Value.int IntKind.i64 k))) ∧ sm (AV.d (D.val (Value.bool (decide (k < (1 : Int)))))) ∧ sm (AV.d (D.val (Value.bool false))) ∧ sm (AV.d (D.val (Value.int IntKind.i64 k))) ∧ sm (AV.d (D.val (Value.int IntKind.i64 n))) ∧ sm (AV.d (D.val (Value.bool (decide (k > n))))) ∧ sm (AV.d (D.val (Value.bool (decide (k > n))))) ∧ sm (AV.d (D.val (Value.bool false))) ∧ sm (AV.d (D.val (Value.int IntKind.i64 n))) ∧ sm (AV.d (D.val (Value.bool (decide (n > (20 : Int)))))) ∧ sm (AV.d (D.val (Value.bool (decide (n > (20 : Int)))))) ∧ sm (AV.d (D.val (Value.bool false))) ∧ sm (AV.d (D.arr .u64 4 a)) ∧ sm (AV.d (D.arr .u64 4 LW)) ∧ sm (AV.d (D.val (.int .i64 (cmL a LW)))) ∧ sm (AV.d (D.val (Value.bool (decide (cmL a LW ≥ (0 : Int)))))) ∧ sm (AV.d (D.val (Value.bool (decide (cmL a LW ≥ (0 : Int)))))) ∧ sm (AV.d (D.arr .u64 4 a)) ∧ sm (AV.d (D.ints .u8 p)) ∧ sm (AV.ptr 38 []) ∧ True) ∧ (sm (some (Blk.fix (D.arr .u64 4 a))) ∧ some (Blk.row (75 : TypeId) (D.slc 4 (cRow (vB 18446744073709551616 LW) a (sr0 p 0) x ++ [D.arr .u64 4 (bwV (gT (srOf (stQ (cstS (vB 18446744073709551616 LW) (sr0 p 0) x))) (vB 18446744073709551616 LW)) (vB 18446744073709551616 LW))]))) = some (Blk.row (75 : TypeId) (D.slc 4 (cRow (vB 18446744073709551616 LW) a (sr0 p 0) ((cRow (vB 18446744073709551616 LW) a (sr0 p 0) x ++ [D.arr .u64 4 (bwV (gT (srOf (stQ (cstS (vB 18446744073709551616 LW) (sr0 p 0) x))) (vB 18446744073709551616 LW)) (vB 18446744073709551616 LW))]).length - 1)))) ∧ some (Blk.fix (stQ (bwS (srOf (stQ (cstS (vB 18446744073709551616 LW) (sr0 p 0) x))) (vB 18446744073709551616 LW)))) = some (Blk.fix (stQ (cstS (vB 18446744073709551616 LW) (sr0 p 0) ((cRow (vB 18446744073709551616 LW) a (sr0 p 0) x ++ [D.arr .u64 4 (bwV (gT (srOf (stQ (cstS (vB 18446744073709551616 LW) (sr0 p 0) x))) (vB 18446744073709551616 LW)) (vB 18446744073709551616 LW))]).length - 1)))) ∧ True) ∧ true = true) ∧ ((cRow (vB 18446744073709551616 LW) a (sr0 p 0) x ++ [D.arr .u64 4 (bwV (gT (srOf (stQ (cstS (vB 18446744073709551616 LW) (sr0 p 0) x))) (vB 18446744073709551616 LW)) (vB 18446744073709551616 LW))]).length - 1 + 1 ≤ k.toNat ∧ fE (vB 18446744073709551616 LW) (sr0 p 0) ((cRow (vB 18446744073709551616 LW) a (sr0 p 0) x ++ [D.arr .u64 4 (bwV (gT (srOf (stQ (cstS (vB 18446744073709551616 LW) (sr0 p 0) x))) (vB 18446744073709551616 LW)) (vB 18446744073709551616 LW))]).length -
       1) = (0 : Int)) ∧ k.toNat - ((cRow (vB 18446744073709551616 LW) a (sr0 p 0) x ++ [D.arr .u64 4 (bwV (gT (srOf (stQ (cstS (vB 18446744073709551616 LW) (sr0 p 0) x))) (vB 18446744073709551616 LW)) (vB 18446744073709551616 LW))]).length - 1) < k.toNat - x
     | false => True ∧ ((0 : Int) ≤ n ∧ n ≤ n ∧ n ≤ (281474976710656 : Int) ∧ (↑(40 : Nat) : Int) * n ≤ (281474976710656 : Int) ∧ 5 ≠ 0) ∧ True ∧ True ∧ True ∧ True ∧ (((sm (AV.d (D.arr .u64 4 a)) ∧ sm (AV.d (D.val (Value.int IntKind.i64 k))) ∧ sm (AV.d (D.val (Value.int IntKind.i64 n))) ∧ sm (AV.d (D.ints .u8 p)) ∧ sm (AV.ptr 4 []) ∧ sm (AV.row 36) ∧ sm (AV.ptr 38 []) ∧ sm (AV.row 57) ∧ sm (AV.d (D.val (Value.int IntKind.i64 k))) ∧ sm (AV.d (D.val (Value.bool (decide (k < (1 : Int)))))) ∧ sm (AV.d (D.val (Value.bool false))) ∧ sm (AV.d (D.val (Value.int IntKind.i64 k))) ∧ sm (AV.d (D.val (Value.int IntKind.i64 n))) ∧ sm (AV.d (D.val (Value.bool (decide (k > n))))) ∧ sm (AV.d (D.val (Value.bool (decide (k > n))))) ∧ sm (AV.d (D.val (Value.bool false))) ∧ sm (AV.d (D.val (Value.int IntKind.i64 n))) ∧ sm (AV.d (D.val (Value.bool (decide (n > (20 : Int)))))) ∧ sm (AV.d (D.val (Value.bool (decide (n > (20 : Int)))))) ∧ sm (AV.d (D.val (Value.bool false))) ∧ sm (AV.d (D.arr .u64 4 a)) ∧ sm (AV.d (D.arr .u64 4 LW)) ∧ sm (AV.d (D.val (.int .i64 (cmL a LW)))) ∧ sm (AV.d (D.val (Value.bool (decide (cmL a LW ≥ (0 : Int)))))) ∧ sm (AV.d (D.val (Value.bool (decide (cmL a LW ≥ (0 : Int)))))) ∧ sm (AV.d (D.arr .u64 4 a)) ∧ sm (AV.d (D.ints .u8 p)) ∧ sm (AV.ptr 38 []) ∧ sm (AV.row 36) ∧ sm (AV.d (D.val (.int .i64 (↑(cRow (vB 18446744073709551616 LW) a (sr0 p 0) x).length : Int)))) ∧ sm (AV.d (D.val (Value.int IntKind.i64 k))) ∧ sm (AV.d (D.val (Value.bool (decide ((↑(cRow (vB 18446744073709551616 LW) a (sr0 p 0) x).length : Int) < k))))) ∧ sm (AV.d (D.val (Value.int IntKind.i64 n))) ∧ sm (AV.row 57) ∧ sm (AV.row 57) ∧ sm (AV.d (D.val (.int .i64 (↑(List.replicate n.toNat (D.st [D.val (.int .i64 0), D.arr .u64 4 [(0 : Int), (0 : Int), (0 : Int), (0 : Int)]])).length : Int)))) ∧ AV.d (D.val (.int .i64 0)) = AV.d (D.val (.int .i64 (↑(Int.toNat (0 : Int)) : Int))) ∧ True) ∧ (sm (some (Blk.fix (D.arr .u64 4 a))) ∧ sm (some (Blk.row (75 : TypeId) (D.slc 4 (cRow (vB 18446744073709551616 LW) a (sr0 p 0) x)))) ∧ sm (some (Blk.fix (stQ (cstS (vB 18446744073709551616 LW) (sr0 p 0) x)))) ∧ some (Blk.row (167 : TypeId) (D.slc 5 (List.replicate n.toNat (D.st [D.val (.int .i64 0), D.arr .u64 4 [(0 : Int), (0 : Int), (0 : Int), (0 : Int)]])))) = some (Blk.row (167 : TypeId) (D.slc 5 (oRow (cRow (vB 18446744073709551616 LW) a (sr0 p 0) (k.toNat - 1)) k.toNat n.toNat (Int.toNat (0 : Int))))) ∧ True) ∧ true = true) ∧ Int.toNat (0 : Int) ≤ n.toNat ∧ cRow (vB 18446744073709551616 LW) a (sr0 p 0) x = cRow (vB 18446744073709551616 LW) a (sr0 p 0) (k.toNat - 1)) ∧ ∀ (x_1 : Nat), x_1 ≤ n.toNat ∧ cRow (vB 18446744073709551616 LW) a (sr0 p 0) x = cRow (vB 18446744073709551616 LW) a (sr0 p 0) (k.toNat - 1) → true = true ∧ True ∧ match decide ((↑x_1 : Int) < (↑(List.replicate n.toNat (D.st [D.val (.int .i64 0), D.arr .u64 4 [(0 : Int), (0 : Int), (0 : Int), (0 : Int)]])).length : Int)) with
      | true => True ∧ True ∧ True ∧ True ∧ True ∧ ((0 : Int) ≤ IntKind.i64.wrap (k - (1 : Int)) ∧ IntKind.i64.wrap (k - (1 : Int)) < (↑(cRow (vB 18446744073709551616 LW) a (sr0 p 0) x).length : Int) ∧ 4 ≠ 0 ∧ 4 = 4) ∧ ((IntKind.i64.wrap (k - (1 : Int))).toNat < (cRow (vB 18446744073709551616 LW) a (sr0 p 0) x).length ∧ 4 ≠ 0 ∧ 4 = 4 ∧ D.arr .u64 4 (arrOf ((cRow (vB 18446744073709551616 LW) a (sr0 p 0) x).getD (IntKind.i64.wrap (k - (1 : Int))).toNat (D.val (Value.bool false)))) = (cRow (vB 18446744073709551616 LW) a (sr0 p 0) x).getD (IntKind.i64.wrap (k - (1 : Int))).toNat (D.val (Value.bool false)) ∧ true = true) ∧ (True ∧ 4 ≠ 0) ∧ (Sk.arr 4 = Sk.arr 4 ∧ 4 ≠ 0 ∧ 4 = 4 ∧ false = false) ∧ True ∧ True ∧ True ∧ (((sm (AV.d (D.arr .u64 4 a)) ∧ sm (AV.d (D.val (Value.int IntKind.i64 k))) ∧ sm (AV.d (D.val (Value.int IntKind.i64 n))) ∧ sm (AV.d (D.ints .u8 p)) ∧ sm (AV.ptr 4 []) ∧ sm (AV.row 36) ∧ sm (AV.ptr 38 []) ∧ sm (AV.row 57) ∧ sm (AV.d (D.val (.int .i64 (↑x_1 : Int)))) ∧ sm (AV.ptr 16 []) ∧ AV.d (D.val (.int .i64 (IntKind.i64.wrap (k - (2 : Int))))) = AV.d (D.val (.int .i64 ((↑k.toNat : Int) - (2 : Int) - (↑((↑k.toNat : Int) - (2 : Int) - IntKind.i64.wrap (k - (2 : Int))).toNat : Int)))) ∧ sm (AV.d (D.val (Value.int IntKind.i64 k))) ∧ sm (AV.d (D.val (Value.bool (decide (k < (1 : Int)))))) ∧ sm (AV.d (D.val (Value.bool false))) ∧ sm (AV.d (D.val (Value.int IntKind.i64 k))) ∧ sm (AV.d (D.val (Value.int IntKind.i64 n))) ∧ sm (AV.d (D.val (Value.bool (decide (k > n))))) ∧ sm (AV.d (D.val (Value.bool (decide (k > n))))) ∧ sm (AV.d (D.val (Value.bool false))) ∧ sm (AV.d (D.val (Value.int IntKind.i64 n))) ∧ sm (AV.d (D.val (Value.bool (decide (n > (20 : Int)))))) ∧ sm (AV.d (D.val (Value.bool (decide (n > (20 : Int)))))) ∧ sm (AV.d (D.val (Value.bool false))) ∧ sm (AV.d (D.arr .u64 4 a)) ∧ sm (AV.d (D.arr .u64 4 LW)) ∧ sm (AV.d (D.val (.int .i64 (cmL a LW)))) ∧ sm (AV.d (D.val (Value.bool (decide (cmL a LW ≥ (0 : Int)))))) ∧ sm (AV.d (D.val (Value.bool (decide (cmL a LW ≥ (0 : Int)))))) ∧ sm (AV.d (D.arr .u64 4 a)) ∧ sm (AV.d (D.ints .u8 p)) ∧ sm (AV.ptr 38 []) ∧ sm (AV.row 36) ∧ sm (AV.d (D.val (.int .i64 (↑(cRow (vB 18446744073709551616 LW) a (sr0 p 0) x).length : Int)))) ∧ sm (AV.d (D.val (Value.int IntKind.i64 k))) ∧ sm (AV.d (D.val (Value.bool (decide ((↑(cRow (vB 18446744073709551616 LW) a (sr0 p 0) x).length : Int) < k))))) ∧ sm (AV.d (D.val (Value.int IntKind.i64 n))) ∧ sm (AV.row 57) ∧ sm (AV.row 57) ∧ sm (AV.d (D.val (Value.int IntKind.i64 (↑(List.replicate n.toNat (D.st [D.val (.int .i64 0), D.arr .u64 4 [(0 : Int), (0 : Int), (0 : Int), (0 : Int)]])).length : Int)))) ∧ sm (AV.d (D.val (.int .i64 (↑x_1 : Int)))) ∧ sm (AV.d (D.val (Value.bool (decide ((↑x_1 : Int) < (↑(List.replicate n.toNat (D.st [D.val (.int .i64 0), D.arr .u64 4 [(0 : Int), (0 : Int), (0 : Int), (0 : Int)]])).length : Int)))))) ∧ sm (AV.d (D.val (.int .i64 (↑x_1 : Int)))) ∧ sm (AV.row 36) ∧ sm (AV.d (D.val (Value.int IntKind.i64 k))) ∧ sm (AV.d (D.val (.int .i64 (IntKind.i64.wrap (k - (1 : Int)))))) ∧
       sm (AV.d (D.arr .u64 4 (arrOf ((cRow (vB 18446744073709551616 LW) a (sr0 p 0) x).getD (IntKind.i64.wrap (k - (1 : Int))).toNat (D.val (Value.bool false)))))) ∧ sm (AV.d (D.val (Value.int IntKind.i64 k))) ∧ sm (AV.d (D.val (.int .i64 (IntKind.i64.wrap (k - (2 : Int)))))) ∧ True) ∧ (sm (some (Blk.fix (D.arr .u64 4 a))) ∧ some (Blk.fix (D.arr .u64 4 (arrOf ((cRow (vB 18446744073709551616 LW) a (sr0 p 0) x).getD (IntKind.i64.wrap (k - (1 : Int))).toNat (D.val (Value.bool false)))))) = some (Blk.fix (D.arr .u64 4 (hWd (cRow (vB 18446744073709551616 LW) a (sr0 p 0) (k.toNat - 1)) k.toNat ((↑x_1 : Int).toNat + 1) ((↑k.toNat : Int) - (2 : Int) - IntKind.i64.wrap (k - (2 : Int))).toNat))) ∧ sm (some (Blk.row (75 : TypeId) (D.slc 4 (cRow (vB 18446744073709551616 LW) a (sr0 p 0) x)))) ∧ sm (some (Blk.fix (stQ (cstS (vB 18446744073709551616 LW) (sr0 p 0) x)))) ∧ sm (some (Blk.row (167 : TypeId) (D.slc 5 (oRow (cRow (vB 18446744073709551616 LW) a (sr0 p 0) (k.toNat - 1)) k.toNat n.toNat x_1)))) ∧ True) ∧ true = true) ∧ ((↑k.toNat : Int) - (2 : Int) - IntKind.i64.wrap (k - (2 : Int))).toNat + 1 ≤ k.toNat ∧ (↑(↑x_1 : Int).toNat : Int) = (↑x_1 : Int)) ∧ ∀ (x_2 : Nat × Nat), x_2.fst + 1 ≤ k.toNat ∧ (↑x_2.snd : Int) = (↑x_1 : Int) → true = true ∧ True ∧ True ∧ match decide ((↑k.toNat : Int) - (2 : Int) - (↑x_2.fst : Int) ≥ (0 : Int)) with
       | true => (4 ≠ 0 ∧ 4 = 4 ∧ true = true) ∧ True ∧ True ∧ (∃ (n : Int), [D.val (.int .i64 (IntKind.i64.wrap ((↑x_1 : Int) + (1 : Int))))] = [D.val (Value.int IntKind.i64 n)] ∧ (0 : Int) ≤ n ∧ n ≤ (9223372036854775807 : Int)) ∧ (∃ (l : List Int), ∃ (m : List Int), [D.arr .u64 4 (hWd (cRow (vB 18446744073709551616 LW) a (sr0 p 0) (k.toNat - 1)) k.toNat (x_2.snd + 1) x_2.fst), D.arr .u64 4 (nmL (IntKind.i64.wrap ((↑x_1 : Int) + (1 : Int))))] = [D.arr .u64 4 l, D.arr .u64 4 m] ∧ isN l ∧ isN m) ∧ True ∧ True ∧ ((0 : Int) ≤ (↑k.toNat : Int) - (2 : Int) - (↑x_2.fst : Int) ∧ (↑k.toNat : Int) - (2 : Int) - (↑x_2.fst : Int) < (↑(cRow (vB 18446744073709551616 LW) a (sr0 p 0) x).length : Int) ∧ 4 ≠ 0 ∧ 4 = 4) ∧ (((↑k.toNat : Int) - (2 : Int) - (↑x_2.fst : Int)).toNat < (cRow (vB 18446744073709551616 LW) a (sr0 p 0) x).length ∧ 4 ≠ 0 ∧ 4 = 4 ∧ D.arr .u64 4 (arrOf ((cRow (vB 18446744073709551616 LW) a (sr0 p 0) x).getD ((↑k.toNat : Int) - (2 : Int) - (↑x_2.fst : Int)).toNat (D.val (Value.bool false)))) = (cRow (vB 18446744073709551616 LW) a (sr0 p 0) x).getD ((↑k.toNat : Int) - (2 : Int) - (↑x_2.fst : Int)).toNat (D.val (Value.bool false)) ∧ true = true) ∧ (∃ (l : List Int), ∃ (m : List Int), [D.arr .u64 4 (mmL (hWd (cRow (vB 18446744073709551616 LW) a (sr0 p 0) (k.toNat - 1)) k.toNat (x_2.snd + 1) x_2.fst) (nmL (IntKind.i64.wrap ((↑x_1 : Int) + (1 : Int))))), D.arr .u64 4 (arrOf ((cRow (vB 18446744073709551616 LW) a (sr0 p 0) x).getD ((↑k.toNat : Int) - (2 : Int) - (↑x_2.fst : Int)).toNat (D.val (Value.bool false))))] = [D.arr .u64 4 l, D.arr .u64 4 m] ∧ isN l ∧ isN m) ∧ (Sk.arr 4 = Sk.arr 4 ∧ 4 ≠ 0 ∧ 4 = 4 ∧ false = false) ∧ True ∧ True ∧ True ∧ ((sm (AV.d (D.arr .u64 4 a)) ∧ sm (AV.d (D.val (Value.int IntKind.i64 k))) ∧ sm (AV.d (D.val (Value.int IntKind.i64 n))) ∧ sm (AV.d (D.ints .u8 p)) ∧ sm (AV.ptr 4 []) ∧ sm (AV.row 36) ∧ sm (AV.ptr 38 []) ∧ sm (AV.row 57) ∧ sm (AV.d (D.val (.int .i64 (↑x_1 : Int)))) ∧ sm (AV.ptr 16 []) ∧ AV.d (D.val (.int .i64 (IntKind.i64.wrap ((↑k.toNat : Int) - (2 : Int) - (↑x_2.fst : Int) - (1 : Int))))) = AV.d (D.val (.int .i64 ((↑k.toNat : Int) - (2 : Int) - (↑((↑k.toNat : Int) - (2 : Int) - IntKind.i64.wrap ((↑k.toNat : Int) - (2 : Int) - (↑x_2.fst : Int) - (1 : Int))).toNat : Int)))) ∧ sm (AV.d (D.val (Value.int IntKind.i64 k))) ∧ sm (AV.d (D.val (Value.bool (decide (k < (1 : Int)))))) ∧ sm (AV.d (D.val (Value.bool false))) ∧ sm (AV.d (D.val (Value.int IntKind.i64 k))) ∧ sm (AV.d (D.val (Value.int IntKind.i64 n))) ∧ sm (AV.d (D.val (Value.bool (decide (k > n))))) ∧ sm (AV.d (D.val (Value.bool (decide (k > n))))) ∧ sm (AV.d (D.val (Value.bool false))) ∧ sm (AV.d (D.val (Value.int IntKind.i64 n))) ∧ sm (AV.d (D.val (Value.bool (decide (n > (20 : Int)))))) ∧ sm (AV.d (D.val (Value.bool (decide (n > (20 : Int)))))) ∧ sm (AV.d (D.val (Value.bool false))) ∧ sm (AV.d (D.arr .u64 4 a)) ∧ sm (AV.d (D.arr .u64 4 LW)) ∧ sm (AV.d (D.val (.int .i64 (cmL a LW)))) ∧ sm (AV.d (D.val (Value.bool (decide (cmL a LW ≥ (0 : Int)))))) ∧ sm (AV.d (D.val (Value.bool (decide (cmL a LW ≥ (0 : Int)))))) ∧
        sm (AV.d (D.arr .u64 4 a)) ∧ sm (AV.d (D.ints .u8 p)) ∧ sm (AV.ptr 38 []) ∧ sm (AV.row 36) ∧ sm (AV.d (D.val (.int .i64 (↑(cRow (vB 18446744073709551616 LW) a (sr0 p 0) x).length : Int)))) ∧ sm (AV.d (D.val (Value.int IntKind.i64 k))) ∧ sm (AV.d (D.val (Value.bool (decide ((↑(cRow (vB 18446744073709551616 LW) a (sr0 p 0) x).length : Int) < k))))) ∧ sm (AV.d (D.val (Value.int IntKind.i64 n))) ∧ sm (AV.row 57) ∧ sm (AV.row 57) ∧ sm (AV.d (D.val (Value.int IntKind.i64 (↑(List.replicate n.toNat (D.st [D.val (.int .i64 0), D.arr .u64 4 [(0 : Int), (0 : Int), (0 : Int), (0 : Int)]])).length : Int)))) ∧ sm (AV.d (D.val (.int .i64 (↑x_1 : Int)))) ∧ sm (AV.d (D.val (Value.bool (decide ((↑x_1 : Int) < (↑(List.replicate n.toNat (D.st [D.val (.int .i64 0), D.arr .u64 4 [(0 : Int), (0 : Int), (0 : Int), (0 : Int)]])).length : Int)))))) ∧ sm (AV.d (D.val (.int .i64 (↑x_1 : Int)))) ∧ sm (AV.row 36) ∧ sm (AV.d (D.val (Value.int IntKind.i64 k))) ∧ sm (AV.d (D.val (.int .i64 (IntKind.i64.wrap (k - (1 : Int)))))) ∧ sm (AV.d (D.arr .u64 4 (arrOf ((cRow (vB 18446744073709551616 LW) a (sr0 p 0) x).getD (IntKind.i64.wrap (k - (1 : Int))).toNat (D.val (Value.bool false)))))) ∧ sm (AV.d (D.val (Value.int IntKind.i64 k))) ∧ sm (AV.d (D.val (.int .i64 (IntKind.i64.wrap (k - (2 : Int)))))) ∧ True) ∧ (sm (some (Blk.fix (D.arr .u64 4 a))) ∧ some (Blk.fix (D.arr .u64 4 (amL (mmL (hWd (cRow (vB 18446744073709551616 LW) a (sr0 p 0) (k.toNat - 1)) k.toNat (x_2.snd + 1) x_2.fst) (nmL (IntKind.i64.wrap ((↑x_1 : Int) + (1 : Int))))) (arrOf ((cRow (vB 18446744073709551616 LW) a (sr0 p 0) x).getD ((↑k.toNat : Int) - (2 : Int) - (↑x_2.fst : Int)).toNat (D.val (Value.bool false))))))) = some (Blk.fix (D.arr .u64 4 (hWd (cRow (vB 18446744073709551616 LW) a (sr0 p 0) (k.toNat - 1)) k.toNat ((↑x_1 : Int).toNat + 1) ((↑k.toNat : Int) - (2 : Int) - IntKind.i64.wrap ((↑k.toNat : Int) - (2 : Int) - (↑x_2.fst : Int) - (1 : Int))).toNat))) ∧ sm (some (Blk.row (75 : TypeId) (D.slc 4 (cRow (vB 18446744073709551616 LW) a (sr0 p 0) x)))) ∧ sm (some (Blk.fix (stQ (cstS (vB 18446744073709551616 LW) (sr0 p 0) x)))) ∧ sm (some (Blk.row (167 : TypeId) (D.slc 5 (oRow (cRow (vB 18446744073709551616 LW) a (sr0 p 0) (k.toNat - 1)) k.toNat n.toNat x_1)))) ∧ True) ∧ true = true) ∧ (((↑k.toNat : Int) - (2 : Int) - IntKind.i64.wrap ((↑k.toNat : Int) - (2 : Int) - (↑x_2.fst : Int) - (1 : Int))).toNat + 1 ≤ k.toNat ∧ (↑(↑x_1 : Int).toNat : Int) = (↑x_1 : Int)) ∧ k.toNat - ((↑k.toNat : Int) - (2 : Int) - IntKind.i64.wrap ((↑k.toNat : Int) - (2 : Int) - (↑x_2.fst : Int) - (1 : Int))).toNat < k.toNat - x_2.fst
       | false => True ∧ True ∧ True ∧ True ∧ (4 ≠ 0 ∧ 4 = 4 ∧ true = true) ∧ (false = false ∧ (0 < 2 ∧ Sk.one = Sk.one) ∧ false = false ∧ (1 < 2 ∧ Sk.arr 4 = Sk.arr 4) ∧ True) ∧ ((0 : Int) ≤ (↑x_1 : Int) ∧ (↑x_1 : Int) < (↑(oRow (cRow (vB 18446744073709551616 LW) a (sr0 p 0) (k.toNat - 1)) k.toNat n.toNat x_1).length : Int) ∧ 5 ≠ 0 ∧ 5 = 5) ∧ ((↑x_1 : Int).toNat < (oRow (cRow (vB 18446744073709551616 LW) a (sr0 p 0) (k.toNat - 1)) k.toNat n.toNat x_1).length ∧ 5 = 5 ∧ 5 ≠ 0 ∧ 5 = 5) ∧ True ∧ True ∧ ((sm (AV.d (D.arr .u64 4 a)) ∧ sm (AV.d (D.val (Value.int IntKind.i64 k))) ∧ sm (AV.d (D.val (Value.int IntKind.i64 n))) ∧ sm (AV.d (D.ints .u8 p)) ∧ sm (AV.ptr 4 []) ∧ sm (AV.row 36) ∧ sm (AV.ptr 38 []) ∧ sm (AV.row 57) ∧ sm (AV.d (D.val (Value.int IntKind.i64 k))) ∧ sm (AV.d (D.val (Value.bool (decide (k < (1 : Int)))))) ∧ sm (AV.d (D.val (Value.bool false))) ∧ sm (AV.d (D.val (Value.int IntKind.i64 k))) ∧ sm (AV.d (D.val (Value.int IntKind.i64 n))) ∧ sm (AV.d (D.val (Value.bool (decide (k > n))))) ∧ sm (AV.d (D.val (Value.bool (decide (k > n))))) ∧ sm (AV.d (D.val (Value.bool false))) ∧ sm (AV.d (D.val (Value.int IntKind.i64 n))) ∧ sm (AV.d (D.val (Value.bool (decide (n > (20 : Int)))))) ∧ sm (AV.d (D.val (Value.bool (decide (n > (20 : Int)))))) ∧ sm (AV.d (D.val (Value.bool false))) ∧ sm (AV.d (D.arr .u64 4 a)) ∧ sm (AV.d (D.arr .u64 4 LW)) ∧ sm (AV.d (D.val (.int .i64 (cmL a LW)))) ∧ sm (AV.d (D.val (Value.bool (decide (cmL a LW ≥ (0 : Int)))))) ∧ sm (AV.d (D.val (Value.bool (decide (cmL a LW ≥ (0 : Int)))))) ∧ sm (AV.d (D.arr .u64 4 a)) ∧ sm (AV.d (D.ints .u8 p)) ∧ sm (AV.ptr 38 []) ∧ sm (AV.row 36) ∧ sm (AV.d (D.val (.int .i64 (↑(cRow (vB 18446744073709551616 LW) a (sr0 p 0) x).length : Int)))) ∧ sm (AV.d (D.val (Value.int IntKind.i64 k))) ∧ sm (AV.d (D.val (Value.bool (decide ((↑(cRow (vB 18446744073709551616 LW) a (sr0 p 0) x).length : Int) < k))))) ∧ sm (AV.d (D.val (Value.int IntKind.i64 n))) ∧ sm (AV.row 57) ∧ sm (AV.row 57) ∧ sm (AV.d (D.val (Value.int IntKind.i64 (↑(List.replicate n.toNat (D.st [D.val (.int .i64 0), D.arr .u64 4 [(0 : Int), (0 : Int), (0 : Int), (0 : Int)]])).length : Int)))) ∧ AV.d (D.val (.int .i64 (IntKind.i64.wrap ((↑x_1 : Int) + (1 : Int))))) = AV.d (D.val (.int .i64 (↑(IntKind.i64.wrap ((↑x_1 : Int) + (1 : Int))).toNat : Int))) ∧ True) ∧ (sm (some (Blk.fix (D.arr .u64 4 a))) ∧ sm (some (Blk.row (75 : TypeId) (D.slc 4 (cRow (vB 18446744073709551616 LW) a (sr0 p 0) x)))) ∧ sm (some (Blk.fix (stQ (cstS (vB 18446744073709551616 LW) (sr0 p 0) x)))) ∧ some (Blk.row (167 : TypeId) (D.slc 5 ((oRow (cRow (vB 18446744073709551616 LW) a (sr0 p 0) (k.toNat - 1)) k.toNat n.toNat x_1).set (↑x_1 : Int).toNat (D.st [D.val (.int .i64 (IntKind.i64.wrap ((↑x_1 : Int) + (1 : Int)))), D.arr .u64 4 (hWd (cRow (vB 18446744073709551616 LW) a (sr0 p 0) (k.toNat - 1)) k.toNat (x_2.snd + 1) x_2.fst)])))) = some (Blk.row (167 : TypeId) (D.slc 5 (oRow (cRow (vB 18446744073709551616 LW) a (sr0 p 0) (k.toNat - 1)) k.toNat n.toNat (IntKind.i64.wrap ((↑x_1 : Int) + (1 : Int))).toNat))) ∧
        True) ∧ true = true) ∧ ((IntKind.i64.wrap ((↑x_1 : Int) + (1 : Int))).toNat ≤ n.toNat ∧ cRow (vB 18446744073709551616 LW) a (sr0 p 0) x = cRow (vB 18446744073709551616 LW) a (sr0 p 0) (k.toNat - 1)) ∧ n.toNat - (IntKind.i64.wrap ((↑x_1 : Int) + (1 : Int))).toNat < n.toNat - x_1
      | false => True ∧ True ∧ True ∧ (false = false ∧ false = false ∧ True) ∧ D.tup [D.slc 5 (oRow (cRow (vB 18446744073709551616 LW) a (sr0 p 0) (k.toNat - 1)) k.toNat n.toNat x_1), D.val (.int .i64 0)] = F) := by kernel_rfl
end Go.Proofs.YtkicjckhkefnpaaDoor
namespace Go.Proofs.YtkicjckhkefnpaaDoor
open Go Go.Vg
theorem vLW : vB 18446744073709551616 LW = LQ := by
 unfold LW
 rw [opq_eq, n4v' LQ_lt]
theorem isN_LW : isN LW := by unfold LW; rw [opq_eq]; exact isN_nB _
theorem isN_am (l m : List Int) : isN (amL l m) := by unfold amL; rw [opq_eq]; exact isN_nB _
theorem isN_mm (l m : List Int) : isN (mmL l m) := by unfold mmL; rw [opq_eq]; exact isN_nB _
theorem isN_nm (x : Int) : isN (nmL x) := by unfold nmL; rw [opq_eq]; exact isN_nB _
theorem isN_bw (g : Nat → Nat) (v : Nat) : isN (bwV g v) := by
 unfold bwV
 split
 ·exact isN_nB _
 ·split <;> exact isN_nB _
theorem cRow_len (v : Nat) (a : List Int) (s : SR) (i : Nat) : (cRow v a s i).length = i + 1 := by unfold cRow; simp
theorem cRow_succ (v : Nat) (a : List Int) (s : SR) (i : Nat) : cRow v a s i ++ [num4 (cX v s i)] = cRow v a s (i + 1) := by
 unfold cRow
 rw [List.range_succ, List.map_append]
 rfl
theorem cRow_at (v : Nat) {a : List Int} (ha : isN a) (s : SR) {i j : Nat} (h : j < i + 1) : ∃ m, (cRow v a s i).getD j default = num4 m ∧ isN m := by
 unfold cRow
 cases j with
 | zero => exact ⟨a, rfl, ha⟩
 | succ j =>
  refine ⟨cX v s j, ?_, isN_bw _ _⟩
  rw [List.getD_cons_succ, List.getD_eq_getElem?_getD, List.getElem?_map, List.getElem?_range (by omega)]
  rfl
theorem hWd_isN (v : Nat) {a : List Int} (ha : isN a) (s : SR) {k : Nat} (hk : 0 < k) (x : Nat) : ∀ t, isN (hWd (cRow v a s (k - 1)) k x t)
 | 0 => by
  obtain ⟨m, e, hm⟩ := cRow_at v ha s (i := k - 1) (j := k - 1) (by omega)
  unfold hWd
  rw [e]
  exact hm
 | t + 1 => by unfold hWd; exact isN_am _ _
theorem oRow_len (c : List D) (k n i : Nat) (h : i ≤ n) : (oRow c k n i).length = n := by unfold oRow; simp; omega
theorem oRow_zero (c : List D) (k n : Nat) : oRow c k n 0 = List.replicate n (.st [i64 0, num4 [0, 0, 0, 0]]) := by unfold oRow; rw [List.range_zero, List.map_nil, List.nil_append, Nat.sub_zero]
theorem oRow_set (c : List D) (k : Nat) {n i : Nat} (h : i < n) : (oRow c k n i).set i (shW c k i) = oRow c k n (i + 1) := by
 unfold oRow
 rw [List.set_append_right _ _ (by simp), show i - ((List.range i).map (shW c k)).length = 0 by simp, show n - i = (n - (i + 1)) + 1 by omega, List.replicate_succ, List.set_cons_zero, List.range_succ, List.map_append, List.append_assoc]
 rfl
theorem m55o : Meets Tryd.prog 55 sp55o := by
 have e : sp55o = sp55 := by
  unfold sp55o LW
  simp only [opq_eq]
  rfl
 rw [e]; exact m55
theorem m59o : Meets Tryd.prog 59 sp59o := by
 have e : sp59o = sp59 := by
  unfold sp59o amL
  simp only [opq_eq]
  rfl
 rw [e]; exact m59
theorem m62o : Meets Tryd.prog 62 sp62o := by
 have e : sp62o = sp62 := by
  unfold sp62o mmL
  simp only [opq_eq]
  rfl
 rw [e]; exact m62
set_option maxRecDepth 100000 in
theorem m114 : Meets Tryd.prog 114 sp114 := by
 refine meets_of_owed (C := c0) ⟨tab_ok, fun f s h => by cases h⟩ (by kernel_rfl) (by kernel_rfl : Tryd.prog.funcs[114]? = some Tryd.f114) (by kernel_rfl) (by kernel_rfl) (by kernel_rfl) _ ?_
 rintro _ ⟨n, rfl, h0, h1⟩
 refine ⟨fun _ => rfl, fun _ => none, ?_⟩
 show owed c0 (fun _ => none) Tryd.f114 [i64 n] (num4 (nB 18446744073709551616 4 n.toNat))
 rw [vc114]
 obtain ⟨m, rfl⟩ := Int.eq_ofNat_of_zero_le h0
 simp (decide := true) only [eq_self, true_and, and_true, ne_eq, not_false_eq_true]
 rw [wN64, Int.toNat_natCast, Nat.mod_eq_of_lt (by omega)]
 have e : nB 18446744073709551616 4 m = [(m : Int), 0, 0, 0] := by
  have h : m / 18446744073709551616 = 0 := Nat.div_eq_of_lt (by omega)
  simp [nB, h]
  omega
 rw [e]
theorem m114o : Meets Tryd.prog 114 sp114o := by
 have e : sp114o = sp114 := by
  unfold sp114o nmL
  simp only [opq_eq]
  rfl
 rw [e]; exact m114
def badS (a : List Int) (k n : Int) : Prop := k < 1 ∨ k > n ∨ n > 20 ∨ LQ ≤ vB 18446744073709551616 a
open Classical in
noncomputable def shE (a : List Int) (k n : Int) (p : List Int) : Int := if badS a k n then 1 else fE LQ (sr0 p 0) (k.toNat - 1)
open Classical in
noncomputable def shX (a : List Int) (k n : Int) (p : List Int) : List D := if shE a k n p = 0 then (List.range n.toNat).map (shW (cRow LQ a (sr0 p 0) (k.toNat - 1)) k.toNat) else []
noncomputable def sp67 : Go.Vg.Spec := ⟨fun ds => ∃ a k n p, ds = [num4 a, i64 k, i64 n, .ints .u8 p] ∧ isN a ∧ isB p, fun ds => .tup [.slc 5 (shX (arrOf (ds.headD default)) (numOf (ds.getD 1 default)) (numOf (ds.getD 2 default)) (intsOf (ds.getD 3 default))),
 i64 (shE (arrOf (ds.headD default)) (numOf (ds.getD 1 default)) (numOf (ds.getD 2 default)) (intsOf (ds.getD 3 default)))], false, [75, 3, 3, 26]⟩
end Go.Proofs.YtkicjckhkefnpaaDoor
namespace Go.Proofs.YtkicjckhkefnpaaDoor
open Go Go.Vg
theorem cst_ok {v : Nat} {s : SR} (h : okR s) : ∀ i, okR (cstS v s i)
 | 0 => h
 | i + 1 => by
  show okR (bwS (cstS v s i) v)
  unfold bwS
  exact itS_ok (cst_ok h i) _
theorem sr0_ok {k : List Int} (hk : isB k) : okR (sr0 k 0) := (VS.zero k).ok hk
theorem fE_zero {v : Nat} {s : SR} {m : Nat} : fE v s m = 0 ↔ ∀ i, i < m → bwE (gT (cstS v s i) v) v = 0 := by
 induction m with
 | zero => exact ⟨fun _ i hi => absurd hi (Nat.not_lt_zero i), fun _ => rfl⟩
 | succ m ih =>
  unfold fE
  constructor
  ·intro h
   by_cases h0 : fE v s m = 0
   ·rw [if_pos h0] at h
    intro i hi
    by_cases e : i = m
    ·rw [e]; exact h
    ·exact ih.1 h0 i (by omega)
   ·rw [if_neg h0] at h
    exact absurd h h0
  ·intro h
   have h0 := ih.2 fun i hi => h i (by omega)
   rw [if_pos h0]
   exact h m (by omega)
theorem cRow_0 (v : Nat) (a : List Int) (s : SR) : cRow v a s 0 = [num4 a] := rfl
theorem cst_0 (v : Nat) (s : SR) : cstS v s 0 = s := rfl
theorem fE_0 (v : Nat) (s : SR) : fE v s 0 = 0 := rfl
theorem fE_stop {v : Nat} {s : SR} {m x : Nat} (hx : x < m) (h : ∀ i, i < x → bwE (gT (cstS v s i) v) v = 0) (hn : bwE (gT (cstS v s x) v) v ≠ 0) : fE v s m = bwE (gT (cstS v s x) v) v := by
 induction m with
 | zero => omega
 | succ m ih =>
  unfold fE
  by_cases e : x = m
  ·subst e
   rw [if_pos (fE_zero.2 h)]
  ·have := ih (by omega)
   rw [this, if_neg hn]
set_option maxRecDepth 100000 in
theorem m67 : Meets Tryd.prog 67 sp67 := by
 refine meets_of_owed (C := c67) ⟨tab_ok, lkS_ok ⟨m55o, m98o, m40q, m41, m114o, m62o, m59o, trivial⟩⟩ (by kernel_rfl) (by kernel_rfl : Tryd.prog.funcs[67]? = some Tryd.f67) (by kernel_rfl) (by kernel_rfl) (by kernel_rfl) _ ?_
 rintro _ ⟨a, k, n, p, rfl, ha, hp⟩
 refine ⟨fun h => (by cases h), inv67 a k.toNat n.toNat (sr0 p 0), ?_⟩
 show owed c67 (inv67 a k.toNat n.toNat (sr0 p 0)) Tryd.f67 [num4 a, i64 k, i64 n, .ints .u8 p] (.tup [.slc 5 (shX a k n p), i64 (shE a k n p)])
 rw [vc67]
 have hb1 : badS a k n → shX a k n p = [] ∧ shE a k n p = 1 := fun h => by
  have e : shE a k n p = 1 := by unfold shE; rw [if_pos h]
  refine ⟨?_, e⟩
  unfold shX
  rw [e, if_neg (by decide)]
 by_cases h1 : k < 1
 ·rw [(hb1 (.inl h1)).1, (hb1 (.inl h1)).2, decide_eq_true h1]
  simp (decide := true) only [eq_self, true_and, and_true, ne_eq, not_false_eq_true]
 by_cases h2 : k > n
 ·rw [(hb1 (.inr (.inl h2))).1, (hb1 (.inr (.inl h2))).2, decide_eq_false h1, decide_eq_true h2]
  simp (decide := true) only [eq_self, true_and, and_true, ne_eq, not_false_eq_true]
 by_cases h3 : n > 20
 ·rw [(hb1 (.inr (.inr (.inl h3)))).1, (hb1 (.inr (.inr (.inl h3)))).2, decide_eq_false h1, decide_eq_false h2, decide_eq_true h3]
  simp (decide := true) only [eq_self, true_and, and_true, ne_eq, not_false_eq_true]
 rw [decide_eq_false h1, decide_eq_false h2, decide_eq_false h3]
 have hcm : cmL a LW = cmpN (vB 18446744073709551616 a) LQ := by unfold cmL; rw [opq_eq, vLW]
 have hlq := isN_LW
 by_cases h4 : LQ ≤ vB 18446744073709551616 a
 ·have : cmL a LW ≥ 0 := by
   rw [hcm]; unfold cmpN; rw [if_neg (by omega)]; split <;> decide
  rw [(hb1 (.inr (.inr (.inr h4)))).1, (hb1 (.inr (.inr (.inr h4)))).2, decide_eq_true this]
  simp (decide := true) only [eq_self, true_and, and_true, ne_eq, not_false_eq_true]
  exact ⟨a, LW, rfl, ha, hlq⟩
 have hc4 : ¬ cmL a LW ≥ 0 := by
  rw [hcm]; unfold cmpN; rw [if_pos (by omega)]; decide
 rw [decide_eq_false hc4]
 have hbad : ¬ badS a k n := by
  rintro (h | h | h | h)
  ·exact h1 h
  ·exact h2 h
  ·exact h3 h
  ·exact h4 h
 have hE : shE a k n p = fE LQ (sr0 p 0) (k.toNat - 1) := by unfold shE; rw [if_neg hbad]
 have hs0 := sr0_ok hp
 obtain ⟨K, hK⟩ : ∃ K : Nat, k = K := Int.eq_ofNat_of_zero_le (by omega)
 obtain ⟨N, hN⟩ : ∃ N : Nat, n = N := Int.eq_ofNat_of_zero_le (by omega)
 subst hK hN
 have hK1 : 1 ≤ K := by omega
 have hKN : K ≤ N := by omega
 have hN20 : N ≤ 20 := by omega
 simp (decide := true) only [vLW, srOq, cRow_len, List.length_append, List.length_singleton, Nat.add_sub_cancel, Int.toNat_natCast, sm, show Int.toNat 0 = 0 from rfl, Nat.sub_self, List.length_replicate, eq_self, true_and, and_true, ne_eq, not_false_eq_true]
 rw [cRow_0, cst_0, fE_0]
 refine ⟨⟨a, LW, rfl, ha, hlq⟩, ⟨p, rfl, hp⟩, ⟨⟨rfl, rfl⟩, hK1, rfl⟩, fun x hx => ?_⟩
 obtain ⟨hx, hfx⟩ := hx
 split
 ·rename_i hlt0
  have hlt : x + 1 < K := by have := of_decide_eq_true hlt0; omega
  have hall := fE_zero.1 hfx
  have hstop : bwE (gT (cstS LQ (sr0 p 0) x) LQ) LQ ≠ 0 → fE LQ (sr0 p 0) (K - 1) = bwE (gT (cstS LQ (sr0 p 0) x) LQ) LQ := fun h => fE_stop (by omega) hall h
  have hf2 : bwE (gT (cstS LQ (sr0 p 0) x) LQ) LQ = 0 → fE LQ (sr0 p 0) (x + 1) = 0 := fun h => by
   unfold fE
   rw [if_pos hfx, h]
  have hok := cst_ok (v := LQ) hs0 x
  have hcs : cRow LQ a (sr0 p 0) x ++ [num4 (bwV (gT (cstS LQ (sr0 p 0) x) LQ) LQ)] = cRow LQ a (sr0 p 0) (x + 1) := cRow_succ LQ a (sr0 p 0) x
  have hst : bwS (cstS LQ (sr0 p 0) x) LQ = cstS LQ (sr0 p 0) (x + 1) := rfl
  generalize bwE (gT (cstS LQ (sr0 p 0) x) LQ) LQ = e at *
  refine ⟨⟨cstS LQ (sr0 p 0) x, LW, rfl, hok, hlq⟩, ?_⟩
  by_cases he : e = 0
  ·subst he
   rw [show ((0 : Int) != 0) = false from rfl, hst]
   refine ⟨by omega, ⟨?_, rfl⟩, ⟨by omega, hf2 rfl⟩, by omega⟩
   rw [← hcs]
  ·have hne : (e != 0) = true := by simpa using he
   rw [hne]
   have e1 : shE a (K : Int) (N : Int) p = e := by
    rw [hE, Int.toNat_natCast]
    exact hstop he
   have e2 : shX a (K : Int) (N : Int) p = [] := by
    unfold shX
    rw [e1, if_neg he]
   rw [e1, e2]
 ·rename_i hlt0
  have hlt0 := of_decide_eq_false hlt0
  obtain rfl : x = K - 1 := by omega
  have hE0 : shE a (K : Int) (N : Int) p = 0 := by rw [hE, Int.toNat_natCast]; exact hfx
  have hX : shX a (K : Int) (N : Int) p = (List.range N).map (shW (cRow LQ a (sr0 p 0) (K - 1)) K) := by
   unfold shX
   rw [hE0, if_pos rfl, Int.toNat_natCast, Int.toNat_natCast]
  have hat := fun j => cRow_at LQ ha (sr0 p 0) (i := K - 1) (j := j)
  have hhw := hWd_isN LQ ha (sr0 p 0) (k := K) (by omega)
  have w1 : IntKind.i64.wrap ((K : Int) - 1) = ((K - 1 : Nat) : Int) := by rw [wi (by omega) (by omega)]; omega
  have w2 : IntKind.i64.wrap ((K : Int) - 2) = (K : Int) - 2 := wi (by omega) (by omega)
  have hol : ∀ i, i ≤ N → (oRow (cRow LQ a (sr0 p 0) (K - 1)) K N i).length = N := fun i hi => oRow_len _ _ _ _ hi
  have hset : ∀ i, i < N → (oRow (cRow LQ a (sr0 p 0) (K - 1)) K N i).set i (shW (cRow LQ a (sr0 p 0) (K - 1)) K i) = oRow (cRow LQ a (sr0 p 0) (K - 1)) K N (i + 1) := fun i hi => oRow_set _ _ hi
  rw [hE0, hX]
  have hw0 : ∀ x, hWd (cRow LQ a (sr0 p 0) (K - 1)) K x 0 = arrOf ((cRow LQ a (sr0 p 0) (K - 1)).getD (K - 1) default) := fun _ => rfl
  have hwS : ∀ x t, hWd (cRow LQ a (sr0 p 0) (K - 1)) K x (t + 1) = amL (mmL (hWd (cRow LQ a (sr0 p 0) (K - 1)) K x t) (nmL (x : Int))) (arrOf ((cRow LQ a (sr0 p 0) (K - 1)).getD (K - 2 - t) default)) := fun _ _ => rfl
  have hsh : ∀ i, shW (cRow LQ a (sr0 p 0) (K - 1)) K i = .st [i64 ((i + 1 : Nat) : Int), num4 (hWd (cRow LQ a (sr0 p 0) (K - 1)) K (i + 1) (K - 1))] := fun _ => rfl
  generalize cRow LQ a (sr0 p 0) (K - 1) = C at *
  have hdef : (D.val (Value.bool false)) = (default : D) := rfl
  rw [oRow_zero]
  refine ⟨by omega, ⟨⟨rfl, rfl⟩, Nat.zero_le _, rfl⟩, fun i hi => ?_⟩
  have hi := hi.1
  by_cases hiN : i < N
  ·rw [decide_eq_true (show (i : Int) < (N : Int) by omega)]
   have w3 : IntKind.i64.wrap ((i : Int) + 1) = ((i + 1 : Nat) : Int) := by rw [wi (by omega) (by omega)]; omega
   obtain ⟨m0, e0, hm0⟩ := hat (K - 1) (by omega)
   simp only [w1, w2, w3, Int.toNat_natCast, Int.sub_self, Int.toNat_zero, hdef]
   refine ⟨⟨by omega, by omega⟩, ⟨by omega, by rw [e0]; rfl⟩, ⟨⟨by rw [show ((0 : Nat) : Int) = 0 from rfl, Int.sub_zero], by rw [hw0]⟩, by omega⟩, fun y hy => ?_⟩
   obtain ⟨t, i'⟩ := y
   obtain ⟨ht, hi'⟩ := hy
   simp only at ht hi' ⊢
   obtain rfl : i' = i := by omega
   by_cases hge : t + 1 < K
   ·rw [decide_eq_true (show (K : Int) - 2 - (t : Int) ≥ 0 by omega)]
    have w4 : (K : Int) - 2 - (t : Int) = ((K - 2 - t : Nat) : Int) := by omega
    have w5 : IntKind.i64.wrap (((K - 2 - t : Nat) : Int) - 1) = (K : Int) - 2 - ((t + 1 : Nat) : Int) := by rw [wi (by omega) (by omega)]; omega
    have w6 : ((K : Int) - 2 - ((K : Int) - 2 - ((t + 1 : Nat) : Int))).toNat = t + 1 := by omega
    obtain ⟨m1, e1, hm1⟩ := hat (K - 2 - t) (by omega)
    rw [w4]
    simp only [w5, w6, Int.toNat_natCast]
    refine ⟨⟨_, rfl, by omega, by omega⟩, ⟨_, _, rfl, hhw _ _, isN_nm _⟩, ⟨by omega, by omega⟩, ⟨by omega, by rw [e1]; rfl⟩, ⟨_, _, rfl, isN_mm _ _, by rw [e1]; exact hm1⟩, ?_, by omega, by omega⟩
    rw [hwS]
    and_intros <;> first | trivial | rfl
   ·obtain rfl : t = K - 1 := by omega
    rw [decide_eq_false (show ¬ (K : Int) - 2 - ((K - 1 : Nat) : Int) ≥ 0 by omega)]
    rw [← hsh, hset _ hiN, hol _ hi]
    refine ⟨⟨by omega, by omega⟩, hiN, by and_intros <;> first | trivial | rfl, ⟨by omega, trivial⟩, by omega⟩
  ·obtain rfl : i = N := by omega
   rw [decide_eq_false (show ¬ (i : Int) < (i : Int) by omega)]
   unfold oRow
   rw [Nat.sub_self, List.replicate_zero, List.append_nil]
end Go.Proofs.YtkicjckhkefnpaaDoor
namespace Go.Proofs.YtkicjckhkefnpaaDoor
open Go Go.Vg
def atN (k : List Int) (v : Nat) : Nat → Nat
 | 0 => 0
 | i + 1 => (atN k v i + bwN (gR k (atN k v i) v) v) % 18446744073709551616
def dX (k : List Int) (v j : Nat) : List Int := bwV (gR k (atN k v j) v) v
def dRow (a k : List Int) (v i : Nat) : List D := dgs (dg (vB 18446744073709551616 a)) :: (List.range i).map fun j => dgs (dg (vB 18446744073709551616 (dX k v j)))
def fdE (k : List Int) (v : Nat) : Nat → Int
 | 0 => 0
 | m + 1 => if fdE k v m = 0 then bwE (gR k (atN k v m) v) v else fdE k v m
def plN (c : List D) (x : Nat) : Nat → Nat
 | 0 => 0
 | j + 1 => plN c x j + vB 65536 (intsOf (c.getD j default)) * x ^ j
noncomputable def rsW (c : List D) (k x : Nat) : List Int := toF (rsF (dg (plN c x k)) dgL)
noncomputable def rRow (c : List D) (k i : Nat) : List D := (List.range i).map fun j => .st [i64 ((j + 1 : Nat) : Int), num4 (rsW c k (j + 1))]
noncomputable def c68 : Ctx := ⟨tab, lkS [(47, sp47), (48, sp48), (99, sp99), (50, sp50o), (42, sp42), (54, sp54o), (53, sp53o), (51, sp51o)], [41, 15], []⟩
noncomputable def inv68 (a k : List Int) (K N : Nat) : Nat → Option Inv
 | 5 => some ⟨Nat, fun i => [(10, .row 41), (41, .any), (11, .d (u64 (atN k (vB 18446744073709551616 (toF dgL)) i : Nat)))], fun i => [(41, .row 89 (.slc 1 (dRow a k (vB 18446744073709551616 (toF dgL)) i)))], fun t => (rowX t 41).length - 1, fun _ i => i + 1 ≤ K ∧ fdE k (vB 18446744073709551616 (toF dgL)) i = 0, fun i => K - i⟩
 | 13 => some ⟨Nat, fun i => [(16, .d (i64 ((i + 1 : Nat) : Int))), (15, .row 15)], fun i => [(15, .row 167 (.slc 5 (rRow (dRow a k (vB 18446744073709551616 (toF dgL)) (K - 1)) K i)))], fun t => (slotN t 16).toNat - 1, fun s i => i ≤ N ∧ rowX s 41 = dRow a k (vB 18446744073709551616 (toF dgL)) (K - 1), fun i => N - i⟩
 | 18 => some ⟨Nat × Nat, fun y => [(75, .d (i64 (y.1 : Int))), (17, .d (dgs (dg (plN (dRow a k (vB 18446744073709551616 (toF dgL)) (K - 1)) y.2 y.1)))), (18, .d (dgs (dg (y.2 ^ y.1))))], fun _ => [], fun t => ((slotN t 75).toNat, (slotN t 16).toNat), fun s y => y.1 ≤ K ∧ (y.2 : Int) = slotN s 16, fun y => K - y.1⟩
 | _ => none
set_option maxRecDepth 100000 in
theorem vc68  (a : List Int) (k n : Int) (p : List Int) (F : D)  :
    (owed c68 (inv68 a p k.toNat n.toNat) Tryd.f68 [num4 a, i64 k, i64 n, .str p] F) = (
 (True ∧ false = false) ∧ True ∧ True ∧ True ∧ True ∧ True ∧ match decide (k < (1 : Int)) with
 | true => True ∧ True ∧ True ∧ True ∧ True ∧ True ∧ True ∧ (false = false ∧ false = false ∧ True) ∧ D.tup [D.slc 5 [], D.val (.int .i64 1)] = F
 | false => True ∧ True ∧ True ∧ True ∧ True ∧ match decide (n < k) with
  | true => True ∧ True ∧ True ∧ True ∧ True ∧ (false = false ∧ false = false ∧ True) ∧ D.tup [D.slc 5 [], D.val (.int .i64 1)] = F
  | false => True ∧ True ∧ True ∧ True ∧ match decide (n > (20 : Int)) with
   | true => True ∧ True ∧ True ∧ (false = false ∧ false = false ∧ True) ∧ D.tup [D.slc 5 [], D.val (.int .i64 1)] = F
   | false => (4 ≠ 0 ∧ 4 = 4 ∧ true = true) ∧ (∃ (l : List Int), [D.arr .u64 4 a] = [D.arr .u64 4 l] ∧ okw l ∧ l.length = 4) ∧ 0 = 0 ∧ (∃ (l : List Int), ∃ (m : List Int), [D.ints .i64 (dg (vB 18446744073709551616 a)), D.ints .i64 dgL] = [D.ints .i64 l, D.ints .i64 m] ∧ (okd l ∧ lenS l) ∧ okd m ∧ lenS m) ∧ True ∧ True ∧ match decide (cmpN (vB 65536 (dg (vB 18446744073709551616 a))) (vB 65536 dgL) ≥ (0 : Int)) with
    | true => True ∧ True ∧ (false = false ∧ false = false ∧ True) ∧ D.tup [D.slc 5 [], D.val (.int .i64 1)] = F
    | false => (4 ≠ 0 ∧ 4 = 4 ∧ true = true) ∧ (∃ (l : List Int), [D.arr .u64 4 a] = [D.arr .u64 4 l] ∧ okw l ∧ l.length = 4) ∧ (1 ≤ 4096 ∧ 1 ≤ 256 ∧ 1 ≠ 0) ∧ True ∧ True ∧ (((sm (AV.d (D.arr .u64 4 a)) ∧ sm (AV.d (D.val (Value.int IntKind.i64 k))) ∧ sm (AV.d (D.val (Value.int IntKind.i64 n))) ∧ sm (AV.d (D.str p)) ∧ sm (AV.ptr 4 []) ∧ sm (AV.row 41) ∧ AV.d (D.val (.int .u64 0)) = AV.d (D.val (.int .u64 (↑(atN p (vB 18446744073709551616 (toF dgL)) (1 - 1)) : Int))) ∧ sm (AV.d (D.val (Value.int IntKind.i64 k))) ∧ sm (AV.d (D.val (Value.bool (decide (k < (1 : Int)))))) ∧ sm (AV.d (D.val (Value.bool false))) ∧ sm (AV.d (D.val (Value.int IntKind.i64 n))) ∧ sm (AV.d (D.val (Value.int IntKind.i64 k))) ∧ sm (AV.d (D.val (Value.bool (decide (n < k))))) ∧ sm (AV.d (D.val (Value.bool (decide (n < k))))) ∧ sm (AV.d (D.val (Value.bool false))) ∧ sm (AV.d (D.val (Value.int IntKind.i64 n))) ∧ sm (AV.d (D.val (Value.bool (decide (n > (20 : Int)))))) ∧ sm (AV.d (D.val (Value.bool (decide (n > (20 : Int)))))) ∧ sm (AV.d (D.val (Value.bool false))) ∧ sm (AV.d (D.arr .u64 4 a)) ∧ sm (AV.d (D.ints .i64 (dg (vB 18446744073709551616 a)))) ∧ sm (AV.d (D.ints .i64 dgL)) ∧ sm (AV.d (D.val (.int .i64 (cmpN (vB 65536 (dg (vB 18446744073709551616 a))) (vB 65536 dgL))))) ∧ sm (AV.d (D.val (Value.bool (decide (cmpN (vB 65536 (dg (vB 18446744073709551616 a))) (vB 65536 dgL) ≥ (0 : Int)))))) ∧ sm (AV.d (D.val (Value.bool (decide (cmpN (vB 65536 (dg (vB 18446744073709551616 a))) (vB 65536 dgL) ≥ (0 : Int)))))) ∧ sm (AV.d (D.arr .u64 4 a)) ∧ sm (AV.d (D.ints .i64 (dg (vB 18446744073709551616 a)))) ∧ True) ∧ (sm (some (Blk.fix (D.arr .u64 4 a))) ∧ some (Blk.row (89 : TypeId) (D.slc 1 [D.ints .i64 (dg (vB 18446744073709551616 a))])) = some (Blk.row (89 : TypeId) (D.slc 1 (dRow a p (vB 18446744073709551616 (toF dgL)) (1 - 1)))) ∧ True) ∧ true = true) ∧ 1 ≤ k.toNat ∧ fdE p (vB 18446744073709551616 (toF dgL)) (1 - 1) = (0 : Int)) ∧ ∀ (x : Nat), x + 1 ≤ k.toNat ∧ fdE p (vB 18446744073709551616 (toF dgL)) x = (0 : Int) → true = true ∧ True ∧ True ∧ True ∧ True ∧ match decide ((↑(dRow a p (vB 18446744073709551616 (toF dgL)) x).length : Int) < k) with
     | true => True ∧ True ∧ 0 = 0 ∧ (∃ (l : List Int), [D.ints .i64 dgL] = [D.ints .i64 l] ∧ okd l ∧ lenOk l) ∧ (∃ (k : List Int), ∃ (p_1 : Nat), ∃ (l : List Int), [D.str p, D.val (.int .u64 (↑(atN p (vB 18446744073709551616 (toF dgL)) x) : Int)), D.arr .u64 4 (toF dgL)] = [D.str k, D.val (.int .u64 (↑p_1 : Int)), D.arr .u64 4 l] ∧ isB k ∧ p_1 < 18446744073709551616 ∧ isN l) ∧ True ∧ (0 < 3 ∧ false = false) ∧ (1 < 3 ∧ false = false) ∧ (2 < 3 ∧ false = false) ∧ (True ∧ 4 ≠ 0) ∧ (Sk.arr 4 = Sk.arr 4 ∧ 4 ≠ 0 ∧ 4 = 4 ∧ false = false) ∧ True ∧ True ∧ True ∧ True ∧ match bwE (gR p (↑(atN p (vB 18446744073709551616 (toF dgL)) x) : Int).toNat (vB 18446744073709551616 (toF dgL))) (vB 18446744073709551616 (toF dgL)) != (0 : Int) with
      | true => True ∧ True ∧ True ∧ (false = false ∧ false = false ∧ True) ∧ D.tup [D.slc 5 [], D.val (.int .i64 (bwE (gR p (↑(atN p (vB 18446744073709551616 (toF dgL)) x) : Int).toNat (vB 18446744073709551616 (toF dgL))) (vB 18446744073709551616 (toF dgL))))] = F
      | false => True ∧ True ∧ True ∧ True ∧ True ∧ True ∧ (4 ≠ 0 ∧ 4 = 4 ∧ true = true) ∧ (∃ (l : List Int), [D.arr .u64 4 (bwV (gR p (↑(atN p (vB 18446744073709551616 (toF dgL)) x) : Int).toNat (vB 18446744073709551616 (toF dgL))) (vB 18446744073709551616 (toF dgL)))] = [D.arr .u64 4 l] ∧ okw l ∧ l.length = 4) ∧ (1 ≤ 4096 ∧ 1 ≤ 256 ∧ 1 ≠ 0) ∧ ((89 : TypeId) = (89 : TypeId) ∧ 168 = 168 ∧ true = true ∧ (dRow a p (vB 18446744073709551616 (toF dgL)) x ++ [D.ints .i64 (dg (vB 18446744073709551616 (bwV (gR p (↑(atN p (vB 18446744073709551616 (toF dgL)) x) : Int).toNat (vB 18446744073709551616 (toF dgL))) (vB 18446744073709551616 (toF dgL)))))]).length ≤ 140737488355328 ∧ (dRow a p (vB 18446744073709551616 (toF dgL)) x ++ [D.ints .i64 (dg (vB 18446744073709551616 (bwV (gR p (↑(atN p (vB 18446744073709551616 (toF dgL)) x) : Int).toNat (vB 18446744073709551616 (toF dgL))) (vB 18446744073709551616 (toF dgL)))))]).length * 24 ≤ 140737488355328 ∧ 1 ≠ 0 ∧ 1 = 1) ∧ True ∧ ((sm (AV.d (D.arr .u64 4 a)) ∧ sm (AV.d (D.val (Value.int IntKind.i64 k))) ∧ sm (AV.d (D.val (Value.int IntKind.i64 n))) ∧ sm (AV.d (D.str p)) ∧ sm (AV.ptr 4 []) ∧ sm (AV.row 41) ∧ AV.d (D.val (Value.int IntKind.u64 (IntKind.u64.wrap ((↑(atN p (vB 18446744073709551616 (toF dgL)) x) : Int) + IntKind.u64.wrap (↑(bwN (gR p (↑(atN p (vB 18446744073709551616 (toF dgL)) x) : Int).toNat (vB 18446744073709551616 (toF dgL))) (vB 18446744073709551616 (toF dgL))) : Int))))) = AV.d (D.val (Value.int IntKind.u64 (↑(atN p (vB 18446744073709551616 (toF dgL)) ((dRow a p (vB 18446744073709551616 (toF dgL)) x ++ [D.ints .i64 (dg (vB 18446744073709551616 (bwV (gR p (↑(atN p (vB 18446744073709551616 (toF dgL)) x) : Int).toNat (vB 18446744073709551616 (toF dgL))) (vB 18446744073709551616 (toF dgL)))))]).length - 1)) : Int))) ∧ sm (AV.d (D.val (Value.int IntKind.i64 k))) ∧ sm (AV.d (D.val (Value.bool (decide (k < (1 : Int)))))) ∧ sm (AV.d (D.val (Value.bool false))) ∧ sm (AV.d (D.val (Value.int IntKind.i64 n))) ∧ sm (AV.d (D.val (Value.int IntKind.i64 k))) ∧ sm (AV.d (D.val (Value.bool (decide (n < k))))) ∧ sm (AV.d (D.val (Value.bool (decide (n < k))))) ∧ sm (AV.d (D.val (Value.bool false))) ∧ sm (AV.d (D.val (Value.int IntKind.i64 n))) ∧ sm (AV.d (D.val (Value.bool (decide (n > (20 : Int)))))) ∧ sm (AV.d (D.val (Value.bool (decide (n > (20 : Int)))))) ∧ sm (AV.d (D.val (Value.bool false))) ∧ sm (AV.d (D.arr .u64 4 a)) ∧ sm (AV.d (D.ints .i64 (dg (vB 18446744073709551616 a)))) ∧ sm (AV.d (D.ints .i64 dgL)) ∧ sm (AV.d (D.val (.int .i64 (cmpN (vB 65536 (dg (vB 18446744073709551616 a))) (vB 65536 dgL))))) ∧ sm (AV.d (D.val (Value.bool (decide (cmpN (vB 65536 (dg (vB 18446744073709551616 a))) (vB 65536 dgL) ≥ (0 : Int)))))) ∧ sm (AV.d (D.val (Value.bool (decide (cmpN (vB 65536 (dg (vB 18446744073709551616 a))) (vB 65536 dgL) ≥ (0 : Int)))))) ∧ sm (AV.d (D.arr .u64 4 a)) ∧ sm (AV.d (D.ints .i64 (dg (vB 18446744073709551616 a)))) ∧ True) ∧ (sm (some (Blk.fix (D.arr .u64 4 a))) ∧ some (Blk.row (89 : TypeId) (D.slc 1 (dRow a p (vB 18446744073709551616 (toF dgL)) x ++
       [D.ints .i64 (dg (vB 18446744073709551616 (bwV (gR p (↑(atN p (vB 18446744073709551616 (toF dgL)) x) : Int).toNat (vB 18446744073709551616 (toF dgL))) (vB 18446744073709551616 (toF dgL)))))]))) = some (Blk.row (89 : TypeId) (D.slc 1 (dRow a p (vB 18446744073709551616 (toF dgL)) ((dRow a p (vB 18446744073709551616 (toF dgL)) x ++ [D.ints .i64 (dg (vB 18446744073709551616 (bwV (gR p (↑(atN p (vB 18446744073709551616 (toF dgL)) x) : Int).toNat (vB 18446744073709551616 (toF dgL))) (vB 18446744073709551616 (toF dgL)))))]).length - 1)))) ∧ True) ∧ true = true) ∧ ((dRow a p (vB 18446744073709551616 (toF dgL)) x ++ [D.ints .i64 (dg (vB 18446744073709551616 (bwV (gR p (↑(atN p (vB 18446744073709551616 (toF dgL)) x) : Int).toNat (vB 18446744073709551616 (toF dgL))) (vB 18446744073709551616 (toF dgL)))))]).length - 1 + 1 ≤ k.toNat ∧ fdE p (vB 18446744073709551616 (toF dgL)) ((dRow a p (vB 18446744073709551616 (toF dgL)) x ++ [D.ints .i64 (dg (vB 18446744073709551616 (bwV (gR p (↑(atN p (vB 18446744073709551616 (toF dgL)) x) : Int).toNat (vB 18446744073709551616 (toF dgL))) (vB 18446744073709551616 (toF dgL)))))]).length - 1) = (0 : Int)) ∧ k.toNat - ((dRow a p (vB 18446744073709551616 (toF dgL)) x ++ [D.ints .i64 (dg (vB 18446744073709551616 (bwV (gR p (↑(atN p (vB 18446744073709551616 (toF dgL)) x) : Int).toNat (vB 18446744073709551616 (toF dgL))) (vB 18446744073709551616 (toF dgL)))))]).length - 1) < k.toNat - x
     | false => 5 ≠ 0 ∧ True ∧ (((sm (AV.d (D.arr .u64 4 a)) ∧ sm (AV.d (D.val (Value.int IntKind.i64 k))) ∧ sm (AV.d (D.val (Value.int IntKind.i64 n))) ∧ sm (AV.d (D.str p)) ∧ sm (AV.ptr 4 []) ∧ sm (AV.row 41) ∧ sm (AV.d (D.val (.int .u64 (↑(atN p (vB 18446744073709551616 (toF dgL)) x) : Int)))) ∧ sm (AV.row 15) ∧ AV.d (D.val (.int .i64 1)) = AV.d (D.val (.int .i64 (↑(1 : Nat) : Int))) ∧ sm (AV.d (D.val (Value.int IntKind.i64 k))) ∧ sm (AV.d (D.val (Value.bool (decide (k < (1 : Int)))))) ∧ sm (AV.d (D.val (Value.bool false))) ∧ sm (AV.d (D.val (Value.int IntKind.i64 n))) ∧ sm (AV.d (D.val (Value.int IntKind.i64 k))) ∧ sm (AV.d (D.val (Value.bool (decide (n < k))))) ∧ sm (AV.d (D.val (Value.bool (decide (n < k))))) ∧ sm (AV.d (D.val (Value.bool false))) ∧ sm (AV.d (D.val (Value.int IntKind.i64 n))) ∧ sm (AV.d (D.val (Value.bool (decide (n > (20 : Int)))))) ∧ sm (AV.d (D.val (Value.bool (decide (n > (20 : Int)))))) ∧ sm (AV.d (D.val (Value.bool false))) ∧ sm (AV.d (D.arr .u64 4 a)) ∧ sm (AV.d (D.ints .i64 (dg (vB 18446744073709551616 a)))) ∧ sm (AV.d (D.ints .i64 dgL)) ∧ sm (AV.d (D.val (.int .i64 (cmpN (vB 65536 (dg (vB 18446744073709551616 a))) (vB 65536 dgL))))) ∧ sm (AV.d (D.val (Value.bool (decide (cmpN (vB 65536 (dg (vB 18446744073709551616 a))) (vB 65536 dgL) ≥ (0 : Int)))))) ∧ sm (AV.d (D.val (Value.bool (decide (cmpN (vB 65536 (dg (vB 18446744073709551616 a))) (vB 65536 dgL) ≥ (0 : Int)))))) ∧ sm (AV.d (D.arr .u64 4 a)) ∧ sm (AV.d (D.ints .i64 (dg (vB 18446744073709551616 a)))) ∧ sm (AV.row 41) ∧ sm (AV.d (D.val (.int .i64 (↑(dRow a p (vB 18446744073709551616 (toF dgL)) x).length : Int)))) ∧ sm (AV.d (D.val (Value.int IntKind.i64 k))) ∧ sm (AV.d (D.val (Value.bool (decide ((↑(dRow a p (vB 18446744073709551616 (toF dgL)) x).length : Int) < k))))) ∧ True) ∧ (sm (some (Blk.fix (D.arr .u64 4 a))) ∧ some (Blk.row (167 : TypeId) (D.slc 5 [])) = some (Blk.row (167 : TypeId) (D.slc 5 (rRow (dRow a p (vB 18446744073709551616 (toF dgL)) (k.toNat - 1)) k.toNat (1 - 1)))) ∧ sm (some (Blk.row (89 : TypeId) (D.slc 1 (dRow a p (vB 18446744073709551616 (toF dgL)) x)))) ∧ True) ∧ true = true) ∧ 1 - 1 ≤ n.toNat ∧ dRow a p (vB 18446744073709551616 (toF dgL)) x = dRow a p (vB 18446744073709551616 (toF dgL)) (k.toNat - 1)) ∧ ∀ (x_1 : Nat), x_1 ≤ n.toNat ∧ dRow a p (vB 18446744073709551616 (toF dgL)) x = dRow a p (vB 18446744073709551616 (toF dgL)) (k.toNat - 1) → true = true ∧ True ∧ True ∧ True ∧ match decide ((↑(x_1 + 1) : Int) ≤ n) with
      | true => True ∧ (1 = 1 ∧ 1 ≤ 4096) ∧ True ∧ True ∧ True ∧ True ∧ (((sm (AV.d (D.arr .u64 4 a)) ∧ sm (AV.d (D.val (Value.int IntKind.i64 k))) ∧ sm (AV.d (D.val (Value.int IntKind.i64 n))) ∧ sm (AV.d (D.str p)) ∧ sm (AV.ptr 4 []) ∧ sm (AV.row 41) ∧ sm (AV.d (D.val (.int .u64 (↑(atN p (vB 18446744073709551616 (toF dgL)) x) : Int)))) ∧ sm (AV.row 15) ∧ sm (AV.d (D.val (.int .i64 (↑(x_1 + 1) : Int)))) ∧ dg (plN (dRow a p (vB 18446744073709551616 (toF dgL)) (k.toNat - 1)) (↑(x_1 + 1) : Int).toNat 0) = [] ∧ AV.d (D.ints .i64 [(1 : Int)]) = AV.d (D.ints .i64 (dg ((↑(x_1 + 1) : Int).toNat ^ 0))) ∧ sm (AV.d (D.val (Value.int IntKind.i64 k))) ∧ sm (AV.d (D.val (Value.bool (decide (k < (1 : Int)))))) ∧ sm (AV.d (D.val (Value.bool false))) ∧ sm (AV.d (D.val (Value.int IntKind.i64 n))) ∧ sm (AV.d (D.val (Value.int IntKind.i64 k))) ∧ sm (AV.d (D.val (Value.bool (decide (n < k))))) ∧ sm (AV.d (D.val (Value.bool (decide (n < k))))) ∧ sm (AV.d (D.val (Value.bool false))) ∧ sm (AV.d (D.val (Value.int IntKind.i64 n))) ∧ sm (AV.d (D.val (Value.bool (decide (n > (20 : Int)))))) ∧ sm (AV.d (D.val (Value.bool (decide (n > (20 : Int)))))) ∧ sm (AV.d (D.val (Value.bool false))) ∧ sm (AV.d (D.arr .u64 4 a)) ∧ sm (AV.d (D.ints .i64 (dg (vB 18446744073709551616 a)))) ∧ sm (AV.d (D.ints .i64 dgL)) ∧ sm (AV.d (D.val (.int .i64 (cmpN (vB 65536 (dg (vB 18446744073709551616 a))) (vB 65536 dgL))))) ∧ sm (AV.d (D.val (Value.bool (decide (cmpN (vB 65536 (dg (vB 18446744073709551616 a))) (vB 65536 dgL) ≥ (0 : Int)))))) ∧ sm (AV.d (D.val (Value.bool (decide (cmpN (vB 65536 (dg (vB 18446744073709551616 a))) (vB 65536 dgL) ≥ (0 : Int)))))) ∧ sm (AV.d (D.arr .u64 4 a)) ∧ sm (AV.d (D.ints .i64 (dg (vB 18446744073709551616 a)))) ∧ sm (AV.row 41) ∧ sm (AV.d (D.val (.int .i64 (↑(dRow a p (vB 18446744073709551616 (toF dgL)) x).length : Int)))) ∧ sm (AV.d (D.val (Value.int IntKind.i64 k))) ∧ sm (AV.d (D.val (Value.bool (decide ((↑(dRow a p (vB 18446744073709551616 (toF dgL)) x).length : Int) < k))))) ∧ sm (AV.d (D.val (.int .i64 (↑(x_1 + 1) : Int)))) ∧ sm (AV.d (D.val (Value.int IntKind.i64 n))) ∧ sm (AV.d (D.val (Value.bool (decide ((↑(x_1 + 1) : Int) ≤ n))))) ∧ sm (AV.d (D.ints .i64 [(1 : Int)])) ∧ sm (AV.row 41) ∧ sm (AV.d (D.val (.int .i64 (↑(dRow a p (vB 18446744073709551616 (toF dgL)) x).length : Int)))) ∧ AV.d (D.val (.int .i64 0)) = AV.d (D.val (.int .i64 (↑(0 : Nat) : Int))) ∧ True) ∧ (sm (some (Blk.fix (D.arr .u64 4 a))) ∧ sm (some (Blk.row (167 : TypeId) (D.slc 5 (rRow (dRow a p (vB 18446744073709551616 (toF dgL)) (k.toNat - 1)) k.toNat x_1)))) ∧ sm (some (Blk.row (89 : TypeId) (D.slc 1 (dRow a p (vB 18446744073709551616 (toF dgL)) x)))) ∧ True) ∧ true = true) ∧ 0 ≤ k.toNat ∧ (↑(↑(x_1 + 1) : Int).toNat : Int) = (↑(x_1 + 1) : Int)) ∧ ∀ (x_2 : Nat × Nat), x_2.fst ≤ k.toNat ∧ (↑x_2.snd : Int) = (↑(x_1 + 1) : Int) → true = true ∧ True ∧ match decide ((↑x_2.fst : Int) < (↑(dRow a p (vB 18446744073709551616 (toF dgL)) x).length : Int)) with
       | true => ((0 : Int) ≤ (↑x_2.fst : Int) ∧ (↑x_2.fst : Int) < (↑(dRow a p (vB 18446744073709551616 (toF dgL)) x).length : Int) ∧ 1 ≠ 0 ∧ 1 = 1) ∧ ((↑x_2.fst : Int).toNat < (dRow a p (vB 18446744073709551616 (toF dgL)) x).length ∧ 1 ≠ 0 ∧ 1 = 1 ∧ D.ints .i64 (intsOf ((dRow a p (vB 18446744073709551616 (toF dgL)) x).getD (↑x_2.fst : Int).toNat (D.val (Value.bool false)))) = (dRow a p (vB 18446744073709551616 (toF dgL)) x).getD (↑x_2.fst : Int).toNat (D.val (Value.bool false)) ∧ false = false) ∧ True ∧ True ∧ True ∧ True ∧ (∃ (l : List Int), ∃ (m : List Int), [D.ints .i64 (intsOf ((dRow a p (vB 18446744073709551616 (toF dgL)) x).getD (↑x_2.fst : Int).toNat (D.val (Value.bool false)))), D.ints .i64 (dg (x_2.snd ^ x_2.fst))] = [D.ints .i64 l, D.ints .i64 m] ∧ (okd l ∧ lenS l) ∧ okd m ∧ lenS m) ∧ (∃ (l : List Int), ∃ (m : List Int), [D.ints .i64 (dg (plN (dRow a p (vB 18446744073709551616 (toF dgL)) (k.toNat - 1)) x_2.snd x_2.fst)), D.ints .i64 (tmF (intsOf ((dRow a p (vB 18446744073709551616 (toF dgL)) x).getD (↑x_2.fst : Int).toNat (D.val (Value.bool false)))) (dg (x_2.snd ^ x_2.fst)))] = [D.ints .i64 l, D.ints .i64 m] ∧ (okd l ∧ lenS l) ∧ okd m ∧ lenS m) ∧ True ∧ True ∧ True ∧ (1 = 1 ∧ 1 ≤ 4096) ∧ (∃ (l : List Int), ∃ (m : List Int), [D.ints .i64 (dg (x_2.snd ^ x_2.fst)), D.ints .i64 [(↑(x_1 + 1) : Int)]] = [D.ints .i64 l, D.ints .i64 m] ∧ (okd l ∧ lenS l) ∧ okd m ∧ lenS m) ∧ True ∧ True ∧ True ∧ ((sm (AV.d (D.arr .u64 4 a)) ∧ sm (AV.d (D.val (Value.int IntKind.i64 k))) ∧ sm (AV.d (D.val (Value.int IntKind.i64 n))) ∧ sm (AV.d (D.str p)) ∧ sm (AV.ptr 4 []) ∧ sm (AV.row 41) ∧ sm (AV.d (D.val (.int .u64 (↑(atN p (vB 18446744073709551616 (toF dgL)) x) : Int)))) ∧ sm (AV.row 15) ∧ sm (AV.d (D.val (.int .i64 (↑(x_1 + 1) : Int)))) ∧ AV.d (D.ints .i64 (plF (dg (plN (dRow a p (vB 18446744073709551616 (toF dgL)) (k.toNat - 1)) x_2.snd x_2.fst)) (tmF (intsOf ((dRow a p (vB 18446744073709551616 (toF dgL)) x).getD (↑x_2.fst : Int).toNat (D.val (Value.bool false)))) (dg (x_2.snd ^ x_2.fst))))) = AV.d (D.ints .i64 (dg (plN (dRow a p (vB 18446744073709551616 (toF dgL)) (k.toNat - 1)) (↑(x_1 + 1) : Int).toNat (IntKind.i64.wrap ((↑x_2.fst : Int) + (1 : Int))).toNat))) ∧ AV.d (D.ints .i64 (tmF (dg (x_2.snd ^ x_2.fst)) [(↑(x_1 + 1) : Int)])) = AV.d (D.ints .i64 (dg ((↑(x_1 + 1) : Int).toNat ^ (IntKind.i64.wrap ((↑x_2.fst : Int) + (1 : Int))).toNat))) ∧ sm (AV.d (D.val (Value.int IntKind.i64 k))) ∧ sm (AV.d (D.val (Value.bool (decide (k < (1 : Int)))))) ∧ sm (AV.d (D.val (Value.bool false))) ∧ sm (AV.d (D.val (Value.int IntKind.i64 n))) ∧ sm (AV.d (D.val (Value.int IntKind.i64 k))) ∧ sm (AV.d (D.val (Value.bool (decide (n < k))))) ∧ sm (AV.d (D.val (Value.bool (decide (n < k))))) ∧ sm (AV.d (D.val (Value.bool false))) ∧ sm (AV.d (D.val (Value.int IntKind.i64 n))) ∧ sm (AV.d (D.val (Value.bool (decide (n > (20 : Int)))))) ∧ sm (AV.d (D.val (Value.bool (decide (n > (20 : Int)))))) ∧ sm (AV.d (D.val (Value.bool false))) ∧ sm (AV.d (D.arr .u64 4 a)) ∧ sm (AV.d (D.ints .i64 (dg (vB 18446744073709551616 a)))) ∧
        sm (AV.d (D.ints .i64 dgL)) ∧ sm (AV.d (D.val (.int .i64 (cmpN (vB 65536 (dg (vB 18446744073709551616 a))) (vB 65536 dgL))))) ∧ sm (AV.d (D.val (Value.bool (decide (cmpN (vB 65536 (dg (vB 18446744073709551616 a))) (vB 65536 dgL) ≥ (0 : Int)))))) ∧ sm (AV.d (D.val (Value.bool (decide (cmpN (vB 65536 (dg (vB 18446744073709551616 a))) (vB 65536 dgL) ≥ (0 : Int)))))) ∧ sm (AV.d (D.arr .u64 4 a)) ∧ sm (AV.d (D.ints .i64 (dg (vB 18446744073709551616 a)))) ∧ sm (AV.row 41) ∧ sm (AV.d (D.val (.int .i64 (↑(dRow a p (vB 18446744073709551616 (toF dgL)) x).length : Int)))) ∧ sm (AV.d (D.val (Value.int IntKind.i64 k))) ∧ sm (AV.d (D.val (Value.bool (decide ((↑(dRow a p (vB 18446744073709551616 (toF dgL)) x).length : Int) < k))))) ∧ sm (AV.d (D.val (.int .i64 (↑(x_1 + 1) : Int)))) ∧ sm (AV.d (D.val (Value.int IntKind.i64 n))) ∧ sm (AV.d (D.val (Value.bool (decide ((↑(x_1 + 1) : Int) ≤ n))))) ∧ sm (AV.d (D.ints .i64 [(1 : Int)])) ∧ sm (AV.row 41) ∧ sm (AV.d (D.val (.int .i64 (↑(dRow a p (vB 18446744073709551616 (toF dgL)) x).length : Int)))) ∧ AV.d (D.val (.int .i64 (IntKind.i64.wrap ((↑x_2.fst : Int) + (1 : Int))))) = AV.d (D.val (.int .i64 (↑(IntKind.i64.wrap ((↑x_2.fst : Int) + (1 : Int))).toNat : Int))) ∧ True) ∧ (sm (some (Blk.fix (D.arr .u64 4 a))) ∧ sm (some (Blk.row (167 : TypeId) (D.slc 5 (rRow (dRow a p (vB 18446744073709551616 (toF dgL)) (k.toNat - 1)) k.toNat x_1)))) ∧ sm (some (Blk.row (89 : TypeId) (D.slc 1 (dRow a p (vB 18446744073709551616 (toF dgL)) x)))) ∧ True) ∧ true = true) ∧ ((IntKind.i64.wrap ((↑x_2.fst : Int) + (1 : Int))).toNat ≤ k.toNat ∧ (↑(↑(x_1 + 1) : Int).toNat : Int) = (↑(x_1 + 1) : Int)) ∧ k.toNat - (IntKind.i64.wrap ((↑x_2.fst : Int) + (1 : Int))).toNat < k.toNat - x_2.fst
       | false => True ∧ True ∧ True ∧ 0 = 0 ∧ (∃ (l : List Int), ∃ (m : List Int), [D.ints .i64 (dg (plN (dRow a p (vB 18446744073709551616 (toF dgL)) (k.toNat - 1)) x_2.snd x_2.fst)), D.ints .i64 dgL] = [D.ints .i64 l, D.ints .i64 m] ∧ (okd l ∧ len1 l) ∧ (okd m ∧ len1 m) ∧ vB 65536 m ≠ 0) ∧ (∃ (l : List Int), [D.ints .i64 (rsF (dg (plN (dRow a p (vB 18446744073709551616 (toF dgL)) (k.toNat - 1)) x_2.snd x_2.fst)) dgL)] = [D.ints .i64 l] ∧ okd l ∧ lenOk l) ∧ (false = false ∧ (0 < 2 ∧ Sk.one = Sk.one) ∧ false = false ∧ (1 < 2 ∧ Sk.arr 4 = Sk.arr 4) ∧ True) ∧ (1 ≤ 4096 ∧ 5 ≤ 256 ∧ 5 ≠ 0) ∧ ((167 : TypeId) = (167 : TypeId) ∧ 104 = 104 ∧ true = true ∧ (rRow (dRow a p (vB 18446744073709551616 (toF dgL)) (k.toNat - 1)) k.toNat x_1 ++ [D.st [D.val (.int .i64 (↑(x_1 + 1) : Int)), D.arr .u64 4 (toF (rsF (dg (plN (dRow a p (vB 18446744073709551616 (toF dgL)) (k.toNat - 1)) x_2.snd x_2.fst)) dgL))]]).length ≤ 140737488355328 ∧ (rRow (dRow a p (vB 18446744073709551616 (toF dgL)) (k.toNat - 1)) k.toNat x_1 ++ [D.st [D.val (.int .i64 (↑(x_1 + 1) : Int)), D.arr .u64 4 (toF (rsF (dg (plN (dRow a p (vB 18446744073709551616 (toF dgL)) (k.toNat - 1)) x_2.snd x_2.fst)) dgL))]]).length * 40 ≤ 140737488355328 ∧ 5 ≠ 0 ∧ 5 = 5) ∧ True ∧ True ∧ True ∧ True ∧ ((sm (AV.d (D.arr .u64 4 a)) ∧ sm (AV.d (D.val (Value.int IntKind.i64 k))) ∧ sm (AV.d (D.val (Value.int IntKind.i64 n))) ∧ sm (AV.d (D.str p)) ∧ sm (AV.ptr 4 []) ∧ sm (AV.row 41) ∧ sm (AV.d (D.val (.int .u64 (↑(atN p (vB 18446744073709551616 (toF dgL)) x) : Int)))) ∧ sm (AV.row 15) ∧ AV.d (D.val (.int .i64 (IntKind.i64.wrap ((↑(x_1 + 1) : Int) + (1 : Int))))) = AV.d (D.val (.int .i64 (↑((IntKind.i64.wrap ((↑(x_1 + 1) : Int) + (1 : Int))).toNat - 1 + 1) : Int))) ∧ sm (AV.d (D.val (Value.int IntKind.i64 k))) ∧ sm (AV.d (D.val (Value.bool (decide (k < (1 : Int)))))) ∧ sm (AV.d (D.val (Value.bool false))) ∧ sm (AV.d (D.val (Value.int IntKind.i64 n))) ∧ sm (AV.d (D.val (Value.int IntKind.i64 k))) ∧ sm (AV.d (D.val (Value.bool (decide (n < k))))) ∧ sm (AV.d (D.val (Value.bool (decide (n < k))))) ∧ sm (AV.d (D.val (Value.bool false))) ∧ sm (AV.d (D.val (Value.int IntKind.i64 n))) ∧ sm (AV.d (D.val (Value.bool (decide (n > (20 : Int)))))) ∧ sm (AV.d (D.val (Value.bool (decide (n > (20 : Int)))))) ∧ sm (AV.d (D.val (Value.bool false))) ∧ sm (AV.d (D.arr .u64 4 a)) ∧ sm (AV.d (D.ints .i64 (dg (vB 18446744073709551616 a)))) ∧ sm (AV.d (D.ints .i64 dgL)) ∧ sm (AV.d (D.val (.int .i64 (cmpN (vB 65536 (dg (vB 18446744073709551616 a))) (vB 65536 dgL))))) ∧ sm (AV.d (D.val (Value.bool (decide (cmpN (vB 65536 (dg (vB 18446744073709551616 a))) (vB 65536 dgL) ≥ (0 : Int)))))) ∧ sm (AV.d (D.val (Value.bool (decide (cmpN (vB 65536 (dg (vB 18446744073709551616 a))) (vB 65536 dgL) ≥ (0 : Int)))))) ∧ sm (AV.d (D.arr .u64 4 a)) ∧ sm (AV.d (D.ints .i64 (dg (vB 18446744073709551616 a)))) ∧ sm (AV.row 41) ∧ sm (AV.d (D.val (.int .i64 (↑(dRow a p (vB 18446744073709551616 (toF dgL)) x).length : Int)))) ∧ sm (AV.d (D.val (Value.int IntKind.i64 k))) ∧ sm (AV.d (D.val (Value.bool (decide ((↑(dRow a p (vB 18446744073709551616 (toF dgL)) x).length : Int) < k))))) ∧ True) ∧
        (sm (some (Blk.fix (D.arr .u64 4 a))) ∧ some (Blk.row (167 : TypeId) (D.slc 5 (rRow (dRow a p (vB 18446744073709551616 (toF dgL)) (k.toNat - 1)) k.toNat x_1 ++ [D.st [D.val (.int .i64 (↑(x_1 + 1) : Int)), D.arr .u64 4 (toF (rsF (dg (plN (dRow a p (vB 18446744073709551616 (toF dgL)) (k.toNat - 1)) x_2.snd x_2.fst)) dgL))]]))) = some (Blk.row (167 : TypeId) (D.slc 5 (rRow (dRow a p (vB 18446744073709551616 (toF dgL)) (k.toNat - 1)) k.toNat ((IntKind.i64.wrap ((↑(x_1 + 1) : Int) + (1 : Int))).toNat - 1)))) ∧ sm (some (Blk.row (89 : TypeId) (D.slc 1 (dRow a p (vB 18446744073709551616 (toF dgL)) x)))) ∧ True) ∧ true = true) ∧ ((IntKind.i64.wrap ((↑(x_1 + 1) : Int) + (1 : Int))).toNat - 1 ≤ n.toNat ∧ dRow a p (vB 18446744073709551616 (toF dgL)) x = dRow a p (vB 18446744073709551616 (toF dgL)) (k.toNat - 1)) ∧ n.toNat - ((IntKind.i64.wrap ((↑(x_1 + 1) : Int) + (1 : Int))).toNat - 1) < n.toNat - x_1
      | false => True ∧ True ∧ True ∧ (false = false ∧ false = false ∧ True) ∧ D.tup [D.slc 5 (rRow (dRow a p (vB 18446744073709551616 (toF dgL)) (k.toNat - 1)) k.toNat x_1), D.val (.int .i64 0)] = F) := by kernel_rfl
end Go.Proofs.YtkicjckhkefnpaaDoor
namespace Go.Proofs.YtkicjckhkefnpaaDoor
open Go Go.Vg
theorem cst_VS {k : List Int} (hk : isB k) (v : Nat) : ∀ i, VS k (cstS v (sr0 k 0) i) ∧ (cstS v (sr0 k 0) i).p = atN k v i
 | 0 => ⟨VS.zero k, rfl⟩
 | i + 1 => by
  obtain ⟨h1, h2⟩ := cst_VS hk v i
  show VS k (bwS (cstS v (sr0 k 0) i) v) ∧ (bwS (cstS v (sr0 k 0) i) v).p = (atN k v i + bwN (gR k (atN k v i) v) v) % 18446744073709551616
  unfold bwS
  obtain ⟨h3, h4⟩ := h1.it hk (bwN (gT (cstS v (sr0 k 0) i) v) v)
  rw [h4, h1.gT hk, h2]
  rw [h1.gT hk, h2] at h3
  exact ⟨h3, rfl⟩
theorem gT_at {k : List Int} (hk : isB k) (v i : Nat) : gT (cstS v (sr0 k 0) i) v = gR k (atN k v i) v := by
 obtain ⟨h1, h2⟩ := cst_VS hk v i
 rw [h1.gT hk, h2]
theorem dX_eq {k : List Int} (hk : isB k) (v j : Nat) : dX k v j = cX v (sr0 k 0) j := by
 unfold dX cX
 rw [gT_at hk]
theorem fD_eq {k : List Int} (hk : isB k) (v : Nat) : ∀ m, fdE k v m = fE v (sr0 k 0) m
 | 0 => rfl
 | m + 1 => by
  unfold fdE fE
  rw [fD_eq hk v m, gT_at hk]
theorem fdE_zero {k : List Int} {v m : Nat} : fdE k v m = 0 ↔ ∀ i, i < m → bwE (gR k (atN k v i) v) v = 0 := by
 induction m with
 | zero => exact ⟨fun _ i hi => absurd hi (Nat.not_lt_zero i), fun _ => rfl⟩
 | succ m ih =>
  unfold fdE
  constructor
  ·intro h
   by_cases h0 : fdE k v m = 0
   ·rw [if_pos h0] at h
    intro i hi
    by_cases e : i = m
    ·rw [e]; exact h
    ·exact ih.1 h0 i (by omega)
   ·rw [if_neg h0] at h
    exact absurd h h0
  ·intro h
   have h0 := ih.2 fun i hi => h i (by omega)
   rw [if_pos h0]
   exact h m (by omega)
theorem fdE_stop {k : List Int} {v m x : Nat} (hx : x < m) (h : ∀ i, i < x → bwE (gR k (atN k v i) v) v = 0) (hn : bwE (gR k (atN k v x) v) v ≠ 0) : fdE k v m = bwE (gR k (atN k v x) v) v := by
 induction m with
 | zero => omega
 | succ m ih =>
  unfold fdE
  by_cases e : x = m
  ·subst e
   rw [if_pos (fdE_zero.2 h)]
  ·have := ih (by omega)
   rw [this, if_neg hn]
def pSum (f : Nat → Nat) (x : Nat) : Nat → Nat
 | 0 => 0
 | j + 1 => pSum f x j + f j * x ^ j
theorem pSum_head (f : Nat → Nat) (x : Nat) : ∀ m, pSum f x (m + 1) = f 0 + x * pSum (fun i => f (i + 1)) x m
 | 0 => by simp [pSum]
 | m + 1 => by
  rw [pSum, pSum_head f x m, pSum]
  rw [Nat.mul_add, Nat.pow_succ]
  rw [Nat.add_assoc]
  congr 2
  rw [Nat.mul_comm x, Nat.mul_assoc]
theorem pSum_congr {f g : Nat → Nat} (x : Nat) : ∀ m, (∀ j, j < m → f j = g j) → pSum f x m = pSum g x m
 | 0, _ => rfl
 | m + 1, h => by rw [pSum, pSum, pSum_congr x m fun j hj => h j (by omega), h m (by omega)]
def hN (f : Nat → Nat) (K x : Nat) : Nat → Nat
 | 0 => f (K - 1)
 | t + 1 => (hN f K x t * x % LQ + f (K - 2 - t)) % LQ
theorem hN_sum (f : Nat → Nat) (K x : Nat) : ∀ t, t + 1 ≤ K → hN f K x t % LQ = pSum (fun i => f (K - 1 - t + i)) x (t + 1) % LQ
 | 0, _ => by simp [hN, pSum]
 | t + 1, h => by
  have ih := hN_sum f K x t (by omega)
  rw [hN, Nat.mod_mod, pSum_head]
  have e1 : pSum (fun i => (fun i => f (K - 1 - (t + 1) + i)) (i + 1)) x (t + 1) = pSum (fun i => f (K - 1 - t + i)) x (t + 1) := pSum_congr x _ fun j _ => by
   show f (K - 1 - (t + 1) + (j + 1)) = f (K - 1 - t + j)
   congr 1
   omega
  rw [e1, Nat.add_zero, show K - 1 - (t + 1) = K - 2 - t by omega]
  rw [Nat.add_mod (f (K - 2 - t)), Nat.mul_mod x, ← ih, ← Nat.mul_mod, Nat.add_mod (hN f K x t * x % LQ), Nat.mod_mod, Nat.mul_comm x, Nat.add_comm]
theorem hN_end (f : Nat → Nat) {K : Nat} (x : Nat) (hK : 1 ≤ K) (h0 : K = 1 → f 0 < LQ) : hN f K x (K - 1) = pSum f x K % LQ := by
 have h := hN_sum f K x (K - 1) (by omega)
 have e : pSum (fun i => f (K - 1 - (K - 1) + i)) x (K - 1 + 1) = pSum f x K := by
  rw [Nat.sub_add_cancel hK]
  exact pSum_congr x _ fun j _ => by show f (K - 1 - (K - 1) + j) = f j; congr 1; omega
 rw [e] at h
 rw [← h, Nat.mod_eq_of_lt]
 by_cases h1 : K = 1
 ·subst h1
  exact h0 rfl
 ·obtain ⟨m, hm⟩ : ∃ m, K - 1 = m + 1 := ⟨K - 2, by omega⟩
  rw [hm]
  exact Nat.mod_lt _ LQ_pos
theorem pSum_lt {f : Nat → Nat} {x : Nat} (hf : ∀ j, f j < 2 ^ 256) (hx : x ≤ 20) : ∀ m, m ≤ 20 → pSum f x m ≤ m * 65536 ^ 25
 | 0, _ => Nat.zero_le _
 | m + 1, h => by
  have ih := pSum_lt hf hx m (by omega)
  rw [pSum, Nat.add_mul, Nat.one_mul]
  refine Nat.add_le_add ih ?_
  have h1 : x ^ m ≤ 20 ^ 20 := Nat.le_trans (Nat.pow_le_pow_left hx m) (Nat.pow_le_pow_right (by decide) (by omega))
  have h2 : f m * x ^ m ≤ 2 ^ 256 * 20 ^ 20 := Nat.mul_le_mul (Nat.le_of_lt (hf m)) h1
  exact Nat.le_trans h2 (by decide)
end Go.Proofs.YtkicjckhkefnpaaDoor
namespace Go.Proofs.YtkicjckhkefnpaaDoor
open Go Go.Vg
theorem dg_one {n : Nat} (h0 : n ≠ 0) (h : n < 65536) : dg n = [(n : Int)] := by
 obtain ⟨m, rfl⟩ : ∃ m, n = m + 1 := ⟨n - 1, by omega⟩
 show (if m + 1 = 0 then [] else (((m + 1) % 65536 : Nat) : Int) :: Go.Vg.dgF m ((m + 1) / 65536)) = _
 rw [if_neg h0, Nat.mod_eq_of_lt h, Nat.div_eq_of_lt h]
 cases m with
 | zero => rfl
 | succ m => rfl
theorem vTF : vB 18446744073709551616 (toF dgL) = LQ := by rw [dgL_eq, to_eq, n4v' LQ_lt]
theorem isN_TF : isN (toF dgL) := by rw [dgL_eq, to_eq]; exact isN_nB _
theorem dRow_len (a k : List Int) (v i : Nat) : (dRow a k v i).length = i + 1 := by unfold dRow; simp
theorem dRow_0 (a k : List Int) (v : Nat) : dRow a k v 0 = [dgs (dg (vB 18446744073709551616 a))] := rfl
theorem dRow_succ (a k : List Int) (v i : Nat) : dRow a k v i ++ [dgs (dg (vB 18446744073709551616 (dX k v i)))] = dRow a k v (i + 1) := by
 unfold dRow
 rw [List.range_succ, List.map_append]
 rfl
def cfN (a k : List Int) (v j : Nat) : Nat := if j = 0 then vB 18446744073709551616 a else vB 18446744073709551616 (dX k v (j - 1))
theorem dRow_at (a k : List Int) (v : Nat) {i j : Nat} (h : j < i + 1) : (dRow a k v i).getD j default = dgs (dg (cfN a k v j)) := by
 unfold dRow cfN
 cases j with
 | zero => rfl
 | succ j =>
  rw [List.getD_cons_succ, List.getD_eq_getElem?_getD, List.getElem?_map, List.getElem?_range (by omega), if_neg (by omega)]
  rfl
theorem cfN_lt {a k : List Int} (ha : isN a) (v j : Nat) : cfN a k v j < 2 ^ 256 := by
 unfold cfN
 split
 ·exact wv_lt ha.1 ha.2
 ·have := isN_bw (gR k (atN k v (j - 1)) v) v
  exact wv_lt this.1 this.2
theorem pl_sum (a k : List Int) (v x : Nat) {K : Nat} (hK : 1 ≤ K) : ∀ m, m ≤ K → plN (dRow a k v (K - 1)) x m = pSum (cfN a k v) x m
 | 0, _ => rfl
 | m + 1, h => by
  rw [plN, pSum, pl_sum a k v x hK m (by omega), dRow_at a k v (i := K - 1) (by omega)]
  show _ + vB 65536 (dg (cfN a k v m)) * _ = _
  rw [vl_dg]
theorem rRow_0 (c : List D) (k : Nat) : rRow c k 0 = [] := rfl
theorem rRow_len (c : List D) (k i : Nat) : (rRow c k i).length = i := by unfold rRow; simp
theorem rRow_succ (c : List D) (k i : Nat) : rRow c k i ++ [.st [i64 ((i + 1 : Nat) : Int), num4 (rsW c k (i + 1))]] = rRow c k (i + 1) := by
 unfold rRow
 rw [List.range_succ, List.map_append]
 rfl
theorem fdE_0 (k : List Int) (v : Nat) : fdE k v 0 = 0 := rfl
theorem atN_0 (k : List Int) (v : Nat) : atN k v 0 = 0 := rfl
theorem bwN_wrap {p : Nat} (hp : p < 18446744073709551616) (g : Nat → Nat) (v : Nat) : IntKind.u64.wrap ((p : Int) + IntKind.u64.wrap (bwN g v : Nat)) = (((p + bwN g v) % 18446744073709551616 : Nat) : Int) := by
 have := bwN_le g v
 rw [wN64, Nat.mod_eq_of_lt (show bwN g v < 18446744073709551616 by omega), ← Int.natCast_add, wN64]
theorem atN_lt (k : List Int) (v : Nat) : ∀ i, atN k v i < 18446744073709551616
 | 0 => Nat.two_pow_pos 64
 | i + 1 => Nat.mod_lt _ (Nat.two_pow_pos 64)
open Classical in
noncomputable def sdE (a : List Int) (k n : Int) (p : List Int) : Int := if badS a k n then 1 else fdE p LQ (k.toNat - 1)
open Classical in
noncomputable def sdX (a : List Int) (k n : Int) (p : List Int) : List D := if sdE a k n p = 0 then rRow (dRow a p LQ (k.toNat - 1)) k.toNat n.toNat else []
noncomputable def sp68 : Go.Vg.Spec := ⟨fun ds => ∃ a k n p, ds = [num4 a, i64 k, i64 n, .str p] ∧ isN a ∧ isB p, fun ds => .tup [.slc 5 (sdX (arrOf (ds.headD default)) (numOf (ds.getD 1 default)) (numOf (ds.getD 2 default)) (strOf (ds.getD 3 default))),
 i64 (sdE (arrOf (ds.headD default)) (numOf (ds.getD 1 default)) (numOf (ds.getD 2 default)) (strOf (ds.getD 3 default)))], false, [75, 3, 3, 9]⟩
set_option maxRecDepth 100000 in
theorem m68 : Meets Tryd.prog 68 sp68 := by
 refine meets_of_owed (C := c68) ⟨tab_ok, lkS_ok ⟨m47, m48, m99, m50o, m42, m54o, m53o, m51o, trivial⟩⟩ (by kernel_rfl) (by kernel_rfl : Tryd.prog.funcs[68]? = some Tryd.f68) (by kernel_rfl) (by kernel_rfl) (by kernel_rfl) _ ?_
 rintro _ ⟨a, k, n, p, rfl, ha, hp⟩
 refine ⟨fun h => (by cases h), inv68 a p k.toNat n.toNat, ?_⟩
 show owed c68 (inv68 a p k.toNat n.toNat) Tryd.f68 [num4 a, i64 k, i64 n, .str p] (.tup [.slc 5 (sdX a k n p), i64 (sdE a k n p)])
 rw [vc68]
 have hb1 : badS a k n → sdX a k n p = [] ∧ sdE a k n p = 1 := fun h => by
  have e : sdE a k n p = 1 := by unfold sdE; rw [if_pos h]
  refine ⟨?_, e⟩
  unfold sdX
  rw [e, if_neg (by decide)]
 by_cases h1 : k < 1
 ·rw [(hb1 (.inl h1)).1, (hb1 (.inl h1)).2, decide_eq_true h1]
  simp (decide := true) only [eq_self, true_and, and_true, ne_eq, not_false_eq_true]
 by_cases h2 : n < k
 ·rw [(hb1 (.inr (.inl h2))).1, (hb1 (.inr (.inl h2))).2, decide_eq_false h1, decide_eq_true h2]
  simp (decide := true) only [eq_self, true_and, and_true, ne_eq, not_false_eq_true]
 by_cases h3 : n > 20
 ·rw [(hb1 (.inr (.inr (.inl h3)))).1, (hb1 (.inr (.inr (.inl h3)))).2, decide_eq_false h1, decide_eq_false h2, decide_eq_true h3]
  simp (decide := true) only [eq_self, true_and, and_true, ne_eq, not_false_eq_true]
 rw [decide_eq_false h1, decide_eq_false h2, decide_eq_false h3]
 have hvL : vB 65536 dgL = LQ := by rw [dgL_eq, vl_dg]
 have hlL := lens1 LQ_lt
 have hla := lens1 (wv_lt ha.1 ha.2)
 have hdL : okd dgL ∧ len1 dgL ∧ lenS dgL ∧ lenOk dgL := dgL_eq ▸ hlL
 rw [vl_dg, hvL]
 by_cases h4 : LQ ≤ vB 18446744073709551616 a
 ·have : cmpN (vB 18446744073709551616 a) LQ ≥ 0 := by
   unfold cmpN; rw [if_neg (by omega)]; split <;> decide
  rw [(hb1 (.inr (.inr (.inr h4)))).1, (hb1 (.inr (.inr (.inr h4)))).2, decide_eq_true this]
  simp (decide := true) only [eq_self, true_and, and_true, ne_eq, not_false_eq_true]
  exact ⟨⟨a, rfl, ha.1, ha.2⟩, _, _, rfl, ⟨hla.1, hla.2.2.1⟩, hdL.1, hdL.2.2.1⟩
 have hc4 : ¬ cmpN (vB 18446744073709551616 a) LQ ≥ 0 := by unfold cmpN; rw [if_pos (by omega)]; decide
 rw [decide_eq_false hc4]
 have hbad : ¬ badS a k n := by
  rintro (h | h | h | h)
  ·exact h1 h
  ·exact h2 h
  ·exact h3 h
  ·exact h4 h
 have hE : sdE a k n p = fdE p LQ (k.toNat - 1) := by unfold sdE; rw [if_neg hbad]
 obtain ⟨K, hK⟩ : ∃ K : Nat, k = K := Int.eq_ofNat_of_zero_le (by omega)
 obtain ⟨N, hN⟩ : ∃ N : Nat, n = N := Int.eq_ofNat_of_zero_le (by omega)
 subst hK hN
 have hK1 : 1 ≤ K := by omega
 have hKN : K ≤ N := by omega
 have hN20 : N ≤ 20 := by omega
 rw [Int.toNat_natCast] at hE
 have hX : sdE a (K : Int) (N : Int) p = 0 → sdX a (K : Int) (N : Int) p = rRow (dRow a p LQ (K - 1)) K N := fun h => by
  unfold sdX
  rw [h, if_pos rfl, Int.toNat_natCast, Int.toNat_natCast]
 have hX1 : sdE a (K : Int) (N : Int) p ≠ 0 → sdX a (K : Int) (N : Int) p = [] := fun h => by
  unfold sdX
  rw [if_neg h]
 generalize sdX a (K : Int) (N : Int) p = OX at *
 generalize sdE a (K : Int) (N : Int) p = OE at *
 have hcf := fun v j => cfN_lt (k := p) ha v j
 simp (decide := true) only [vTF, dRow_len, dRow_0, atN_0, fdE_0, rRow_0, rRow_len, List.length_append, List.length_singleton, Nat.add_sub_cancel, Int.toNat_natCast, sm, show Int.toNat 0 = 0 from rfl, show Int.toNat 1 = 1 from rfl, Nat.sub_self, List.length_replicate, eq_self, true_and, and_true, ne_eq, not_false_eq_true]
 refine ⟨⟨a, rfl, ha.1, ha.2⟩, ⟨_, _, rfl, ⟨hla.1, hla.2.2.1⟩, hdL.1, hdL.2.2.1⟩, ?_⟩
 have hTF := isN_TF
 refine ⟨⟨a, rfl, ha.1, ha.2⟩, ⟨rfl, hK1⟩, fun x hx => ?_⟩
 obtain ⟨hx, hfx⟩ := hx
 split
 ·rename_i hlt0
  have hlt : x + 1 < K := by have := of_decide_eq_true hlt0; omega
  have hall := fdE_zero.1 hfx
  have hstop : bwE (gR p (atN p LQ x) LQ) LQ ≠ 0 → fdE p LQ (K - 1) = bwE (gR p (atN p LQ x) LQ) LQ := fun h => fdE_stop (by omega) hall h
  have hf2 : bwE (gR p (atN p LQ x) LQ) LQ = 0 → fdE p LQ (x + 1) = 0 := fun h => by
   unfold fdE
   rw [if_pos hfx, h]
  have hcs : dRow a p LQ x ++ [dgs (dg (vB 18446744073709551616 (bwV (gR p (atN p LQ x) LQ) LQ)))] = dRow a p LQ (x + 1) := dRow_succ a p LQ x
  have hat := atN_lt p LQ x
  have hw := bwN_wrap hat (gR p (atN p LQ x) LQ) LQ
  have hst : atN p LQ (x + 1) = (atN p LQ x + bwN (gR p (atN p LQ x) LQ) LQ) % 18446744073709551616 := rfl
  have hbw := isN_bw (gR p (atN p LQ x) LQ) LQ
  generalize bwE (gR p (atN p LQ x) LQ) LQ = e at *
  refine ⟨⟨_, rfl, hdL.1, hdL.2.2.2⟩, ⟨p, atN p LQ x, _, rfl, hp, hat, hTF⟩, ?_⟩
  by_cases he : e = 0
  ·subst he
   rw [show ((0 : Int) != 0) = false from rfl]
   refine ⟨⟨_, rfl, hbw.1, hbw.2⟩, by omega, ⟨?_, ?_⟩, ⟨by omega, hf2 rfl⟩, by omega⟩
   ·rw [hw, hst]
   ·rw [← hcs]
  ·have hne : (e != 0) = true := by simpa using he
   rw [hne]
   have e1 : OE = e := by rw [hE]; exact hstop he
   rw [hX1 (e1 ▸ he), e1]
 ·rename_i hlt0
  have hlt0 := of_decide_eq_false hlt0
  obtain rfl : x = K - 1 := by omega
  have hE0 : OE = 0 := hE.trans hfx
  rw [hX hE0, hE0]
  have hat := fun j (h : j < K) => dRow_at a p LQ (i := K - 1) (j := j) (by omega)
  have hps := fun x m (h : m ≤ K) => pl_sum a p LQ x hK1 m h
  have hpS : ∀ x m, plN (dRow a p LQ (K - 1)) x (m + 1) = plN (dRow a p LQ (K - 1)) x m + vB 65536 (intsOf ((dRow a p LQ (K - 1)).getD m default)) * x ^ m := fun _ _ => rfl
  have hrS := fun i => rRow_succ (dRow a p LQ (K - 1)) K i
  have hrw : ∀ x, rsW (dRow a p LQ (K - 1)) K x = toF (rsF (dg (plN (dRow a p LQ (K - 1)) x K)) dgL) := fun _ => rfl
  have hp0 : ∀ x, plN (dRow a p LQ (K - 1)) x 0 = 0 := fun _ => rfl
  have hcfL := hcf LQ
  generalize dRow a p LQ (K - 1) = C at *
  generalize hcfe : cfN a p LQ = cf at *
  have hdef : (D.val (Value.bool false)) = (default : D) := rfl
  refine ⟨⟨rfl, Nat.zero_le _, rfl⟩, fun i hi => ?_⟩
  have hi := hi.1
  split
  ·rename_i hlt1
   have hiN : i < N := by have := of_decide_eq_true hlt1; omega
   have hB : ∀ m, m ≤ K → plN C (i + 1) m < 65536 ^ 60 := fun m hm => by
    rw [hps _ _ hm]
    refine Nat.lt_of_le_of_lt (pSum_lt hcfL (by omega) m (by omega)) ?_
    exact Nat.lt_of_le_of_lt (Nat.mul_le_mul_right _ (show m ≤ 20 by omega)) (by decide)
   have hxp : ∀ m, m ≤ K → (i + 1) ^ m < 65536 ^ 6 := fun m hm => Nat.lt_of_le_of_lt (Nat.le_trans (Nat.pow_le_pow_left (show i + 1 ≤ 20 by omega) m) (Nat.pow_le_pow_right (by decide) (show m ≤ 20 by omega))) (by decide)
   have hlp := fun m hm => lens (Nat.lt_trans (hB m hm) (by decide))
   have hlx := fun m hm => lens (Nat.lt_trans (hxp m hm) (by decide))
   refine ⟨⟨⟨by rw [hp0]; rfl, by rw [Nat.pow_zero]; rfl, rfl⟩, Nat.zero_le _⟩, fun y hy => ?_⟩
   obtain ⟨j, X⟩ := y
   obtain ⟨hj, hX'⟩ := hy
   simp only at hj hX' ⊢
   obtain rfl : X = i + 1 := by omega
   split
   ·rename_i hlt2
    have hjK : j < K := by have := of_decide_eq_true hlt2; omega
    have e1 : IntKind.i64.wrap ((j : Int) + 1) = ((j + 1 : Nat) : Int) := by rw [wi (by omega) (by omega)]; omega
    have hcj := hat j hjK
    have hcl := lens1 (hcfL j)
    have htm : tmF (dg (cf j)) (dg ((i + 1) ^ j)) = dg (cf j * (i + 1) ^ j) := tm_eq _ _
    have hpl : plF (dg (plN C (i + 1) j)) (dg (cf j * (i + 1) ^ j)) = dg (plN C (i + 1) (j + 1)) := by
     rw [pl_eq, hpS, hcj]
     show dg (_ + cf j * _) = dg (_ + vB 65536 (dg (cf j)) * _)
     rw [vl_dg]
    have htx : tmF (dg ((i + 1) ^ j)) [((i + 1 : Nat) : Int)] = dg ((i + 1) ^ (j + 1)) := by
     have e : [((i + 1 : Nat) : Int)] = dg (i + 1) := by
      have := dg_one (n := i + 1) (by omega) (by omega)
      exact this.symm
     rw [e, tm_eq, Nat.pow_succ]
    have hmul : cf j * (i + 1) ^ j < 65536 ^ 64 := Nat.lt_of_lt_of_le (Nat.mul_lt_mul'' (hcfL j) (hxp j (by omega))) (by decide)
    have hlm := lens hmul
    simp only [hdef, hcj, intsOf, htm, hpl, htx, e1, Int.toNat_natCast]
    refine ⟨⟨by omega, by omega⟩, ⟨by omega, trivial⟩, ⟨_, _, rfl, ⟨hcl.1, hcl.2.2.1⟩, (hlx j (by omega)).1, (hlx j (by omega)).2.2.1⟩,
     ⟨_, _, rfl, ⟨(hlp j (by omega)).1, (hlp j (by omega)).2.2.1⟩, hlm.1, hlm.2.2.1⟩, ⟨_, _, rfl, ⟨(hlx j (by omega)).1, (hlx j (by omega)).2.2.1⟩, ?_, by unfold lenS; simp⟩, by and_intros <;> first | trivial | rfl, by omega, by omega⟩
    intro z hz
    rw [List.mem_singleton] at hz
    subst hz
    omega
   ·rename_i hlt2
    have hlt2 := of_decide_eq_false hlt2
    obtain rfl : j = K := by omega
    have e1 : IntKind.i64.wrap (((i + 1 : Nat) : Int) + 1) = ((i + 1 + 1 : Nat) : Int) := by rw [wi (by omega) (by omega)]; omega
    have hlr := lens1 (md_256 (plN C (i + 1) j))
    have hrs : rsF (dg (plN C (i + 1) j)) dgL = dg (plN C (i + 1) j % LQ) := by rw [dgL_eq, rs_eq]
    have hrow := hrS i
    rw [hrw] at hrow
    simp only [e1, Int.toNat_natCast, Nat.add_sub_cancel, hrow]
    refine ⟨⟨_, _, rfl, ⟨(hlp j (Nat.le_refl _)).1, (hlp j (Nat.le_refl _)).2.1⟩, ⟨hdL.1, hdL.2.1⟩, by rw [hvL]; exact Nat.ne_of_gt LQ_pos⟩, ⟨_, rfl, by rw [hrs]; exact hlr.1, by rw [hrs]; exact hlr.2.2.2⟩, by omega, by and_intros <;> first | trivial | rfl, ⟨by omega, trivial⟩, by omega⟩
  ·rename_i hlt1
   have hlt1 := of_decide_eq_false hlt1
   obtain rfl : i = N := by omega
   rfl
end Go.Proofs.YtkicjckhkefnpaaDoor
namespace Go.Proofs.YtkicjckhkefnpaaDoor
open Go Go.Vg
noncomputable def sp69 : Go.Vg.Spec := ⟨fun ds => ∃ xs, ds = [.slc 5 xs, .slc 5 xs] ∧ (∀ y ∈ xs, ∃ n l, y = .st [i64 n, num4 l]) ∧ xs.length ≤ 1000, fun _ => .val (.bool true), true, [104, 104]⟩
def inv69 (xs : List D) : Nat → Option Inv
 | 4 => some ⟨Nat, fun i => [(13, .d (i64 i))], fun _ => [], fun t => (slotN t 13).toNat, fun _ i => i ≤ xs.length, fun i => xs.length - i⟩
 | _ => none
noncomputable def c10 : Ctx := ⟨tab, lkS [(67, sp67), (68, sp68), (69, sp69)], [], []⟩
set_option maxRecDepth 100000 in
theorem vc69  (xs : List D) (F : D)  :
    (owed c0 (inv69 xs) Tryd.f69 [.slc 5 xs, .slc 5 xs] F) = (
 True ∧ True ∧ True ∧ True ∧ True ∧ True ∧ match (↑xs.length : Int) != (↑xs.length : Int) with
 | true => True ∧ (false = false ∧ True) ∧ D.val (Value.bool false) = F
 | false => True ∧ True ∧ True ∧ (((AV.d (D.val (.int .i64 0)) = AV.d (D.val (.int .i64 (↑(Int.toNat (0 : Int)) : Int))) ∧ True) ∧ True ∧ true = true) ∧ Int.toNat (0 : Int) ≤ xs.length) ∧ ∀ (x : Nat), x ≤ xs.length → true = true ∧ True ∧ match decide ((↑x : Int) < (↑xs.length : Int)) with
  | true => True ∧ True ∧ True ∧ True ∧ ((0 : Int) ≤ (↑x : Int) ∧ (↑x : Int) < (↑xs.length : Int) ∧ 5 ≠ 0 ∧ 5 = 5 ∧ D.st [D.val (.int .i64 (numOf (fldOf (xs.getD (↑x : Int).toNat (D.val (Value.bool false))) 0))), D.arr .u64 4 (arrOf (fldOf (xs.getD (↑x : Int).toNat (D.val (Value.bool false))) 1))] = xs.getD (↑x : Int).toNat (D.val (Value.bool false))) ∧ (5 ≠ 0 ∧ 5 = 5 ∧ true = true) ∧ True ∧ True ∧ ((0 : Int) ≤ (↑x : Int) ∧ (↑x : Int) < (↑xs.length : Int) ∧ 5 ≠ 0 ∧ 5 = 5 ∧ D.st [D.val (.int .i64 (numOf (fldOf (xs.getD (↑x : Int).toNat (D.val (Value.bool false))) 0))), D.arr .u64 4 (arrOf (fldOf (xs.getD (↑x : Int).toNat (D.val (Value.bool false))) 1))] = xs.getD (↑x : Int).toNat (D.val (Value.bool false))) ∧ (5 ≠ 0 ∧ 5 = 5 ∧ true = true) ∧ (true = true ∧ Sk.st [Sk.one, Sk.arr 4] = Sk.st [Sk.one, Sk.arr 4] ∧ Sk.st [Sk.one, Sk.arr 4] = Sk.st [Sk.one, Sk.arr 4] ∧ false = false ∧ false = false ∧ (IntKind.i64 = IntKind.i64 ∧ IntKind.i64 = IntKind.i64) ∧ true = true ∧ true = true ∧ (IntKind.u64 = IntKind.u64 ∧ IntKind.u64 = IntKind.u64 ∧ 4 = 4 ∧ 4 = 4 ∧ 1 = 1) ∧ True) ∧ match !(numOf (fldOf (xs.getD (↑x : Int).toNat (D.val (Value.bool false))) 0) == numOf (fldOf (xs.getD (↑x : Int).toNat (D.val (Value.bool false))) 0) && (eqB (arrOf (fldOf (xs.getD (↑x : Int).toNat (D.val (Value.bool false))) 1)) (arrOf (fldOf (xs.getD (↑x : Int).toNat (D.val (Value.bool false))) 1)) && true)) with
   | true => True ∧ (false = false ∧ True) ∧ D.val (Value.bool false) = F
   | false => True ∧ True ∧ ((AV.d (D.val (.int .i64 (IntKind.i64.wrap ((↑x : Int) + (1 : Int))))) = AV.d (D.val (.int .i64 (↑(IntKind.i64.wrap ((↑x : Int) + (1 : Int))).toNat : Int))) ∧ True) ∧ True ∧ true = true) ∧ (IntKind.i64.wrap ((↑x : Int) + (1 : Int))).toNat ≤ xs.length ∧ xs.length - (IntKind.i64.wrap ((↑x : Int) + (1 : Int))).toNat < xs.length - x
  | false => True ∧ (false = false ∧ True) ∧ D.val (Value.bool true) = F) := by kernel_rfl
set_option maxRecDepth 100000 in
theorem vc10  (a : List Int) (k n : Int) (p : List Int) (F : D)  :
    (owed c10 (fun _ => none) Tryd.f10 [num4 a, i64 k, i64 n, .ints .u8 p] F) = (
 (True ∧ false = false) ∧ True ∧ (4 ≠ 0 ∧ 4 = 4 ∧ true = true) ∧ True ∧ True ∧ True ∧ (∃ (a_1 : List Int), ∃ (k_1 : Int), ∃ (n_1 : Int), ∃ (p_1 : List Int), [D.arr .u64 4 a, D.val (Value.int IntKind.i64 k), D.val (Value.int IntKind.i64 n), D.ints .u8 p] = [D.arr .u64 4 a_1, D.val (Value.int IntKind.i64 k_1), D.val (Value.int IntKind.i64 n_1), D.ints .u8 p_1] ∧ isN a_1 ∧ isB p_1) ∧ True ∧ (0 < 2 ∧ false = false) ∧ (1 < 2 ∧ false = false) ∧ True ∧ True ∧ (4 ≠ 0 ∧ 4 = 4 ∧ true = true) ∧ True ∧ True ∧ True ∧ isBytes p ∧ (∃ (a_1 : List Int), ∃ (k_1 : Int), ∃ (n_1 : Int), ∃ (p_1 : List Int), [D.arr .u64 4 a, D.val (Value.int IntKind.i64 k), D.val (Value.int IntKind.i64 n), D.str p] = [D.arr .u64 4 a_1, D.val (Value.int IntKind.i64 k_1), D.val (Value.int IntKind.i64 n_1), D.str p_1] ∧ isN a_1 ∧ isB p_1) ∧ True ∧ (0 < 2 ∧ false = false) ∧ (1 < 2 ∧ false = false) ∧ True ∧ True ∧ True ∧ True ∧ (∃ (xs : List D), [D.slc 5 (shX a k n p), D.slc 5 (sdX a k n p)] = [D.slc 5 xs, D.slc 5 xs] ∧ (∀ (y : D), y ∈ xs → ∃ (n : Int), ∃ (l : List Int), y = D.st [D.val (Value.int IntKind.i64 n), D.arr .u64 4 l]) ∧ xs.length ≤ 1000) ∧ True ∧ True ∧ True ∧ True ∧ True ∧ True ∧ (false = false ∧ True) ∧ D.val (Value.bool (shE a k n p == sdE a k n p)) = F) := by kernel_rfl
set_option maxRecDepth 100000 in
theorem ok3s  (d : D)  :
    (OkT tab 8 3 d) = (
 ∃ (z : Int), d = D.val (Value.int IntKind.i64 z) ∧ -(2 : Int) ^ 63 ≤ z ∧ z ≤ IntKind.i64.max) := by kernel_rfl
end Go.Proofs.YtkicjckhkefnpaaDoor
namespace Go.Proofs.YtkicjckhkefnpaaDoor
open Go Go.Vg
set_option maxRecDepth 100000 in
theorem m69 : Meets Tryd.prog 69 sp69 := by
 refine meets_of_owed (C := c0) ⟨tab_ok, fun f s h => by cases h⟩ (by kernel_rfl) (by kernel_rfl : Tryd.prog.funcs[69]? = some Tryd.f69) (by kernel_rfl) (by kernel_rfl) (by kernel_rfl) _ ?_
 rintro _ ⟨xs, rfl, hxs, hl⟩
 refine ⟨fun _ => rfl, inv69 xs, ?_⟩
 show owed c0 (inv69 xs) Tryd.f69 [.slc 5 xs, .slc 5 xs] (bl true)
 rw [vc69]
 rw [bne_self_eq_false]
 simp (decide := true) only [Int.toNat_natCast, show Int.toNat 0 = 0 from rfl, eq_self, true_and, and_true, ne_eq, not_false_eq_true]
 refine ⟨⟨rfl, Nat.zero_le _⟩, fun x hx => ?_⟩
 split
 ·rename_i h
  have h : x < xs.length := by have := of_decide_eq_true h; omega
  obtain ⟨n, l, e⟩ : ∃ n l, xs.getD x (D.val (Value.bool false)) = .st [i64 n, num4 l] := by
   refine hxs _ ?_
   rw [List.getD_eq_getElem?_getD, List.getElem?_eq_getElem h]
   exact List.getElem_mem h
  have e1 : IntKind.i64.wrap ((x : Int) + 1) = ((x + 1 : Nat) : Int) := by rw [wi (by omega) (by omega)]; omega
  simp only [e, e1, Int.toNat_natCast, fldOf, List.getD_cons_zero, List.getD_cons_succ, numOf, arrOf, eqB_refl, beq_self_eq_true, Bool.and_true, Bool.not_true]
  refine ⟨⟨by omega, by omega, trivial⟩, ⟨by omega, by omega, trivial⟩, ?_⟩
  and_intros <;> first | trivial | omega
 ·simp (decide := true) only [eq_self, true_and, and_true, ne_eq, not_false_eq_true]
theorem sE_eq (a : List Int) (k n : Int) {p : List Int} (hp : isB p) : shE a k n p = sdE a k n p := by
 unfold shE sdE
 rw [fD_eq hp]
theorem cRow_val {a p : List Int} (hp : isB p) {i j : Nat} (h : j < i + 1) : vB 18446744073709551616 (arrOf ((cRow LQ a (sr0 p 0) i).getD j default)) = cfN a p LQ j := by
 generalize LQ = v
 unfold cRow cfN
 cases j with
 | zero => rfl
 | succ j =>
  rw [List.getD_cons_succ, List.getD_eq_getElem?_getD, List.getElem?_map, List.getElem?_range (by omega), if_neg (by omega), dX_eq hp, Nat.add_sub_cancel]
  rfl
theorem hWd_val {a p : List Int} (hp : isB p) {K : Nat} (hK : 1 ≤ K) (hK2 : K ≤ 20) {x : Nat} (hx : x ≤ 20) : ∀ t, t + 1 ≤ K → vB 18446744073709551616 (hWd (cRow LQ a (sr0 p 0) (K - 1)) K x t) = hN (cfN a p LQ) K x t
 | 0, _ => by
  show vB 18446744073709551616 (arrOf ((cRow LQ a (sr0 p 0) (K - 1)).getD (K - 1) default)) = cfN a p LQ (K - 1)
  exact cRow_val hp (by omega)
 | t + 1, h => by
  have ih := hWd_val (a := a) hp hK hK2 hx t (by omega)
  show vB 18446744073709551616 (amL (mmL (hWd (cRow LQ a (sr0 p 0) (K - 1)) K x t) (nmL (x : Int))) (arrOf ((cRow LQ a (sr0 p 0) (K - 1)).getD (K - 2 - t) default))) = (hN (cfN a p LQ) K x t * x % LQ + cfN a p LQ (K - 2 - t)) % LQ
  have hn : vB 18446744073709551616 (nmL (x : Int)) = x := by
   unfold nmL
   rw [opq_eq, Int.toNat_natCast, n4v' (Nat.lt_of_le_of_lt hx (by decide))]
  unfold amL mmL
  rw [opq_eq, opq_eq, n4v' (md_256 _), n4v' (md_256 _), ih, hn, cRow_val hp (by omega)]
theorem sX_eq {a : List Int} (ha : isN a) (k n : Int) {p : List Int} (hp : isB p) : shX a k n p = sdX a k n p := by
 unfold shX sdX
 rw [sE_eq a k n hp]
 by_cases h : sdE a k n p = 0
 ·rw [if_pos h, if_pos h]
  unfold rRow
  have hbad : ¬ badS a k n := fun hb => by
   unfold sdE at h
   rw [if_pos hb] at h
   exact absurd h (by decide)
  have hb : 1 ≤ k ∧ k ≤ n ∧ n ≤ 20 ∧ vB 18446744073709551616 a < LQ := by
   unfold badS at hbad
   omega
  refine List.map_congr_left fun j hj => ?_
  have hj : j < n.toNat := List.mem_range.1 hj
  unfold shW
  congr 3
  have hK : 1 ≤ k.toNat := by omega
  have h1 := hWd_val (a := a) hp hK (by omega) (x := j + 1) (by omega) (k.toNat - 1) (by omega)
  have hN := hWd_isN LQ ha (sr0 p 0) (k := k.toNat) (by omega) (j + 1) (k.toNat - 1)
  have h2 : hWd (cRow LQ a (sr0 p 0) (k.toNat - 1)) k.toNat (j + 1) (k.toNat - 1) = nB 18446744073709551616 4 (vB 18446744073709551616 (hWd (cRow LQ a (sr0 p 0) (k.toNat - 1)) k.toNat (j + 1) (k.toNat - 1))) := by
   rw [← hN.2, nB_vB hN.1]
  rw [h2, h1, hN_end _ _ hK (fun _ => hb.2.2.2)]
  unfold rsW
  rw [dgL_eq, rs_eq, to_eq, pl_sum a p LQ (j + 1) hK _ (Nat.le_refl _)]
 ·rw [if_neg h, if_neg h]
theorem okAll4 {t : Tab} {n : Nat} {a b c u : TypeId} : ∀ {ds : List D}, OkAll t n [a, b, c, u] ds → ∃ d e f g, ds = [d, e, f, g] ∧ OkT t n a d ∧ OkT t n b e ∧ OkT t n c f ∧ OkT t n u g
 | [], h => by cases h
 | [_], h => by cases h.2
 | [_, _], h => by cases h.2.2
 | [_, _, _], h => by cases h.2.2.2
 | [d, e, f, g], h => ⟨d, e, f, g, rfl, h.1, h.2.1, h.2.2.1, h.2.2.2.1⟩
 | _ :: _ :: _ :: _ :: _ :: _, h => by cases h.2.2.2.2
set_option maxRecDepth 100000 in
theorem m10 : Meets Tryd.prog 10 (lawSpec tab Tryd.f10.params.toList) := by
 refine meets_of_owed (C := c10) ⟨tab_ok, lkS_ok ⟨m67, m68, m69, trivial⟩⟩ (by kernel_rfl) (by kernel_rfl : Tryd.prog.funcs[10]? = some Tryd.f10) (by kernel_rfl) (by kernel_rfl) (by kernel_rfl) _ ?_
 intro ds hds
 obtain ⟨a, k, n, p, rfl, ha, hp⟩ : ∃ a k n p, ds = [num4 a, i64 k, i64 n, .ints .u8 p] ∧ isN a ∧ isB p := by
  have hds : OkAll tab 8 [75, 3, 3, 26] ds := hds
  obtain ⟨d1, d2, d3, d4, rfl, h1, h2, h3, h4⟩ := okAll4 hds
  obtain ⟨a, rfl, ha⟩ := num_of h1
  rw [ok3s] at h2 h3
  obtain ⟨k, rfl, _⟩ := h2
  obtain ⟨n, rfl, _⟩ := h3
  rw [ok26] at h4
  obtain ⟨l, rfl, h1, _, h3⟩ := h4
  refine ⟨a, k, n, l, rfl, ha, fun x hx => ?_, by omega⟩
  have := h1 x hx
  have e : IntKind.u8.max = 255 := rfl
  rw [e] at this
  omega
 refine ⟨fun _ => rfl, fun _ => none, ?_⟩
 show owed c10 (fun _ => none) Tryd.f10 [num4 a, i64 k, i64 n, .ints .u8 p] (bl true)
 rw [vc10, sX_eq ha k n hp, sE_eq a k n hp]
 simp (decide := true) only [beq_self_eq_true, eq_self, true_and, and_true, ne_eq, not_false_eq_true]
 have hel : ∀ y ∈ sdX a k n p, ∃ n l, y = D.st [i64 n, num4 l] := by
  intro y hy
  unfold sdX at hy
  split at hy
  ·unfold rRow at hy
   obtain ⟨j, _, rfl⟩ := List.mem_map.1 hy
   exact ⟨_, _, rfl⟩
  ·cases hy
 have hlen : (sdX a k n p).length ≤ 1000 := by
  by_cases h : sdE a k n p = 0
  ·have hbad : ¬ badS a k n := fun hb => by
    unfold sdE at h
    rw [if_pos hb] at h
    exact absurd h (by decide)
   unfold sdX
   rw [if_pos h, rRow_len]
   unfold badS at hbad
   omega
  ·unfold sdX
   rw [if_neg h]
   decide
 exact ⟨⟨a, k, n, p, rfl, ha, hp⟩, hp.1, ⟨a, k, n, p, rfl, ha, hp⟩, ⟨_, rfl, hel, hlen⟩⟩
end Go.Proofs.YtkicjckhkefnpaaDoor
