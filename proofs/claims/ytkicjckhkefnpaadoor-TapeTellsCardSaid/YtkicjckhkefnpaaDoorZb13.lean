/- package tape: Read and Append: what they owe. -/
import Derived.Test.YtkicjckhkefnpaaDoorZb12
namespace Go.Proofs.YtkicjckhkefnpaaDoor
open Go Go.Vg
def apIt (t k r : List Int) : List Int := wrIts [(1, mkL k ((rdSt k t).last ++ r) ++ r)]
def apE (t k r : List Int) : Int := if r.length > 4064 then 2 else if (rdSt k t).at_ + (apIt t k r).length > 65536 then 2 else 0
def apL (t k r : List Int) : List Int := if apE t k r = 0 then t.take (rdSt k t).at_ ++ apIt t k r else []
def rcL (s : TS) : List D := s.recs.map (.ints .u8)
def sp35 : Go.Vg.Spec := ⟨fun ds => ∃ t k, ds = [.ints .u8 t, .ints .u8 k] ∧ isP t ∧ isP k, fun ds => .tup [.slc 1 (rcL (rdSt (intsOf (ds.getD 1 default)) (intsOf (ds.headD default)))), i64 ((rdSt (intsOf (ds.getD 1 default)) (intsOf (ds.headD default))).at_ : Int), i64 (rdEr (intsOf (ds.getD 1 default)) (intsOf (ds.headD default)))], false, [26, 26]⟩
def sp37 : Go.Vg.Spec := ⟨fun ds => ∃ t k r, ds = [.ints .u8 t, .ints .u8 k, .ints .u8 r] ∧ isP t ∧ isP k ∧ isP r, fun ds => .tup [.ints .u8 (apL (intsOf (ds.headD default)) (intsOf (ds.getD 1 default)) (intsOf (ds.getD 2 default))), i64 (apE (intsOf (ds.headD default)) (intsOf (ds.getD 1 default)) (intsOf (ds.getD 2 default)))], false, [26, 26, 26]⟩
def sp37a : Go.Vg.Spec := ⟨fun ds => ∃ t k r, ds = [.ints .u8 t, .ints .u8 k, .ints .u8 r] ∧ isP t ∧ isP k ∧ isP r ∧ 0 < r.length, sp37.f, false, [26, 26, 26]⟩
def sp37b : Go.Vg.Spec := ⟨fun ds => ∃ t k r, ds = [.ints .u8 t, .ints .u8 k, .ints .u8 r] ∧ isP t ∧ isP k ∧ isP r ∧ r.length = 0, sp37.f, false, [26, 26, 26]⟩
def c35 : Ctx := ⟨tab, lkS [(86, sp86)], [], [702010, 402011]⟩
def c37a : Ctx := ⟨tab, lkS [(86, sp86), (89, sp89), (90, sp90), (78, sp78r)], [], [702016, 402017, 900027]⟩
def c37b : Ctx := ⟨tab, lkS [(86, sp86), (89, sp89), (90, sp90), (78, sp78r)], [], [702016, 402017, 910027, 28]⟩
set_option maxRecDepth 100000 in
theorem vc35  (t k : List Int) (F : D)  :
    (owed c35 (fun _ => none) Tryd.f35 [.ints .u8 t, .ints .u8 k] F) = (
 True ∧ True ∧ True ∧ True ∧ (True ∧ false = false ∧ (0 < 4 ∧ Sk.one = Sk.one) ∧ True) ∧ True ∧ True ∧ True ∧ True ∧ (2 = ((9100200026 : TypeId) - 9100000000) / 100000 ∧ (26 : TypeId) = ((9100200026 : TypeId) - (9100000000 : TypeId)) % (100000 : TypeId) ∧ ∃ (k_1 : List Int), ∃ (t_1 : List Int), [D.st [D.ints .u8 k, D.arr .u8 32 [(0 : Int), (0 : Int), (0 : Int), (0 : Int), (0 : Int), (0 : Int), (0 : Int), (0 : Int), (0 : Int), (0 : Int), (0 : Int), (0 : Int), (0 : Int), (0 : Int), (0 : Int), (0 : Int), (0 : Int), (0 : Int), (0 : Int), (0 : Int), (0 : Int), (0 : Int), (0 : Int), (0 : Int), (0 : Int), (0 : Int), (0 : Int), (0 : Int), (0 : Int), (0 : Int), (0 : Int), (0 : Int)], D.slc 1 [], D.val (.int .i64 0)], D.ints .u8 t] = [D.st [D.ints .u8 k_1, D.arr .u8 32 (TS.mk [(0 : Int), (0 : Int), (0 : Int), (0 : Int), (0 : Int), (0 : Int), (0 : Int), (0 : Int), (0 : Int), (0 : Int), (0 : Int), (0 : Int), (0 : Int), (0 : Int), (0 : Int), (0 : Int), (0 : Int), (0 : Int), (0 : Int), (0 : Int), (0 : Int), (0 : Int), (0 : Int), (0 : Int), (0 : Int), (0 : Int), (0 : Int), (0 : Int), (0 : Int), (0 : Int), (0 : Int), (0 : Int)] [] 0).last, D.slc 1 (List.map (D.ints .u8) (TS.mk [(0 : Int), (0 : Int), (0 : Int), (0 : Int), (0 : Int), (0 : Int), (0 : Int), (0 : Int), (0 : Int), (0 : Int), (0 : Int), (0 : Int), (0 : Int), (0 : Int), (0 : Int), (0 : Int), (0 : Int), (0 : Int), (0 : Int), (0 : Int), (0 : Int), (0 : Int), (0 : Int), (0 : Int), (0 : Int), (0 : Int), (0 : Int), (0 : Int), (0 : Int), (0 : Int), (0 : Int), (0 : Int)] [] 0).recs), D.val (Value.int IntKind.i64 (↑(TS.mk [(0 : Int), (0 : Int), (0 : Int), (0 : Int), (0 : Int), (0 : Int), (0 : Int), (0 : Int), (0 : Int), (0 : Int), (0 : Int), (0 : Int), (0 : Int), (0 : Int), (0 : Int), (0 : Int), (0 : Int), (0 : Int), (0 : Int), (0 : Int), (0 : Int), (0 : Int), (0 : Int), (0 : Int), (0 : Int), (0 : Int), (0 : Int), (0 : Int), (0 : Int), (0 : Int), (0 : Int), (0 : Int)] [] 0).at_ : Int))], D.ints .u8 t_1] ∧ isP k_1 ∧ isP t_1) ∧ True ∧ True ∧ True ∧ (Sk.st [Sk.one, Sk.arr 32, Sk.one, Sk.one] = Sk.st [Sk.one, Sk.arr 32, Sk.one, Sk.one] ∧ 2 < 4) ∧ (1 = 1 ∧ false = false) ∧ True ∧ True ∧ (Sk.st [Sk.one, Sk.arr 32, Sk.one, Sk.one] = Sk.st [Sk.one, Sk.arr 32, Sk.one, Sk.one] ∧ 3 < 4) ∧ (1 ≠ 0 ∧ 1 = 1 ∧ false = false) ∧ True ∧ True ∧ True ∧ True ∧ (false = false ∧ false = false ∧ false = false ∧ True) ∧ D.tup [D.slc 1 (List.map (D.ints .u8) (rdSt k t).recs), D.val (.int .i64 (↑(rdSt k t).at_ : Int)), D.val (.int .i64 (rdEr k t))] = F) := by kernel_rfl
set_option maxRecDepth 100000 in
theorem vc37a  (t k r : List Int) (F : D)  :
    (owed c37a (fun _ => none) Tryd.f37 [.ints .u8 t, .ints .u8 k, .ints .u8 r] F) = (
 True ∧ True ∧ True ∧ True ∧ True ∧ match decide ((↑r.length : Int) > (4064 : Int)) with
 | true => True ∧ True ∧ (false = false ∧ false = false ∧ True) ∧ D.tup [D.ints .u8 [], D.val (.int .i64 2)] = F
 | false => True ∧ (True ∧ false = false ∧ (0 < 4 ∧ Sk.one = Sk.one) ∧ True) ∧ True ∧ True ∧ True ∧ True ∧ (2 = ((9100200026 : TypeId) - 9100000000) / 100000 ∧ (26 : TypeId) = ((9100200026 : TypeId) - (9100000000 : TypeId)) % (100000 : TypeId) ∧ ∃ (k_1 : List Int), ∃ (t_1 : List Int), [D.st [D.ints .u8 k, D.arr .u8 32 [(0 : Int), (0 : Int), (0 : Int), (0 : Int), (0 : Int), (0 : Int), (0 : Int), (0 : Int), (0 : Int), (0 : Int), (0 : Int), (0 : Int), (0 : Int), (0 : Int), (0 : Int), (0 : Int), (0 : Int), (0 : Int), (0 : Int), (0 : Int), (0 : Int), (0 : Int), (0 : Int), (0 : Int), (0 : Int), (0 : Int), (0 : Int), (0 : Int), (0 : Int), (0 : Int), (0 : Int), (0 : Int)], D.slc 1 [], D.val (.int .i64 0)], D.ints .u8 t] = [D.st [D.ints .u8 k_1, D.arr .u8 32 (TS.mk [(0 : Int), (0 : Int), (0 : Int), (0 : Int), (0 : Int), (0 : Int), (0 : Int), (0 : Int), (0 : Int), (0 : Int), (0 : Int), (0 : Int), (0 : Int), (0 : Int), (0 : Int), (0 : Int), (0 : Int), (0 : Int), (0 : Int), (0 : Int), (0 : Int), (0 : Int), (0 : Int), (0 : Int), (0 : Int), (0 : Int), (0 : Int), (0 : Int), (0 : Int), (0 : Int), (0 : Int), (0 : Int)] [] 0).last, D.slc 1 (List.map (D.ints .u8) (TS.mk [(0 : Int), (0 : Int), (0 : Int), (0 : Int), (0 : Int), (0 : Int), (0 : Int), (0 : Int), (0 : Int), (0 : Int), (0 : Int), (0 : Int), (0 : Int), (0 : Int), (0 : Int), (0 : Int), (0 : Int), (0 : Int), (0 : Int), (0 : Int), (0 : Int), (0 : Int), (0 : Int), (0 : Int), (0 : Int), (0 : Int), (0 : Int), (0 : Int), (0 : Int), (0 : Int), (0 : Int), (0 : Int)] [] 0).recs), D.val (Value.int IntKind.i64 (↑(TS.mk [(0 : Int), (0 : Int), (0 : Int), (0 : Int), (0 : Int), (0 : Int), (0 : Int), (0 : Int), (0 : Int), (0 : Int), (0 : Int), (0 : Int), (0 : Int), (0 : Int), (0 : Int), (0 : Int), (0 : Int), (0 : Int), (0 : Int), (0 : Int), (0 : Int), (0 : Int), (0 : Int), (0 : Int), (0 : Int), (0 : Int), (0 : Int), (0 : Int), (0 : Int), (0 : Int), (0 : Int), (0 : Int)] [] 0).at_ : Int))], D.ints .u8 t_1] ∧ isP k_1 ∧ isP t_1) ∧ True ∧ True ∧ (∃ (k_1 : List Int), ∃ (s : TS), ∃ (p : List Int), [(D.st [D.ints .u8 k, D.arr .u8 32 (rdSt k t).last, D.slc 1 (List.map (D.ints .u8) (rdSt k t).recs), D.val (.int .i64 (↑(rdSt k t).at_ : Int))]).ref, D.ints .u8 r] = [(D.st [D.ints .u8 k_1, D.arr .u8 32 s.last, D.slc 1 (List.map (D.ints .u8) s.recs), D.val (.int .i64 (↑s.at_ : Int))]).ref, D.ints .u8 p] ∧ isP k_1 ∧ (isBytes s.last ∧ s.last.length = 32) ∧ isP p) ∧ (True ∧ 32 ≠ 0) ∧ (Sk.arr 32 = Sk.arr 32 ∧ 32 ≠ 0 ∧ 32 = 32 ∧ false = false) ∧ ((0 : Int) ≤ 0 ∧ (0 : Int) ≤ (↑(32 : Nat) : Int) ∧ (↑(32 : Nat) : Int) ≤ (↑(32 : Nat) : Int) ∧ 32 = 32 ∧ 1 = 1) ∧ True ∧ (IntKind.u8 = IntKind.u8 ∧ 26 = 26 ∧ (↑(32 : Nat) : Int).toNat - 0 = 32 ∧ 0 < 32 ∧ 0 < r.length ∧ (↑(32 : Nat) : Int).toNat - 0 + r.length ≤ 140737488355328 ∧ ((↑(32 : Nat) : Int).toNat - 0 + r.length) * 1 ≤ 140737488355328 ∧ 1 = 1) ∧ (false = false ∧ (0 < 2 ∧ Sk.one = Sk.one) ∧ false = false ∧ (1 < 2 ∧ Sk.one = Sk.one) ∧ True) ∧ (1 ≤ 4096 ∧ 2 ≤ 256 ∧ 2 ≠ 0) ∧ (∃ (L : List It), [D.slc 2 [D.st [D.val (.int .u8 1), D.ints .u8 (List.take ((↑(32 : Nat) : Int).toNat - 0) (List.drop 0 (mkL k ((rdSt k t).last ++ r))) ++ r)]]] = [D.slc 2 (List.map itD L)] ∧ okIts L) ∧
  True ∧ (0 < 2 ∧ false = false) ∧ (1 < 2 ∧ false = false) ∧ True ∧ True ∧ True ∧ True ∧ (Sk.st [Sk.one, Sk.arr 32, Sk.one, Sk.one] = Sk.st [Sk.one, Sk.arr 32, Sk.one, Sk.one] ∧ 3 < 4) ∧ (1 ≠ 0 ∧ 1 = 1 ∧ false = false) ∧ True ∧ True ∧ True ∧ True ∧ match decide (IntKind.i64.wrap ((↑(rdSt k t).at_ : Int) + (↑(wrB (itsOf (D.slc 2 [D.st [D.val (.int .u8 1), D.ints .u8 (List.take ((↑(32 : Nat) : Int).toNat - 0) (List.drop 0 (mkL k ((rdSt k t).last ++ r))) ++ r)]]))).length : Int)) > (65536 : Int)) with
  | true => True ∧ True ∧ (false = false ∧ false = false ∧ True) ∧ D.tup [D.ints .u8 [], D.val (.int .i64 2)] = F
  | false => True ∧ True ∧ True ∧ (Sk.st [Sk.one, Sk.arr 32, Sk.one, Sk.one] = Sk.st [Sk.one, Sk.arr 32, Sk.one, Sk.one] ∧ 3 < 4) ∧ (1 ≠ 0 ∧ 1 = 1 ∧ false = false) ∧ ((0 : Int) ≤ 0 ∧ (0 : Int) ≤ (↑(rdSt k t).at_ : Int) ∧ (↑(rdSt k t).at_ : Int) ≤ (↑t.length : Int) ∧ 1 = 1) ∧ (∃ (l : List Int), [D.ints .u8 (List.drop 0 (List.take (↑(rdSt k t).at_ : Int).toNat t))] = [D.ints .u8 l] ∧ isP l) ∧ True ∧ ((8500005 : TypeId) - (8500000 : TypeId) = (5 : TypeId) ∧ 26 = 26 ∧ true = true ∧ (List.drop 0 (List.take (↑(rdSt k t).at_ : Int).toNat t) ++ wrB (itsOf (D.slc 2 [D.st [D.val (.int .u8 1), D.ints .u8 (List.take ((↑(32 : Nat) : Int).toNat - 0) (List.drop 0 (mkL k ((rdSt k t).last ++ r))) ++ r)]]))).length ≤ 140737488355328 ∧ (List.drop 0 (List.take (↑(rdSt k t).at_ : Int).toNat t) ++ wrB (itsOf (D.slc 2 [D.st [D.val (.int .u8 1), D.ints .u8 (List.take ((↑(32 : Nat) : Int).toNat - 0) (List.drop 0 (mkL k ((rdSt k t).last ++ r))) ++ r)]]))).length * 1 ≤ 140737488355328 ∧ 1 ≠ 0 ∧ 1 = 1) ∧ True ∧ True ∧ (false = false ∧ false = false ∧ True) ∧ D.tup [D.ints .u8 (List.drop 0 (List.take (↑(rdSt k t).at_ : Int).toNat t) ++ wrB (itsOf (D.slc 2 [D.st [D.val (.int .u8 1), D.ints .u8 (List.take ((↑(32 : Nat) : Int).toNat - 0) (List.drop 0 (mkL k ((rdSt k t).last ++ r))) ++ r)]]))), D.val (.int .i64 0)] = F) := by kernel_rfl
set_option maxRecDepth 100000 in
theorem vc37b  (t k r : List Int) (F : D)  :
    (owed c37b (fun _ => none) Tryd.f37 [.ints .u8 t, .ints .u8 k, .ints .u8 r] F) = (
 True ∧ True ∧ True ∧ True ∧ True ∧ match decide ((↑r.length : Int) > (4064 : Int)) with
 | true => True ∧ True ∧ (false = false ∧ false = false ∧ True) ∧ D.tup [D.ints .u8 [], D.val (.int .i64 2)] = F
 | false => True ∧ (True ∧ false = false ∧ (0 < 4 ∧ Sk.one = Sk.one) ∧ True) ∧ True ∧ True ∧ True ∧ True ∧ (2 = ((9100200026 : TypeId) - 9100000000) / 100000 ∧ (26 : TypeId) = ((9100200026 : TypeId) - (9100000000 : TypeId)) % (100000 : TypeId) ∧ ∃ (k_1 : List Int), ∃ (t_1 : List Int), [D.st [D.ints .u8 k, D.arr .u8 32 [(0 : Int), (0 : Int), (0 : Int), (0 : Int), (0 : Int), (0 : Int), (0 : Int), (0 : Int), (0 : Int), (0 : Int), (0 : Int), (0 : Int), (0 : Int), (0 : Int), (0 : Int), (0 : Int), (0 : Int), (0 : Int), (0 : Int), (0 : Int), (0 : Int), (0 : Int), (0 : Int), (0 : Int), (0 : Int), (0 : Int), (0 : Int), (0 : Int), (0 : Int), (0 : Int), (0 : Int), (0 : Int)], D.slc 1 [], D.val (.int .i64 0)], D.ints .u8 t] = [D.st [D.ints .u8 k_1, D.arr .u8 32 (TS.mk [(0 : Int), (0 : Int), (0 : Int), (0 : Int), (0 : Int), (0 : Int), (0 : Int), (0 : Int), (0 : Int), (0 : Int), (0 : Int), (0 : Int), (0 : Int), (0 : Int), (0 : Int), (0 : Int), (0 : Int), (0 : Int), (0 : Int), (0 : Int), (0 : Int), (0 : Int), (0 : Int), (0 : Int), (0 : Int), (0 : Int), (0 : Int), (0 : Int), (0 : Int), (0 : Int), (0 : Int), (0 : Int)] [] 0).last, D.slc 1 (List.map (D.ints .u8) (TS.mk [(0 : Int), (0 : Int), (0 : Int), (0 : Int), (0 : Int), (0 : Int), (0 : Int), (0 : Int), (0 : Int), (0 : Int), (0 : Int), (0 : Int), (0 : Int), (0 : Int), (0 : Int), (0 : Int), (0 : Int), (0 : Int), (0 : Int), (0 : Int), (0 : Int), (0 : Int), (0 : Int), (0 : Int), (0 : Int), (0 : Int), (0 : Int), (0 : Int), (0 : Int), (0 : Int), (0 : Int), (0 : Int)] [] 0).recs), D.val (Value.int IntKind.i64 (↑(TS.mk [(0 : Int), (0 : Int), (0 : Int), (0 : Int), (0 : Int), (0 : Int), (0 : Int), (0 : Int), (0 : Int), (0 : Int), (0 : Int), (0 : Int), (0 : Int), (0 : Int), (0 : Int), (0 : Int), (0 : Int), (0 : Int), (0 : Int), (0 : Int), (0 : Int), (0 : Int), (0 : Int), (0 : Int), (0 : Int), (0 : Int), (0 : Int), (0 : Int), (0 : Int), (0 : Int), (0 : Int), (0 : Int)] [] 0).at_ : Int))], D.ints .u8 t_1] ∧ isP k_1 ∧ isP t_1) ∧ True ∧ True ∧ (∃ (k_1 : List Int), ∃ (s : TS), ∃ (p : List Int), [(D.st [D.ints .u8 k, D.arr .u8 32 (rdSt k t).last, D.slc 1 (List.map (D.ints .u8) (rdSt k t).recs), D.val (.int .i64 (↑(rdSt k t).at_ : Int))]).ref, D.ints .u8 r] = [(D.st [D.ints .u8 k_1, D.arr .u8 32 s.last, D.slc 1 (List.map (D.ints .u8) s.recs), D.val (.int .i64 (↑s.at_ : Int))]).ref, D.ints .u8 p] ∧ isP k_1 ∧ (isBytes s.last ∧ s.last.length = 32) ∧ isP p) ∧ (True ∧ 32 ≠ 0) ∧ (Sk.arr 32 = Sk.arr 32 ∧ 32 ≠ 0 ∧ 32 = 32 ∧ false = false) ∧ ((0 : Int) ≤ 0 ∧ (0 : Int) ≤ (↑(32 : Nat) : Int) ∧ (↑(32 : Nat) : Int) ≤ (↑(32 : Nat) : Int) ∧ 32 = 32 ∧ 1 = 1) ∧ True ∧ (26 = 26 ∧ r.length = 0 ∧ 1 = 1) ∧ (false = false ∧ (0 < 2 ∧ Sk.one = Sk.one) ∧ false = false ∧ (1 < 2 ∧ Sk.one = Sk.one) ∧ True) ∧ (1 ≤ 4096 ∧ 2 ≤ 256 ∧ 2 ≠ 0) ∧ (∃ (L : List It), [D.slc 2 [D.st [D.val (.int .u8 1), D.ints .u8 (List.take ((↑(32 : Nat) : Int).toNat - 0) (List.drop 0 (mkL k ((rdSt k t).last ++ r))))]]] = [D.slc 2 (List.map itD L)] ∧ okIts L) ∧ True ∧ (0 < 2 ∧ false = false) ∧
  (1 < 2 ∧ false = false) ∧ True ∧ True ∧ True ∧ True ∧ (Sk.st [Sk.one, Sk.arr 32, Sk.one, Sk.one] = Sk.st [Sk.one, Sk.arr 32, Sk.one, Sk.one] ∧ 3 < 4) ∧ (1 ≠ 0 ∧ 1 = 1 ∧ false = false) ∧ True ∧ True ∧ True ∧ True ∧ match decide (IntKind.i64.wrap ((↑(rdSt k t).at_ : Int) + (↑(wrB (itsOf (D.slc 2 [D.st [D.val (.int .u8 1), D.ints .u8 (List.take ((↑(32 : Nat) : Int).toNat - 0) (List.drop 0 (mkL k ((rdSt k t).last ++ r))))]]))).length : Int)) > (65536 : Int)) with
  | true => True ∧ True ∧ (false = false ∧ false = false ∧ True) ∧ D.tup [D.ints .u8 [], D.val (.int .i64 2)] = F
  | false => True ∧ True ∧ True ∧ (Sk.st [Sk.one, Sk.arr 32, Sk.one, Sk.one] = Sk.st [Sk.one, Sk.arr 32, Sk.one, Sk.one] ∧ 3 < 4) ∧ (1 ≠ 0 ∧ 1 = 1 ∧ false = false) ∧ ((0 : Int) ≤ 0 ∧ (0 : Int) ≤ (↑(rdSt k t).at_ : Int) ∧ (↑(rdSt k t).at_ : Int) ≤ (↑t.length : Int) ∧ 1 = 1) ∧ (∃ (l : List Int), [D.ints .u8 (List.drop 0 (List.take (↑(rdSt k t).at_ : Int).toNat t))] = [D.ints .u8 l] ∧ isP l) ∧ True ∧ ((8500005 : TypeId) - (8500000 : TypeId) = (5 : TypeId) ∧ 26 = 26 ∧ true = true ∧ (List.drop 0 (List.take (↑(rdSt k t).at_ : Int).toNat t) ++ wrB (itsOf (D.slc 2 [D.st [D.val (.int .u8 1), D.ints .u8 (List.take ((↑(32 : Nat) : Int).toNat - 0) (List.drop 0 (mkL k ((rdSt k t).last ++ r))))]]))).length ≤ 140737488355328 ∧ (List.drop 0 (List.take (↑(rdSt k t).at_ : Int).toNat t) ++ wrB (itsOf (D.slc 2 [D.st [D.val (.int .u8 1), D.ints .u8 (List.take ((↑(32 : Nat) : Int).toNat - 0) (List.drop 0 (mkL k ((rdSt k t).last ++ r))))]]))).length * 1 ≤ 140737488355328 ∧ 1 ≠ 0 ∧ 1 = 1) ∧ True ∧ True ∧ (false = false ∧ false = false ∧ True) ∧ D.tup [D.ints .u8 (List.drop 0 (List.take (↑(rdSt k t).at_ : Int).toNat t) ++ wrB (itsOf (D.slc 2 [D.st [D.val (.int .u8 1), D.ints .u8 (List.take ((↑(32 : Nat) : Int).toNat - 0) (List.drop 0 (mkL k ((rdSt k t).last ++ r))))]]))), D.val (.int .i64 0)] = F) := by kernel_rfl
end Go.Proofs.YtkicjckhkefnpaaDoor
namespace Go.Proofs.YtkicjckhkefnpaaDoor
open Go Go.Vg
theorem go_ok {k t : List Int} (ht : okb t) : ∀ (f : Nat) (s : TS), (isBytes s.last ∧ s.last.length = 32) → s.at_ ≤ t.length → (isBytes (goT k t f s).1.last ∧ (goT k t f s).1.last.length = 32) ∧ (goT k t f s).1.at_ ≤ t.length
 | 0, s, h1, h2 => ⟨h1, h2⟩
 | f + 1, s, h1, h2 => by
  rw [goT]
  by_cases h3 : s.at_ ≥ t.length
  ·rw [if_pos h3]
   exact ⟨h1, h2⟩
  ·rw [if_neg h3]
   by_cases h4 : erT k t s ≠ 0
   ·rw [if_pos h4]
    exact ⟨h1, h2⟩
   ·rw [if_neg h4]
    exact go_ok ht f _ ⟨mkL_bytes _ _, mkL_len _ _⟩ (nx_at ht (Classical.byContradiction fun e => h4 e) h2).2
theorem rd_ok {k t : List Int} (ht : okb t) : (isBytes (rdSt k t).last ∧ (rdSt k t).last.length = 32) ∧ (rdSt k t).at_ ≤ t.length :=
 go_ok ht _ _ ⟨bytes_rep 32 0 (by decide), rfl⟩ (Nat.zero_le _)
theorem wr1 {m r : List Int} (hm : isBytes m) (hm2 : m.length = 32) (hr : isBytes r) (hl : r.length ≤ 4064) : okIts [((1 : Int), m ++ r)] ∧ wrB [((1 : Int), m ++ r)] = wrIts [((1 : Int), m ++ r)] := by
 have hlen : (m ++ r).length ≤ 4096 := by rw [List.length_append]; omega
 constructor
 ·refine ⟨by show (1 : Nat) ≤ maxLen; decide, fun x hx => ?_⟩
  rw [List.mem_singleton] at hx
  subst hx
  exact ⟨by show (0 : Int) ≤ 1 ∧ (1 : Int) < 256; decide, fun z hz => (List.mem_append.1 hz).elim (hm z) (hr z), by unfold maxLen; show (m ++ r).length ≤ _; omega⟩
 ·unfold wrB
  have h1 : Nat.blt 200 [((1 : Int), m ++ r)].length = false := rfl
  have h2 : [((1 : Int), m ++ r)].any bigIt = false := by
   simp only [List.any_cons, List.any_nil, Bool.or_false, bigIt]
   cases hb : Nat.blt 4096 (m ++ r).length
   ·rfl
   ·rw [Nat.blt_eq] at hb
    omega
  rw [h1, h2]
  rfl
theorem wr1_len {m r : List Int} (hm2 : m.length = 32) (hl : r.length ≤ 4064) : (wrIts [((1 : Int), m ++ r)]).length ≤ 4100 := by
 have := wr_len [((1 : Int), m ++ r)] (fun e he => by rw [List.mem_singleton] at he; subst he; show (m ++ r).length ≤ 4096; rw [List.length_append]; omega)
 simpa using this
theorem itsOf_one (x : Int) (b : List Int) : itsOf (.slc 2 [.st [.val (.int .u8 x), .ints .u8 b]]) = [(x, b)] := rfl
set_option maxRecDepth 100000 in
theorem m35 : Meets Tryd.prog 35 sp35 := by
 refine meets_of_owed (C := c35) ⟨tab_ok, lkS_ok ⟨m86, trivial⟩⟩ (by kernel_rfl) (by kernel_rfl : Tryd.prog.funcs[35]? = some Tryd.f35) (by kernel_rfl) (by kernel_rfl) (by kernel_rfl) _ ?_
 rintro _ ⟨t, k, rfl, ht, hk⟩
 refine ⟨fun h => (by cases h), fun _ => none, ?_⟩
 show owed c35 (fun _ => none) Tryd.f35 [.ints .u8 t, .ints .u8 k] (.tup [.slc 1 (rcL (rdSt k t)), i64 ((rdSt k t).at_ : Int), i64 (rdEr k t)])
 rw [vc35]
 simp (decide := true) only [eq_self, true_and, and_true, ne_eq, not_false_eq_true]
 exact ⟨⟨k, t, rfl, hk, ht⟩, rfl⟩
theorem apE_of {t k r : List Int} (h : r.length > 4064) : apE t k r = 2 ∧ apL t k r = [] := by
 have e : apE t k r = 2 := by unfold apE; rw [if_pos h]
 refine ⟨e, ?_⟩
 unfold apL
 rw [e, if_neg (by decide)]
theorem ap_big {t k r : List Int} (h : ¬ r.length > 4064) (h2 : (rdSt k t).at_ + (apIt t k r).length > 65536) : apE t k r = 2 ∧ apL t k r = [] := by
 have e : apE t k r = 2 := by unfold apE; rw [if_neg h, if_pos h2]
 refine ⟨e, ?_⟩
 unfold apL
 rw [e, if_neg (by decide)]
theorem ap_fine {t k r : List Int} (h : ¬ r.length > 4064) (h2 : ¬ (rdSt k t).at_ + (apIt t k r).length > 65536) : apE t k r = 0 ∧ apL t k r = t.take (rdSt k t).at_ ++ apIt t k r := by
 have e : apE t k r = 0 := by unfold apE; rw [if_neg h, if_neg h2]
 refine ⟨e, ?_⟩
 unfold apL
 rw [e, if_pos rfl]
namespace A37
set_option maxRecDepth 100000 in
theorem m37 : Meets Tryd.prog 37 sp37a := by
 refine meets_of_owed (C := c37a) ⟨tab_ok, lkS_ok ⟨m86, m89, m90, m78r, trivial⟩⟩ (by kernel_rfl) (by kernel_rfl : Tryd.prog.funcs[37]? = some Tryd.f37) (by kernel_rfl) (by kernel_rfl) (by kernel_rfl) _ ?_
 rintro _ ⟨t, k, r, rfl, ht, hk, hr, hr0⟩
 refine ⟨fun h => (by cases h), fun _ => none, ?_⟩
 show owed c37a (fun _ => none) Tryd.f37 [.ints .u8 t, .ints .u8 k, .ints .u8 r] (.tup [.ints .u8 (apL t k r), i64 (apE t k r)])
 rw [vc37a]
 have htl := ht.2
 have hro := rd_ok (k := k) (t := t) ht.1
 have tm : ∀ p, List.take 32 (mkL k p) = mkL k p := fun p => t32 _ (mkL_len k p)
 simp (decide := true) only [tm, itsOf_one, Int.toNat_natCast, show Int.toNat 32 = 32 from rfl, Nat.sub_zero, List.drop_zero, eq_self, true_and, and_true, ne_eq, not_false_eq_true]
 split
 ·rename_i h
  have h : r.length > 4064 := by have := of_decide_eq_true h; omega
  rw [(apE_of h).1, (apE_of h).2]
 rename_i h
 have h : ¬ r.length > 4064 := by have := of_decide_eq_false h; omega
 obtain ⟨w1, w2⟩ := wr1 (mkL_bytes k ((rdSt k t).last ++ r)) (mkL_len _ _) hr.1 (by omega)
 have w3 := wr1_len (mkL_len k ((rdSt k t).last ++ r)) (show r.length ≤ 4064 by omega)
 have hap : wrIts [((1 : Int), mkL k ((rdSt k t).last ++ r) ++ r)] = apIt t k r := rfl
 rw [w2, hap]
 rw [hap] at w3
 have w4 : IntKind.i64.wrap (((rdSt k t).at_ : Int) + ((apIt t k r).length : Int)) = (((rdSt k t).at_ + (apIt t k r).length : Nat) : Int) := by rw [wi (by omega) (by omega)]; omega
 rw [w4]
 refine ⟨⟨k, t, rfl, hk, ht⟩, ⟨k, rdSt k t, r, rfl, hk, hro.1, hr⟩, ⟨hr0, by omega, by omega⟩, ⟨_, rfl, w1⟩, ?_⟩
 split
 ·rename_i h2
  have h2 : (rdSt k t).at_ + (apIt t k r).length > 65536 := by have := of_decide_eq_true h2; omega
  rw [(ap_big h h2).1, (ap_big h h2).2]
 ·rename_i h2
  have h2 : ¬ (rdSt k t).at_ + (apIt t k r).length > 65536 := by have := of_decide_eq_false h2; omega
  rw [(ap_fine h h2).1, (ap_fine h h2).2]
  have hto := hro.2
  refine ⟨⟨by omega, by omega⟩, ⟨_, rfl, fun z hz => ht.1 z (List.mem_of_mem_take hz), by rw [List.length_take]; omega⟩, ⟨by rw [List.length_append, List.length_take]; omega, by rw [List.length_append, List.length_take]; omega⟩, rfl⟩
end A37
namespace B37
set_option maxRecDepth 100000 in
theorem m37 : Meets Tryd.prog 37 sp37b := by
 refine meets_of_owed (C := c37b) ⟨tab_ok, lkS_ok ⟨m86, m89, m90, m78r, trivial⟩⟩ (by kernel_rfl) (by kernel_rfl : Tryd.prog.funcs[37]? = some Tryd.f37) (by kernel_rfl) (by kernel_rfl) (by kernel_rfl) _ ?_
 rintro _ ⟨t, k, r, rfl, ht, hk, hr, hr0⟩
 refine ⟨fun h => (by cases h), fun _ => none, ?_⟩
 show owed c37b (fun _ => none) Tryd.f37 [.ints .u8 t, .ints .u8 k, .ints .u8 r] (.tup [.ints .u8 (apL t k r), i64 (apE t k r)])
 rw [vc37b]
 have htl := ht.2
 have hro := rd_ok (k := k) (t := t) ht.1
 have tm : ∀ p, List.take 32 (mkL k p) = mkL k p := fun p => t32 _ (mkL_len k p)
 simp (decide := true) only [tm, itsOf_one, Int.toNat_natCast, show Int.toNat 32 = 32 from rfl, Nat.sub_zero, List.drop_zero, eq_self, true_and, and_true, ne_eq, not_false_eq_true]
 split
 ·rename_i h
  have h : r.length > 4064 := by have := of_decide_eq_true h; omega
  rw [(apE_of h).1, (apE_of h).2]
 rename_i h
 have h : ¬ r.length > 4064 := by have := of_decide_eq_false h; omega
 obtain ⟨w1, w2⟩ := wr1 (mkL_bytes k ((rdSt k t).last ++ r)) (mkL_len _ _) hr.1 (by omega)
 have w3 := wr1_len (mkL_len k ((rdSt k t).last ++ r)) (show r.length ≤ 4064 by omega)
 have hap : wrIts [((1 : Int), mkL k ((rdSt k t).last ++ r) ++ r)] = apIt t k r := rfl
 have hrn : mkL k ((rdSt k t).last ++ r) = mkL k ((rdSt k t).last ++ r) ++ r := by rw [List.eq_nil_of_length_eq_zero hr0, List.append_nil, List.append_nil]
 rw [hap] at w2 w3
 rw [← hrn] at w1 w2
 rw [w2]
 have w4 : IntKind.i64.wrap (((rdSt k t).at_ : Int) + ((apIt t k r).length : Int)) = (((rdSt k t).at_ + (apIt t k r).length : Nat) : Int) := by rw [wi (by omega) (by omega)]; omega
 rw [w4]
 refine ⟨⟨k, t, rfl, hk, ht⟩, ⟨k, rdSt k t, r, rfl, hk, hro.1, hr⟩, hr0, ⟨_, rfl, w1⟩, ?_⟩
 split
 ·rename_i h2
  have h2 : (rdSt k t).at_ + (apIt t k r).length > 65536 := by have := of_decide_eq_true h2; omega
  rw [(ap_big h h2).1, (ap_big h h2).2]
 ·rename_i h2
  have h2 : ¬ (rdSt k t).at_ + (apIt t k r).length > 65536 := by have := of_decide_eq_false h2; omega
  rw [(ap_fine h h2).1, (ap_fine h h2).2]
  have hto := hro.2
  refine ⟨⟨by omega, by omega⟩, ⟨_, rfl, fun z hz => ht.1 z (List.mem_of_mem_take hz), by rw [List.length_take]; omega⟩, ⟨by rw [List.length_append, List.length_take]; omega, by rw [List.length_append, List.length_take]; omega⟩, rfl⟩
end B37
theorem meets_or {P : Program} {f : FuncId} {s : Go.Vg.Spec} (p q : List D → Prop) (h1 : Meets P f ⟨p, s.f, s.flat, s.ps⟩) (h2 : Meets P f ⟨q, s.f, s.flat, s.ps⟩) (h : ∀ ds, s.pre ds → p ds ∨ q ds) : Meets P f s :=
 fun ds hp => (h ds hp).elim (h1 ds) (h2 ds)
theorem m37 : Meets Tryd.prog 37 sp37 := by
 refine meets_or sp37a.pre sp37b.pre A37.m37 B37.m37 ?_
 rintro _ ⟨t, k, r, rfl, ht, hk, hr⟩
 by_cases h : 0 < r.length
 ·exact .inl ⟨t, k, r, rfl, ht, hk, hr, h⟩
 ·exact .inr ⟨t, k, r, rfl, ht, hk, hr, by omega⟩
end Go.Proofs.YtkicjckhkefnpaaDoor
namespace Go.Proofs.YtkicjckhkefnpaaDoor
open Go Go.Vg
def itO (k l r : List Int) : List Int := wrIts [(1, mkL k (l ++ r) ++ r)]
def stpS (k : List Int) (a : List Int × List Int) (r : List Int) : List Int × List Int := (a.1 ++ itO k a.2 r, mkL k (a.2 ++ r))
def tpS (k : List Int) (recs : List (List Int)) : List Int × List Int := recs.foldl (stpS k) ([], List.replicate 32 0)
def tpA (k : List Int) (recs : List (List Int)) : List Int := (tpS k recs).1
def tpB (k : List Int) (recs : List (List Int)) : List Int := (tpS k recs).2
def rcSt (s : TS) : List D := s.recs.map .str
def okr (r : List Int) : Prop := isBytes r ∧ r.length ≤ 4064
def lgE (t k r : List Int) : Int := if r.length > 4064 then 2 else if (tpA k ((rdSt k t).recs ++ [r])).length > 65536 then 2 else 0
def lgL (t k r : List Int) : List Int := if lgE t k r = 0 then tpA k ((rdSt k t).recs ++ [r]) else []
def unS (d : D) : List Int := strOf d
def sp88 : Go.Vg.Spec := ⟨fun ds => ∃ k l r, ds = [.str k, .str l, .str r] ∧ isP k ∧ (isBytes l ∧ l.length = 32) ∧ okr r, fun ds => .tup [.str (itO (strOf (ds.headD default)) (strOf (ds.getD 1 default)) (strOf (ds.getD 2 default))), .str (mkL (strOf (ds.headD default)) (strOf (ds.getD 1 default) ++ strOf (ds.getD 2 default)))], true, [9, 9, 9]⟩
def sp36 : Go.Vg.Spec := ⟨fun ds => ∃ t k, ds = [.str t, .str k] ∧ isP t ∧ isP k, fun ds => .tup [.slc 1 (rcSt (rdSt (strOf (ds.getD 1 default)) (strOf (ds.headD default)))), i64 ((rdSt (strOf (ds.getD 1 default)) (strOf (ds.headD default))).at_ : Int), i64 (rdEr (strOf (ds.getD 1 default)) (strOf (ds.headD default)))], false, [9, 9, 8500009]⟩
def sp91 : Go.Vg.Spec := ⟨fun ds => ∃ (k : List Int) (recs : List (List Int)), ds = [.str k, .slc 1 (recs.map D.str)] ∧ isP k ∧ (∀ r ∈ recs, okr r) ∧ recs.length ≤ 140737488351233, fun ds => .str (tpA (strOf (ds.headD default)) ((xsOf (ds.getD 1 default)).map unS)), true, [9, 61]⟩
def sp38 : Go.Vg.Spec := ⟨fun ds => ∃ t k r, ds = [.str t, .str k, .str r] ∧ isP t ∧ isP k ∧ isP r, fun ds => .tup [.str (lgL (strOf (ds.headD default)) (strOf (ds.getD 1 default)) (strOf (ds.getD 2 default))), i64 (lgE (strOf (ds.headD default)) (strOf (ds.getD 1 default)) (strOf (ds.getD 2 default)))], true, [9, 9, 9]⟩
def c88 : Ctx := ⟨tab, lkS [(79, sp79), (120, sp120)], [], []⟩
def c36 : Ctx := ⟨tab, lkS [(87, sp87), (88, sp88)], [7], []⟩
def c91 : Ctx := ⟨tab, lkS [(88, sp88)], [], []⟩
def c38 : Ctx := ⟨tab, lkS [(36, sp36), (91, sp91)], [], []⟩
def rowY (s : St) (b : Nat) : List D := match Go.Vg.look s.M b with
 | some (.row _ (.slc _ xs)) => xs
 | _ => []
def inv36 (t k : List Int) : Nat → Option Inv
 | 4 => some ⟨TS, fun s => [(7, .row 7), (8, .d (.str s.last)), (9, .d (i64 (s.at_ : Int)))], fun s => [(7, .row 9 (.slc 1 (s.recs.map D.str)))], fun s => ⟨strOf (slotD s 8), (rowY s 7).map unS, (slotN s 9).toNat⟩,
   fun _ s => (isBytes s.last ∧ s.last.length = 32) ∧ (s.at_ ≤ t.length ∧ s.recs.length * 33 ≤ s.at_) ∧ goT k t (t.length - s.at_ + 1) s = goT k t (t.length + 1) s0T, fun s => t.length - s.at_⟩
 | _ => none
def inv91 (k : List Int) (recs : List (List Int)) : Nat → Option Inv
 | 3 => some ⟨Nat, fun i => [(14, .d (i64 i)), (5, .d (.str (tpA k (recs.take i)))), (6, .d (.str (tpB k (recs.take i))))], fun _ => [], fun s => (slotN s 14).toNat, fun _ i => i ≤ recs.length, fun i => recs.length - i⟩
 | _ => none
set_option maxRecDepth 100000 in
theorem vc88  (k l r : List Int) (F : D)  :
    (owed c88 (fun _ => none) Tryd.f88 [.str k, .str l, .str r] F) = (
 True ∧ True ∧ True ∧ True ∧ True ∧ (↑(l.length + r.length) : Int) ≤ (9223372036854775807 : Int) ∧ (∃ (k_1 : List Int), ∃ (p : List Int), [D.str k, D.str (l ++ r)] = [D.str k_1, D.str p] ∧ isB k_1 ∧ isBytes p ∧ p.length ≤ 500000000000000) ∧ (True ∧ 32 ≠ 0) ∧ (Sk.arr 32 = Sk.arr 32 ∧ 32 ≠ 0 ∧ 32 = 32 ∧ false = false) ∧ ((0 : Int) ≤ 0 ∧ (0 : Int) ≤ (↑(32 : Nat) : Int) ∧ (↑(32 : Nat) : Int) ≤ (↑(32 : Nat) : Int) ∧ 32 = 32 ∧ 1 = 1) ∧ isBytes (List.take ((↑(32 : Nat) : Int).toNat - 0) (List.drop 0 (mkL k (l ++ r)))) ∧ True ∧ (↑((List.take ((↑(32 : Nat) : Int).toNat - 0) (List.drop 0 (mkL k (l ++ r)))).length + r.length) : Int) ≤ (9223372036854775807 : Int) ∧ True ∧ (false = false ∧ (0 < 2 ∧ Sk.one = Sk.one) ∧ false = false ∧ (1 < 2 ∧ Sk.one = Sk.one) ∧ True) ∧ (1 ≤ 4096 ∧ 2 ≤ 256 ∧ 2 ≠ 0) ∧ (∃ (L : List It), [D.slc 2 [D.st [D.val (.int .u8 1), D.ints .u8 (List.take ((↑(32 : Nat) : Int).toNat - 0) (List.drop 0 (mkL k (l ++ r))) ++ r)]]] = [D.slc 2 (List.map itD L)] ∧ okIts L ∧ items L = (0 : Int)) ∧ ((0 : Int) ≤ 0 ∧ (0 : Int) ≤ (↑(32 : Nat) : Int) ∧ (↑(32 : Nat) : Int) ≤ (↑(32 : Nat) : Int) ∧ 32 = 32 ∧ 1 = 1) ∧ isBytes (List.take ((↑(32 : Nat) : Int).toNat - 0) (List.drop 0 (mkL k (l ++ r)))) ∧ True ∧ True ∧ (false = false ∧ false = false ∧ True) ∧ D.tup [D.str (wrIts (itsOf (D.slc 2 [D.st [D.val (.int .u8 1), D.ints .u8 (List.take ((↑(32 : Nat) : Int).toNat - 0) (List.drop 0 (mkL k (l ++ r))) ++ r)]]))), D.str (List.take ((↑(32 : Nat) : Int).toNat - 0) (List.drop 0 (mkL k (l ++ r))))] = F) := by kernel_rfl
set_option maxRecDepth 100000 in
theorem vc36  (t k : List Int) (F : D)  :
    (owedRw c36 (inv36 t k) Tryd.f36 9 [.str t, .str k] F) = (
 True ∧ True ∧ True ∧ 1 ≠ 0 ∧ ((0 : Int) ≤ 32 ∧ (32 : Int) = 32 ∧ (32 : Int) ≤ 281474976710656 ∧ (↑(1 : Nat) : Int) * (32 : Int) ≤ 281474976710656 ∧ 1 = 1) ∧ isBytes [(0 : Int), (0 : Int), (0 : Int), (0 : Int), (0 : Int), (0 : Int), (0 : Int), (0 : Int), (0 : Int), (0 : Int), (0 : Int), (0 : Int), (0 : Int), (0 : Int), (0 : Int), (0 : Int), (0 : Int), (0 : Int), (0 : Int), (0 : Int), (0 : Int), (0 : Int), (0 : Int), (0 : Int), (0 : Int), (0 : Int), (0 : Int), (0 : Int), (0 : Int), (0 : Int), (0 : Int), (0 : Int)] ∧ True ∧ True ∧ (((sm (AV.row 7) ∧ sm (AV.d (D.str [(0 : Int), (0 : Int), (0 : Int), (0 : Int), (0 : Int), (0 : Int), (0 : Int), (0 : Int), (0 : Int), (0 : Int), (0 : Int), (0 : Int), (0 : Int), (0 : Int), (0 : Int), (0 : Int), (0 : Int), (0 : Int), (0 : Int), (0 : Int), (0 : Int), (0 : Int), (0 : Int), (0 : Int), (0 : Int), (0 : Int), (0 : Int), (0 : Int), (0 : Int), (0 : Int), (0 : Int), (0 : Int)])) ∧ AV.d (D.val (.int .i64 0)) = AV.d (D.val (.int .i64 (↑(0 : Nat) : Int))) ∧ True) ∧ (sm (some (Blk.row (9 : TypeId) (D.slc 1 []))) ∧ sm (some (Blk.fix (D.arr .u8 32 [(0 : Int), (0 : Int), (0 : Int), (0 : Int), (0 : Int), (0 : Int), (0 : Int), (0 : Int), (0 : Int), (0 : Int), (0 : Int), (0 : Int), (0 : Int), (0 : Int), (0 : Int), (0 : Int), (0 : Int), (0 : Int), (0 : Int), (0 : Int), (0 : Int), (0 : Int), (0 : Int), (0 : Int), (0 : Int), (0 : Int), (0 : Int), (0 : Int), (0 : Int), (0 : Int), (0 : Int), (0 : Int)]))) ∧ True) ∧ true = true) ∧ (isBytes [(0 : Int), (0 : Int), (0 : Int), (0 : Int), (0 : Int), (0 : Int), (0 : Int), (0 : Int), (0 : Int), (0 : Int), (0 : Int), (0 : Int), (0 : Int), (0 : Int), (0 : Int), (0 : Int), (0 : Int), (0 : Int), (0 : Int), (0 : Int), (0 : Int), (0 : Int), (0 : Int), (0 : Int), (0 : Int), (0 : Int), (0 : Int), (0 : Int), (0 : Int), (0 : Int), (0 : Int), (0 : Int)] ∧ 32 = 32) ∧ (0 ≤ t.length ∧ 0 ≤ 0) ∧ goT k t (t.length - 0 + 1) (TS.mk [(0 : Int), (0 : Int), (0 : Int), (0 : Int), (0 : Int), (0 : Int), (0 : Int), (0 : Int), (0 : Int), (0 : Int), (0 : Int), (0 : Int), (0 : Int), (0 : Int), (0 : Int), (0 : Int), (0 : Int), (0 : Int), (0 : Int), (0 : Int), (0 : Int), (0 : Int), (0 : Int), (0 : Int), (0 : Int), (0 : Int), (0 : Int), (0 : Int), (0 : Int), (0 : Int), (0 : Int), (0 : Int)] [] 0) = goT k t (t.length + 1) (TS.mk [(0 : Int), (0 : Int), (0 : Int), (0 : Int), (0 : Int), (0 : Int), (0 : Int), (0 : Int), (0 : Int), (0 : Int), (0 : Int), (0 : Int), (0 : Int), (0 : Int), (0 : Int), (0 : Int), (0 : Int), (0 : Int), (0 : Int), (0 : Int), (0 : Int), (0 : Int), (0 : Int), (0 : Int), (0 : Int), (0 : Int), (0 : Int), (0 : Int), (0 : Int), (0 : Int), (0 : Int), (0 : Int)] [] 0)) ∧ ∀ (x : TS), (isBytes x.last ∧ x.last.length = 32) ∧ (x.at_ ≤ t.length ∧ x.recs.length * 33 ≤ x.at_) ∧ goT k t (t.length - x.at_ + 1) x = goT k t (t.length + 1) (TS.mk [(0 : Int), (0 : Int), (0 : Int), (0 : Int), (0 : Int), (0 : Int), (0 : Int), (0 : Int), (0 : Int), (0 : Int), (0 : Int), (0 : Int), (0 : Int), (0 : Int), (0 : Int), (0 : Int), (0 : Int), (0 : Int), (0 : Int), (0 : Int), (0 : Int), (0 : Int), (0 : Int), (0 : Int), (0 : Int), (0 : Int), (0 : Int), (0 : Int), (0 : Int), (0 : Int), (0 : Int), (0 : Int)] []
 0) → true = true ∧ True ∧ True ∧ True ∧ True ∧ match decide ((↑x.at_ : Int) < (↑t.length : Int)) with
 | true => True ∧ True ∧ ((0 : Int) ≤ (↑x.at_ : Int) ∧ (↑x.at_ : Int) ≤ (↑t.length : Int) ∧ (↑t.length : Int) ≤ (↑t.length : Int)) ∧ (∃ (l : List Int), [D.str (List.drop (↑x.at_ : Int).toNat (List.take (↑t.length : Int).toNat t))] = [D.str l] ∧ okb l ∧ lenB l) ∧ True ∧ (0 < 3 ∧ false = false) ∧ (1 < 3 ∧ false = false) ∧ (2 < 3 ∧ false = false) ∧ (True ∧ 2 ≠ 0) ∧ (Sk.st [Sk.one, Sk.one] = Sk.st [Sk.one, Sk.one] ∧ 2 ≠ 0 ∧ 2 = 2 ∧ false = false) ∧ True ∧ True ∧ True ∧ True ∧ match (↑(itE (List.drop (↑x.at_ : Int).toNat (List.take (↑t.length : Int).toNat t))) : Int) != (0 : Int) with
  | true => True ∧ True ∧ True ∧ True ∧ True ∧ True ∧ (false = false ∧ false = false ∧ True) ∧ (9 : TypeId) = (9 : TypeId) ∧ True ∧ D.tup [D.slc 1 (List.map D.str x.recs), D.val (.int .i64 (↑x.at_ : Int)), D.val (.int .i64 (↑(itE (List.drop (↑x.at_ : Int).toNat (List.take (↑t.length : Int).toNat t))) : Int))] = F
  | false => (Sk.st [Sk.one, Sk.one] = Sk.st [Sk.one, Sk.one] ∧ 0 < 2) ∧ (1 ≠ 0 ∧ 1 = 1 ∧ false = false) ∧ True ∧ True ∧ match (↑(itT (List.drop (↑x.at_ : Int).toNat (List.take (↑t.length : Int).toNat t))) : Int) != (1 : Int) with
   | true => True ∧ True ∧ True ∧ True ∧ True ∧ True ∧ (false = false ∧ false = false ∧ True) ∧ (9 : TypeId) = (9 : TypeId) ∧ True ∧ D.tup [D.slc 1 (List.map D.str x.recs), D.val (.int .i64 (↑x.at_ : Int)), D.val (.int .i64 4)] = F
   | false => (Sk.st [Sk.one, Sk.one] = Sk.st [Sk.one, Sk.one] ∧ 1 < 2) ∧ (1 ≠ 0 ∧ 1 = 1 ∧ false = false) ∧ True ∧ True ∧ True ∧ match decide ((↑(itB (List.drop (↑x.at_ : Int).toNat (List.take (↑t.length : Int).toNat t))).length : Int) < (32 : Int)) with
    | true => True ∧ True ∧ True ∧ True ∧ True ∧ (false = false ∧ false = false ∧ True) ∧ (9 : TypeId) = (9 : TypeId) ∧ True ∧ D.tup [D.slc 1 (List.map D.str x.recs), D.val (.int .i64 (↑x.at_ : Int)), D.val (.int .i64 4)] = F
    | false => (Sk.st [Sk.one, Sk.one] = Sk.st [Sk.one, Sk.one] ∧ 1 < 2) ∧ (1 ≠ 0 ∧ 1 = 1 ∧ false = false) ∧ ((0 : Int) ≤ 32 ∧ (32 : Int) ≤ (↑(itB (List.drop (↑x.at_ : Int).toNat (List.take (↑t.length : Int).toNat t))).length : Int) ∧ (↑(itB (List.drop (↑x.at_ : Int).toNat (List.take (↑t.length : Int).toNat t))).length : Int) ≤ (↑(itB (List.drop (↑x.at_ : Int).toNat (List.take (↑t.length : Int).toNat t))).length : Int) ∧ 1 = 1) ∧ isBytes (List.drop 32 (List.take (↑(itB (List.drop (↑x.at_ : Int).toNat (List.take (↑t.length : Int).toNat t))).length : Int).toNat (itB (List.drop (↑x.at_ : Int).toNat (List.take (↑t.length : Int).toNat t))))) ∧ True ∧ True ∧ True ∧ True ∧ True ∧ (∃ (k_1 : List Int), ∃ (l : List Int), ∃ (r : List Int), [D.str k, D.str x.last, D.str (List.drop 32 (List.take (↑(itB (List.drop (↑x.at_ : Int).toNat (List.take (↑t.length : Int).toNat t))).length : Int).toNat (itB (List.drop (↑x.at_ : Int).toNat (List.take (↑t.length : Int).toNat t)))))] = [D.str k_1, D.str l, D.str r] ∧ isP k_1 ∧ (isBytes l ∧ l.length = 32) ∧ okr r) ∧ True ∧ (0 < 2 ∧ false = false) ∧ (1 < 2 ∧ false = false) ∧ True ∧ True ∧ True ∧ True ∧ True ∧ True ∧ True ∧ True ∧ ((0 : Int) ≤ (↑x.at_ : Int) ∧ (↑x.at_ : Int) ≤ IntKind.i64.wrap ((↑x.at_ : Int) + (↑(itN (List.drop (↑x.at_ : Int).toNat (List.take (↑t.length : Int).toNat t))) : Int)) ∧ IntKind.i64.wrap ((↑x.at_ : Int) + (↑(itN (List.drop (↑x.at_ : Int).toNat (List.take (↑t.length : Int).toNat t))) : Int)) ≤ (↑t.length : Int)) ∧ True ∧ match !eqB (itO k x.last (List.drop 32 (List.take (↑(itB (List.drop (↑x.at_ : Int).toNat (List.take (↑t.length : Int).toNat t))).length : Int).toNat (itB (List.drop (↑x.at_ : Int).toNat (List.take (↑t.length : Int).toNat t)))))) (List.drop (↑x.at_ : Int).toNat (List.take (IntKind.i64.wrap ((↑x.at_ : Int) + (↑(itN (List.drop (↑x.at_ : Int).toNat (List.take (↑t.length : Int).toNat t))) : Int))).toNat t)) with
     | true => True ∧ True ∧ True ∧ True ∧ True ∧ (false = false ∧ false = false ∧ True) ∧ (9 : TypeId) = (9 : TypeId) ∧ True ∧ D.tup [D.slc 1 (List.map D.str x.recs), D.val (.int .i64 (↑x.at_ : Int)), D.val (.int .i64 5)] = F
     | false => True ∧ True ∧ (1 ≤ 4096 ∧ 1 ≤ 256 ∧ 1 ≠ 0) ∧ ((9 : TypeId) = (9 : TypeId) ∧ 61 = 61 ∧ true = true ∧ (List.map D.str x.recs ++ [D.str (List.drop 32 (List.take (↑(itB (List.drop (↑x.at_ : Int).toNat (List.take (↑t.length : Int).toNat t))).length : Int).toNat (itB (List.drop (↑x.at_ : Int).toNat (List.take (↑t.length : Int).toNat t)))))]).length ≤ 140737488355328 ∧ (List.map D.str x.recs ++ [D.str (List.drop 32 (List.take (↑(itB (List.drop (↑x.at_ : Int).toNat (List.take (↑t.length : Int).toNat t))).length : Int).toNat (itB (List.drop (↑x.at_ : Int).toNat (List.take (↑t.length : Int).toNat t)))))]).length * 16 ≤ 140737488355328 ∧ 1 ≠ 0 ∧ 1 = 1) ∧ True ∧ True ∧ True ∧ True ∧ True ∧ ((sm (AV.row 7) ∧ sm (AV.d (D.str (mkL k (x.last ++ List.drop 32 (List.take (↑(itB (List.drop (↑x.at_ : Int).toNat (List.take (↑t.length : Int).toNat t))).length : Int).toNat (itB (List.drop (↑x.at_ : Int).toNat (List.take (↑t.length : Int).toNat t)))))))) ∧ AV.d (D.val (.int .i64 (IntKind.i64.wrap ((↑x.at_ : Int) + (↑(itN (List.drop (↑x.at_ : Int).toNat (List.take (↑t.length : Int).toNat t))) : Int))))) = AV.d (D.val (.int .i64 (↑(IntKind.i64.wrap ((↑x.at_ : Int) + (↑(itN (List.drop (↑x.at_ : Int).toNat (List.take (↑t.length : Int).toNat t))) : Int))).toNat : Int))) ∧ True) ∧ (some (Blk.row (9 : TypeId) (D.slc 1 (List.map D.str x.recs ++ [D.str (List.drop 32 (List.take (↑(itB (List.drop (↑x.at_ : Int).toNat (List.take (↑t.length : Int).toNat t))).length : Int).toNat (itB (List.drop (↑x.at_ : Int).toNat (List.take (↑t.length : Int).toNat t)))))]))) = some (Blk.row (9 : TypeId) (D.slc 1 (List.map D.str (List.map unS (List.map D.str x.recs ++ [D.str (List.drop 32 (List.take (↑(itB (List.drop (↑x.at_ : Int).toNat (List.take (↑t.length : Int).toNat t))).length : Int).toNat (itB (List.drop (↑x.at_ : Int).toNat (List.take (↑t.length : Int).toNat t)))))]))))) ∧ sm (some (Blk.fix (D.arr .u8 32 [(0 : Int), (0 : Int), (0 : Int), (0 : Int), (0 : Int), (0 : Int), (0 : Int), (0 : Int), (0 : Int), (0 : Int), (0 : Int), (0 : Int), (0 : Int), (0 : Int), (0 : Int), (0 : Int), (0 : Int), (0 : Int), (0 : Int), (0 : Int), (0 : Int), (0 : Int), (0 : Int), (0 : Int), (0 : Int), (0 : Int), (0 : Int), (0 : Int), (0 : Int), (0 : Int), (0 : Int), (0 : Int)]))) ∧ True) ∧ true = true) ∧ ((isBytes (mkL k (x.last ++ List.drop 32 (List.take (↑(itB (List.drop (↑x.at_ : Int).toNat (List.take (↑t.length : Int).toNat t))).length : Int).toNat (itB (List.drop (↑x.at_ : Int).toNat (List.take (↑t.length : Int).toNat t)))))) ∧ (mkL k (x.last ++ List.drop 32 (List.take (↑(itB (List.drop (↑x.at_ : Int).toNat (List.take (↑t.length : Int).toNat t))).length : Int).toNat (itB (List.drop (↑x.at_ : Int).toNat (List.take (↑t.length : Int).toNat t)))))).length = 32) ∧ ((IntKind.i64.wrap ((↑x.at_ : Int) + (↑(itN (List.drop (↑x.at_ : Int).toNat (List.take (↑t.length : Int).toNat t))) : Int))).toNat ≤ t.length ∧ (List.map unS (List.map D.str x.recs ++ [D.str (List.drop 32 (List.take (↑(itB (List.drop (↑x.at_ : Int).toNat (List.take (↑t.length : Int).toNat t))).length : Int).toNat (itB (List.drop (↑x.at_ : Int).toNat (List.take (↑t.length : Int).toNat t)))))])).length *
      33 ≤ (IntKind.i64.wrap ((↑x.at_ : Int) + (↑(itN (List.drop (↑x.at_ : Int).toNat (List.take (↑t.length : Int).toNat t))) : Int))).toNat) ∧ goT k t (t.length - (IntKind.i64.wrap ((↑x.at_ : Int) + (↑(itN (List.drop (↑x.at_ : Int).toNat (List.take (↑t.length : Int).toNat t))) : Int))).toNat + 1) (TS.mk (mkL k (x.last ++ List.drop 32 (List.take (↑(itB (List.drop (↑x.at_ : Int).toNat (List.take (↑t.length : Int).toNat t))).length : Int).toNat (itB (List.drop (↑x.at_ : Int).toNat (List.take (↑t.length : Int).toNat t)))))) (List.map unS (List.map D.str x.recs ++ [D.str (List.drop 32 (List.take (↑(itB (List.drop (↑x.at_ : Int).toNat (List.take (↑t.length : Int).toNat t))).length : Int).toNat (itB (List.drop (↑x.at_ : Int).toNat (List.take (↑t.length : Int).toNat t)))))])) (IntKind.i64.wrap ((↑x.at_ : Int) + (↑(itN (List.drop (↑x.at_ : Int).toNat (List.take (↑t.length : Int).toNat t))) : Int))).toNat) = goT k t (t.length + 1) (TS.mk [(0 : Int), (0 : Int), (0 : Int), (0 : Int), (0 : Int), (0 : Int), (0 : Int), (0 : Int), (0 : Int), (0 : Int), (0 : Int), (0 : Int), (0 : Int), (0 : Int), (0 : Int), (0 : Int), (0 : Int), (0 : Int), (0 : Int), (0 : Int), (0 : Int), (0 : Int), (0 : Int), (0 : Int), (0 : Int), (0 : Int), (0 : Int), (0 : Int), (0 : Int), (0 : Int), (0 : Int), (0 : Int)] [] 0)) ∧ t.length - (IntKind.i64.wrap ((↑x.at_ : Int) + (↑(itN (List.drop (↑x.at_ : Int).toNat (List.take (↑t.length : Int).toNat t))) : Int))).toNat < t.length - x.at_
 | false => True ∧ True ∧ True ∧ True ∧ True ∧ (false = false ∧ false = false ∧ True) ∧ (9 : TypeId) = (9 : TypeId) ∧ True ∧ D.tup [D.slc 1 (List.map D.str x.recs), D.val (.int .i64 (↑x.at_ : Int)), D.val (.int .i64 0)] = F) := by kernel_rfl
set_option maxRecDepth 100000 in
theorem vc91  (k : List Int) (recs : List (List Int)) (F : D)  :
    (owed c91 (inv91 k recs) Tryd.f91 [.str k, .slc 1 (recs.map D.str)] F) = (
 True ∧ ((0 : Int) ≤ 32 ∧ (32 : Int) = 32 ∧ (32 : Int) ≤ 281474976710656 ∧ (↑(1 : Nat) : Int) * (32 : Int) ≤ 281474976710656 ∧ 1 = 1) ∧ isBytes [(0 : Int), (0 : Int), (0 : Int), (0 : Int), (0 : Int), (0 : Int), (0 : Int), (0 : Int), (0 : Int), (0 : Int), (0 : Int), (0 : Int), (0 : Int), (0 : Int), (0 : Int), (0 : Int), (0 : Int), (0 : Int), (0 : Int), (0 : Int), (0 : Int), (0 : Int), (0 : Int), (0 : Int), (0 : Int), (0 : Int), (0 : Int), (0 : Int), (0 : Int), (0 : Int), (0 : Int), (0 : Int)] ∧ True ∧ True ∧ True ∧ True ∧ True ∧ (((AV.d (D.val (.int .i64 0)) = AV.d (D.val (.int .i64 (↑(Int.toNat (0 : Int)) : Int))) ∧ AV.d (D.str (ints (ByteArray.mk (Array.mk [])))) = AV.d (D.str (tpA k (List.take (Int.toNat (0 : Int)) recs))) ∧ AV.d (D.str [(0 : Int), (0 : Int), (0 : Int), (0 : Int), (0 : Int), (0 : Int), (0 : Int), (0 : Int), (0 : Int), (0 : Int), (0 : Int), (0 : Int), (0 : Int), (0 : Int), (0 : Int), (0 : Int), (0 : Int), (0 : Int), (0 : Int), (0 : Int), (0 : Int), (0 : Int), (0 : Int), (0 : Int), (0 : Int), (0 : Int), (0 : Int), (0 : Int), (0 : Int), (0 : Int), (0 : Int), (0 : Int)]) = AV.d (D.str (tpB k (List.take (Int.toNat (0 : Int)) recs))) ∧ True) ∧ (sm (some (Blk.fix (D.arr .u8 32 [(0 : Int), (0 : Int), (0 : Int), (0 : Int), (0 : Int), (0 : Int), (0 : Int), (0 : Int), (0 : Int), (0 : Int), (0 : Int), (0 : Int), (0 : Int), (0 : Int), (0 : Int), (0 : Int), (0 : Int), (0 : Int), (0 : Int), (0 : Int), (0 : Int), (0 : Int), (0 : Int), (0 : Int), (0 : Int), (0 : Int), (0 : Int), (0 : Int), (0 : Int), (0 : Int), (0 : Int), (0 : Int)]))) ∧ True) ∧ true = true) ∧ Int.toNat (0 : Int) ≤ recs.length) ∧ ∀ (x : Nat), x ≤ recs.length → true = true ∧ True ∧ match decide ((↑x : Int) < (↑(List.map D.str recs).length : Int)) with
 | true => ((0 : Int) ≤ (↑x : Int) ∧ (↑x : Int) < (↑(List.map D.str recs).length : Int) ∧ 1 ≠ 0 ∧ 1 = 1 ∧ D.str (strOf ((List.map D.str recs).getD (↑x : Int).toNat (D.val (Value.bool false)))) = (List.map D.str recs).getD (↑x : Int).toNat (D.val (Value.bool false))) ∧ (1 ≠ 0 ∧ 1 = 1 ∧ false = false) ∧ True ∧ True ∧ True ∧ True ∧ True ∧ (∃ (k_1 : List Int), ∃ (l : List Int), ∃ (r : List Int), [D.str k, D.str (tpB k (List.take x recs)), D.str (strOf ((List.map D.str recs).getD (↑x : Int).toNat (D.val (Value.bool false))))] = [D.str k_1, D.str l, D.str r] ∧ isP k_1 ∧ (isBytes l ∧ l.length = 32) ∧ okr r) ∧ True ∧ (0 < 2 ∧ false = false) ∧ (1 < 2 ∧ false = false) ∧ True ∧ True ∧ True ∧ True ∧ (↑((tpA k (List.take x recs)).length + (itO k (tpB k (List.take x recs)) (strOf ((List.map D.str recs).getD (↑x : Int).toNat (D.val (Value.bool false))))).length) : Int) ≤ (9223372036854775807 : Int) ∧ True ∧ True ∧ True ∧ ((AV.d (D.val (.int .i64 (IntKind.i64.wrap ((↑x : Int) + (1 : Int))))) = AV.d (D.val (.int .i64 (↑(IntKind.i64.wrap ((↑x : Int) + (1 : Int))).toNat : Int))) ∧ AV.d (D.str (tpA k (List.take x recs) ++ itO k (tpB k (List.take x recs)) (strOf ((List.map D.str recs).getD (↑x : Int).toNat (D.val (Value.bool false)))))) = AV.d (D.str (tpA k (List.take (IntKind.i64.wrap ((↑x : Int) + (1 : Int))).toNat recs))) ∧ AV.d (D.str (mkL k (tpB k (List.take x recs) ++ strOf ((List.map D.str recs).getD (↑x : Int).toNat (D.val (Value.bool false)))))) = AV.d (D.str (tpB k (List.take (IntKind.i64.wrap ((↑x : Int) + (1 : Int))).toNat recs))) ∧ True) ∧ (sm (some (Blk.fix (D.arr .u8 32 [(0 : Int), (0 : Int), (0 : Int), (0 : Int), (0 : Int), (0 : Int), (0 : Int), (0 : Int), (0 : Int), (0 : Int), (0 : Int), (0 : Int), (0 : Int), (0 : Int), (0 : Int), (0 : Int), (0 : Int), (0 : Int), (0 : Int), (0 : Int), (0 : Int), (0 : Int), (0 : Int), (0 : Int), (0 : Int), (0 : Int), (0 : Int), (0 : Int), (0 : Int), (0 : Int), (0 : Int), (0 : Int)]))) ∧ True) ∧ true = true) ∧ (IntKind.i64.wrap ((↑x : Int) + (1 : Int))).toNat ≤ recs.length ∧ recs.length - (IntKind.i64.wrap ((↑x : Int) + (1 : Int))).toNat < recs.length - x
 | false => True ∧ True ∧ (false = false ∧ True) ∧ D.str (tpA k (List.take x recs)) = F) := by kernel_rfl
set_option maxRecDepth 100000 in
theorem vc38  (t k r : List Int) (F : D)  :
    (owed c38 (fun _ => none) Tryd.f38 [.str t, .str k, .str r] F) = (
 True ∧ True ∧ True ∧ True ∧ True ∧ match decide ((↑r.length : Int) > (4064 : Int)) with
 | true => True ∧ True ∧ (false = false ∧ false = false ∧ True) ∧ D.tup [D.str (ints (ByteArray.mk (Array.mk []))), D.val (.int .i64 2)] = F
 | false => True ∧ True ∧ (∃ (t_1 : List Int), ∃ (k_1 : List Int), [D.str t, D.str k] = [D.str t_1, D.str k_1] ∧ isP t_1 ∧ isP k_1) ∧ True ∧ True ∧ (0 < 2 ∧ false = false) ∧ (1 < 2 ∧ false = false) ∧ True ∧ True ∧ True ∧ True ∧ True ∧ True ∧ (1 ≤ 4096 ∧ 1 ≤ 256 ∧ 1 ≠ 0) ∧ ((8500009 : TypeId) - (8500000 : TypeId) = (9 : TypeId) ∧ 61 = 61 ∧ true = true ∧ (List.map D.str (rdSt k t).recs ++ [D.str r]).length ≤ 140737488355328 ∧ (List.map D.str (rdSt k t).recs ++ [D.str r]).length * 16 ≤ 140737488355328 ∧ 1 ≠ 0 ∧ 1 = 1) ∧ (∃ (k_1 : List Int), ∃ (recs : List (List Int)), [D.str k, D.slc 1 (List.map D.str (rdSt k t).recs ++ [D.str r])] = [D.str k_1, D.slc 1 (List.map D.str recs)] ∧ isP k_1 ∧ (∀ (r : List Int), r ∈ recs → okr r) ∧ recs.length ≤ 140737488351233) ∧ True ∧ True ∧ True ∧ True ∧ match decide ((↑(tpA k (List.map unS (List.map D.str (rdSt k t).recs ++ [D.str r]))).length : Int) > (65536 : Int)) with
  | true => True ∧ True ∧ (false = false ∧ false = false ∧ True) ∧ D.tup [D.str (ints (ByteArray.mk (Array.mk []))), D.val (.int .i64 2)] = F
  | false => True ∧ True ∧ True ∧ (false = false ∧ false = false ∧ True) ∧ D.tup [D.str (tpA k (List.map unS (List.map D.str (rdSt k t).recs ++ [D.str r]))), D.val (.int .i64 0)] = F) := by kernel_rfl
end Go.Proofs.YtkicjckhkefnpaaDoor
namespace Go.Proofs.YtkicjckhkefnpaaDoor
open Go Go.Vg
theorem wr_one (x : Int) (b : List Int) : wrIts [(x, b)] = itHead (x, b) ++ b := by
 unfold wrIts
 rw [List.flatMap_cons, List.flatMap_nil, List.append_nil]
theorem nat_of {l : List Int} (h : okb l) {x : Int} (hx : x ∈ l) : ∃ n : Nat, x = (n : Int) ∧ n < 256 := by
 have := h x hx
 obtain ⟨n, rfl⟩ := Int.eq_ofNat_of_zero_le this.1
 exact ⟨n, rfl, by omega⟩
theorem it_of {l : List Int} (h : itE l = 0) : ∃ n a, l.length ≠ 0 ∧ hdr (l.drop 1) = (n, a, 0) ∧ n ≤ 4096 ∧ n + (1 + a) ≤ l.length ∧ itT l = gbt l 0 ∧ itB l = (l.drop (1 + a)).take n ∧ itN l = 1 + a + n := by
 obtain ⟨n, a, e, hh⟩ : ∃ n a e, hdr (l.drop 1) = (n, a, e) := ⟨_, _, _, rfl⟩
 by_cases h0 : l.length = 0
 ·unfold itE at h
  rw [fs_len h0] at h
  exact absurd h (by decide)
 by_cases he : e = 0
 ·subst he
  by_cases hn : n > 4096
  ·unfold itE at h
   rw [fs_big h0 hh hn] at h
   exact absurd h (by decide)
  ·by_cases hs : n + (1 + a) > l.length
   ·unfold itE at h
    rw [fs_short h0 hh hn hs] at h
    exact absurd h (by decide)
   ·have := fs_ok h0 hh hn hs
    exact ⟨n, a, h0, hh, by omega, by omega, by unfold itT; rw [this], by unfold itB; rw [this], by unfold itN; rw [this]⟩
 ·unfold itE at h
  rw [fs_err h0 hh he] at h
  exact absurd h he
theorem canon {l : List Int} (h : okb l) (he : itE l = 0) : wrIts [(((itT l : Nat) : Int), itB l)] = l.take (itN l) := by
 obtain ⟨n, a, h0, hh, hn, hs, e1, e2, e3⟩ := it_of he
 rw [wr_one, e1, e2, e3]
 match l, h, h0, hh, hs with
 | [x0], h, _, hh, hs =>
  have : hdr ([x0].drop 1) = (0, 0, 3) := rfl
  rw [this] at hh
  cases hh
 | x0 :: x1 :: r, h, _, hh, hs =>
  obtain ⟨n0, rfl, _⟩ := nat_of h (x := x0) (by simp)
  obtain ⟨n1, rfl, hn1⟩ := nat_of h (x := x1) (by simp)
  have hg0 : gbt ((n0 : Int) :: (n1 : Int) :: r) 0 = n0 := rfl
  rw [hg0]
  have hd : ((n0 : Int) :: (n1 : Int) :: r).drop 1 = (n1 : Int) :: r := rfl
  rw [hd] at hh
  unfold hdr at hh
  have g0 : gbt ((n1 : Int) :: r) 0 = n1 := rfl
  rw [if_neg (by simp), g0] at hh
  by_cases c1 : n1 < 128
  ·rw [if_pos c1] at hh
   have q1 : n1 = n := congrArg Prod.fst hh
   have q2 : a = 1 := (congrArg (fun z => z.2.1) hh).symm
   clear hh
   subst q1 q2
   have hl : (List.take n1 r).length = n1 := by
    rw [List.length_take]
    simp only [List.length_cons] at hs
    omega
   show itHead (_, List.take n1 r) ++ List.take n1 r = _
   unfold itHead
   rw [if_pos (by show (List.take n1 r).length < 128; omega)]
   show [(n0 : Int), (((List.take n1 r).length : Nat) : Int)] ++ _ = _
   rw [hl, show 1 + 1 + n1 = n1 + 1 + 1 by omega, List.take_succ_cons, List.take_succ_cons]
   rfl
  ·rw [if_neg c1] at hh
   by_cases c2 : n1 = 128 ∨ n1 > 130
   ·rw [if_pos c2] at hh
    cases hh
   rw [if_neg c2] at hh
   by_cases c3 : ((n1 : Int) :: r).length < n1 - 127
   ·rw [if_pos c3] at hh
    cases hh
   rw [if_neg c3] at hh
   by_cases c4 : n1 = 129
   ·subst c4
    rw [if_pos rfl] at hh
    cases r with
    | nil => exact absurd (show 1 < 2 by decide) c3
    | cons x2 r =>
     obtain ⟨n2, rfl, hn2⟩ := nat_of h (x := x2) (by simp)
     have g1 : gbt (((129 : Nat) : Int) :: (n2 : Int) :: r) 1 = n2 := rfl
     rw [g1] at hh
     by_cases c5 : n2 < 128
     ·rw [if_pos c5] at hh
      cases hh
     rw [if_neg c5] at hh
     have q1 : n2 = n := congrArg Prod.fst hh
     have q2 : a = 2 := (congrArg (fun z => z.2.1) hh).symm
     clear hh
     subst q1 q2
     have hl : (List.take n2 r).length = n2 := by
      rw [List.length_take]
      simp only [List.length_cons] at hs
      omega
     show itHead (_, List.take n2 r) ++ List.take n2 r = _
     unfold itHead
     rw [if_neg (by show ¬ (List.take n2 r).length < 128; omega), if_pos (by show (List.take n2 r).length < 256; omega)]
     show [(n0 : Int), 129, (((List.take n2 r).length : Nat) : Int)] ++ _ = _
     rw [hl, show 1 + 2 + n2 = n2 + 1 + 1 + 1 by omega, List.take_succ_cons, List.take_succ_cons, List.take_succ_cons]
     rfl
   ·rw [if_neg c4] at hh
    obtain rfl : n1 = 130 := by omega
    cases r with
    | nil => exact absurd (show 1 < 3 by decide) c3
    | cons x2 r =>
    cases r with
    | nil => exact absurd (show 2 < 3 by decide) c3
    | cons x3 r =>
     obtain ⟨n2, rfl, hn2⟩ := nat_of h (x := x2) (by simp)
     obtain ⟨n3, rfl, hn3⟩ := nat_of h (x := x3) (by simp)
     have g1 : gbt (((130 : Nat) : Int) :: (n2 : Int) :: (n3 : Int) :: r) 1 = n2 := rfl
     have g2 : gbt (((130 : Nat) : Int) :: (n2 : Int) :: (n3 : Int) :: r) 2 = n3 := rfl
     rw [g1, g2] at hh
     by_cases c5 : n2 * 256 + n3 < 256
     ·rw [if_pos c5] at hh
      cases hh
     rw [if_neg c5] at hh
     have q1 : n = n2 * 256 + n3 := (congrArg Prod.fst hh).symm
     have q2 : a = 3 := (congrArg (fun z => z.2.1) hh).symm
     clear hh
     subst q1 q2
     have hl : (List.take (n2 * 256 + n3) r).length = n2 * 256 + n3 := by
      rw [List.length_take]
      simp only [List.length_cons] at hs
      omega
     show itHead (_, List.take (n2 * 256 + n3) r) ++ List.take (n2 * 256 + n3) r = _
     unfold itHead
     rw [if_neg (by show ¬ (List.take (n2 * 256 + n3) r).length < 128; omega), if_neg (by show ¬ (List.take (n2 * 256 + n3) r).length < 256; omega)]
     show [(n0 : Int), 130, (((List.take (n2 * 256 + n3) r).length : Nat) : Int) / 256, (((List.take (n2 * 256 + n3) r).length : Nat) : Int) % 256] ++ _ = _
     rw [hl, show (((n2 * 256 + n3 : Nat) : Int) / 256) = (n2 : Int) by omega, show (((n2 * 256 + n3 : Nat) : Int) % 256) = (n3 : Int) by omega,
      show 1 + 3 + (n2 * 256 + n3) = n2 * 256 + n3 + 1 + 1 + 1 + 1 by omega, List.take_succ_cons, List.take_succ_cons, List.take_succ_cons, List.take_succ_cons]
     rfl
theorem wr_inj {x : Int} {b c : List Int} (hl : b.length = c.length) (h : wrIts [(x, b)] = wrIts [(x, c)]) : b = c := by
 rw [wr_one, wr_one] at h
 have e : itHead (x, b) = itHead (x, c) := by
  unfold itHead
  show (if b.length < 128 then _ else _) = (if c.length < 128 then _ else _)
  rw [hl]
 rw [e] at h
 exact List.append_cancel_left h
end Go.Proofs.YtkicjckhkefnpaaDoor
namespace Go.Proofs.YtkicjckhkefnpaaDoor
open Go Go.Vg
theorem itO_len {k l r : List Int} (hr : okr r) : (itO k l r).length ≤ 4100 := wr1_len (mkL_len _ _) hr.2
theorem items1 {m r : List Int} (hm2 : m.length = 32) (hl : r.length ≤ 4064) : items [((1 : Int), m ++ r)] = 0 := by
 unfold items
 have h1 : Nat.blt 200 [((1 : Int), m ++ r)].length = false := rfl
 have h2 : [((1 : Int), m ++ r)].any bigIt = false := by
  simp only [List.any_cons, List.any_nil, Bool.or_false, bigIt]
  cases hb : Nat.blt 4096 (m ++ r).length
  ·rfl
  ·rw [Nat.blt_eq, List.length_append] at hb
   omega
 rw [h1, h2]
 rfl
set_option maxRecDepth 100000 in
theorem m88 : Meets Tryd.prog 88 sp88 := by
 refine meets_of_owed (C := c88) ⟨tab_ok, lkS_ok ⟨m79, m120, trivial⟩⟩ (by kernel_rfl) (by kernel_rfl : Tryd.prog.funcs[88]? = some Tryd.f88) (by kernel_rfl) (by kernel_rfl) (by kernel_rfl) _ ?_
 rintro _ ⟨k, l, r, rfl, hk, ⟨hl1, hl2⟩, hr⟩
 refine ⟨fun _ => rfl, fun _ => none, ?_⟩
 show owed c88 (fun _ => none) Tryd.f88 [.str k, .str l, .str r] (.tup [.str (itO k l r), .str (mkL k (l ++ r))])
 rw [vc88]
 have hr2 := hr.2
 have tm : ∀ p, List.take 32 (mkL k p) = mkL k p := fun p => t32 _ (mkL_len k p)
 have hlr : isBytes (l ++ r) := fun z hz => (List.mem_append.1 hz).elim (hl1 z) (hr.1 z)
 obtain ⟨w1, w2⟩ := wr1 (mkL_bytes k (l ++ r)) (mkL_len _ _) hr.1 hr2
 have w3 := items1 (mkL_len k (l ++ r)) hr2
 simp (decide := true) only [tm, itsOf_one, Int.toNat_natCast, show Int.toNat 32 = 32 from rfl, Nat.sub_zero, List.drop_zero, mkL_len, eq_self, true_and, and_true, ne_eq, not_false_eq_true]
 refine ⟨by omega, ⟨k, _, rfl, isP_B hk, hlr, by rw [List.length_append]; omega⟩, mkL_bytes _ _, by omega, ⟨_, rfl, w1, w3⟩, mkL_bytes _ _, rfl⟩
theorem map_unS (l : List (List Int)) : (l.map D.str).map unS = l := by
 rw [List.map_map]
 exact List.map_id l
theorem map_snS (l : List (List Int)) (x : List Int) : l.map D.str ++ [D.str x] = (l ++ [x]).map D.str := by rw [List.map_append]; rfl
theorem okr_of {t : List Int} (ht : okb t) (n : Nat) : okr ((itB (t.drop n)).drop 32) := by
 have hf := fst_ok (okb_drop ht n)
 refine ⟨fun z hz => hf.2.1 z (List.mem_of_mem_drop hz), ?_⟩
 rw [List.length_drop]
 have := hf.2.2.1
 omega
set_option maxRecDepth 100000 in
theorem m36 : MeetsQ Tryd.prog 36 sp36 := by
 refine meetsRw_of_owed (C := c36) ⟨tab_ok, lkS_ok ⟨m87, m88, trivial⟩⟩ (by kernel_rfl) (by kernel_rfl : Tryd.prog.funcs[36]? = some Tryd.f36) (by kernel_rfl) (by kernel_rfl) (by kernel_rfl) _ 9 ⟨by kernel_rfl, by kernel_rfl, by kernel_rfl, by kernel_rfl⟩ ?_
 rintro _ ⟨t, k, rfl, ht, hk⟩
 refine ⟨inv36 t k, ?_⟩
 show owedRw c36 (inv36 t k) Tryd.f36 9 [.str t, .str k] (.tup [.slc 1 (rcSt (rdSt k t)), i64 ((rdSt k t).at_ : Int), i64 (rdEr k t)])
 rw [vc36]
 have htb : okb t := ht.1
 have htl := ht.2
 have tl : List.take t.length t = t := List.take_length
 have z0 : isBytes (List.replicate 32 0) := bytes_rep 32 0 (by decide)
 simp (decide := true) only [tl, Int.toNat_natCast, show Int.toNat 32 = 32 from rfl, Nat.sub_zero, List.drop_zero, sm, eq_self, true_and, and_true, ne_eq, not_false_eq_true]
 refine ⟨z0, ⟨rfl, z0, Nat.zero_le _⟩, fun x hx => ?_⟩
 obtain ⟨⟨hl1, hl2⟩, ⟨hat, hrl⟩, hgo⟩ := hx
 have hgo : goT k t (t.length - x.at_ + 1) x = goT k t (t.length + 1) s0T := hgo
 have hend : ∀ e, (goT k t (t.length - x.at_ + 1) x) = (x, e) → D.tup [.slc 1 (x.recs.map D.str), i64 (x.at_ : Int), i64 e] = D.tup [.slc 1 (rcSt (rdSt k t)), i64 ((rdSt k t).at_ : Int), i64 (rdEr k t)] := fun e h => by
  unfold rdEr rdSt
  rw [← hgo, h]
  rfl
 split
 ·rename_i hlt
  have hlt : x.at_ < t.length := by have := of_decide_eq_true hlt; omega
  have hgoN : erT k t x ≠ 0 → goT k t (t.length - x.at_ + 1) x = (x, erT k t x) := fun h => by
   rw [goT, if_neg (by omega), if_pos h]
  have hdl : (t.drop x.at_).length ≤ t.length := by rw [List.length_drop]; omega
  have hdb : okb (t.drop x.at_) := okb_drop htb _
  have hf := fst_ok hdb
  have hokr := okr_of htb x.at_
  have hcan := canon hdb
  have hst := fun h => go_step (k := k) htb hlt h
  have hcut : ∀ n, List.drop x.at_ (List.take (x.at_ + n) t) = List.take n (t.drop x.at_) := fun n => cut50 t x.at_ n
  have hnl : itN (t.drop x.at_) + x.at_ ≤ t.length := by
   have := hf.2.2.2
   rw [List.length_drop] at this
   omega
  have hern := er_zero (k := k) (t := t) (s := x)
  have her : erT k t x = (if itE (t.drop x.at_) ≠ 0 then ((itE (t.drop x.at_) : Nat) : Int) else if itT (t.drop x.at_) ≠ 1 ∨ (itB (t.drop x.at_)).length < 32 then 4
   else if mkT k x ((itB (t.drop x.at_)).drop 32) ≠ (itB (t.drop x.at_)).take 32 then 5 else 0) := rfl
  have hnxe : nxT k t x = ⟨mkT k x ((itB (t.drop x.at_)).drop 32), x.recs ++ [(itB (t.drop x.at_)).drop 32], x.at_ + itN (t.drop x.at_)⟩ := rfl
  have hgro := fun h => it_grow (l := t.drop x.at_) h
  have w1 : IntKind.i64.wrap ((x.at_ : Int) + ((itN (t.drop x.at_) : Nat) : Int)) = ((x.at_ + itN (t.drop x.at_) : Nat) : Int) := by rw [wi (by omega) (by omega)]; omega
  rw [w1]
  simp only [Int.toNat_natCast, hcut]
  generalize t.drop x.at_ = l at *
  have tb : List.take (itB l).length (itB l) = itB l := List.take_length
  have hmk : mkT k x ((itB l).drop 32) = mkL k (x.last ++ (itB l).drop 32) := rfl
  rw [tb, ← hmk]
  refine ⟨⟨by omega, by omega, by omega⟩, ⟨l, rfl, hdb, by unfold lenB; omega⟩, ?_⟩
  by_cases h0 : itE l = 0
  ·have e0 : (((itE l : Nat) : Int) != 0) = false := by rw [h0]; rfl
   rw [e0]
   dsimp only
   by_cases h1 : itT l = 1
   ·have e1 : (((itT l : Nat) : Int) != 1) = false := by rw [h1]; rfl
    rw [e1]
    dsimp only
    by_cases h2 : (itB l).length < 32
    ·rw [decide_eq_true (show (((itB l).length : Nat) : Int) < 32 by omega)]
     have h4 : erT k t x = 4 := by rw [her, if_neg (fun e => e h0), if_pos (.inr h2)]
     exact hend 4 (by rw [hgoN (by rw [h4]; decide), h4])
    ·rw [decide_eq_false (show ¬ (((itB l).length : Nat) : Int) < 32 by omega)]
     dsimp only
     have hmb : isBytes (mkT k x ((itB l).drop 32)) := mkL_bytes _ _
     have hml : (mkT k x ((itB l).drop 32)).length = 32 := mkL_len _ _
     have hio : itO k x.last ((itB l).drop 32) = wrIts [(1, mkT k x ((itB l).drop 32) ++ (itB l).drop 32)] := rfl
     have hcn := hcan h0
     rw [h1] at hcn
     have hcn : wrIts [(1, itB l)] = List.take (itN l) l := hcn
     rw [hio, ← hcn]
     refine ⟨⟨by omega, by omega⟩, hokr.1, ⟨k, x.last, _, rfl, hk, ⟨hl1, hl2⟩, hokr⟩, ⟨by omega, by omega, by omega⟩, ?_⟩
     by_cases h3 : mkT k x ((itB l).drop 32) = (itB l).take 32
     ·have e3 : eqB (wrIts [(1, mkT k x ((itB l).drop 32) ++ (itB l).drop 32)]) (wrIts [(1, itB l)]) = true := by
       rw [h3, List.take_append_drop]
       exact eqB_refl _
      rw [e3, Bool.not_true]
      have h4 : erT k t x = 0 := hern.2 ⟨h0, h1, by omega, h3⟩
      have hs := hst h4
      have hg := hgro h0
      rw [hnxe] at hs
      have hs2 : goT k t (t.length - x.at_ + 1) x = goT k t (t.length - (x.at_ + itN l) + 1) ⟨mkT k x ((itB l).drop 32), x.recs ++ [(itB l).drop 32], x.at_ + itN l⟩ := hs
      simp only [List.length_append, List.length_map, List.length_singleton, map_snS, map_unS]
      exact ⟨⟨by omega, by omega⟩, by and_intros <;> first | trivial | rfl, ⟨⟨hmb, hml⟩, ⟨by omega, by omega⟩, hs2.symm.trans hgo⟩, by omega⟩
     ·have e3 : eqB (wrIts [(1, mkT k x ((itB l).drop 32) ++ (itB l).drop 32)]) (wrIts [(1, itB l)]) = false := by
       refine eqB_not.2 fun e => h3 ?_
       have := wr_inj (by rw [List.length_append, hml, List.length_drop]; omega) e
       have h5 := congrArg (List.take 32) this
       rw [List.take_left' hml] at h5
       exact h5
      rw [e3]
      have h4 : erT k t x = 5 := by rw [her, if_neg (fun e => e h0), if_neg (by omega), if_pos h3]
      exact hend 5 (by rw [hgoN (by rw [h4]; decide), h4])
   ·have e1 : (((itT l : Nat) : Int) != 1) = true := by
     have : ((itT l : Nat) : Int) ≠ 1 := by omega
     simpa using this
    rw [e1]
    have h4 : erT k t x = 4 := by rw [her, if_neg (fun e => e h0), if_pos (.inl h1)]
    exact hend 4 (by rw [hgoN (by rw [h4]; decide), h4])
  ·have e0 : (((itE l : Nat) : Int) != 0) = true := by
    have : ((itE l : Nat) : Int) ≠ 0 := by omega
    simpa using this
   rw [e0]
   have h4 : erT k t x = ((itE l : Nat) : Int) := by rw [her, if_pos h0]
   exact hend _ (by rw [hgoN (by rw [h4]; omega), h4])
 ·rename_i hlt
  have hlt := of_decide_eq_false hlt
  refine hend 0 ?_
  rw [goT, if_pos (by omega)]
end Go.Proofs.YtkicjckhkefnpaaDoor
namespace Go.Proofs.YtkicjckhkefnpaaDoor
open Go Go.Vg
theorem tpS_snoc (k : List Int) (recs : List (List Int)) (r : List Int) : tpS k (recs ++ [r]) = stpS k (tpS k recs) r := by
 unfold tpS
 rw [List.foldl_append]
 rfl
theorem tpA_snoc (k : List Int) (recs : List (List Int)) (r : List Int) : tpA k (recs ++ [r]) = tpA k recs ++ itO k (tpB k recs) r := by
 unfold tpA
 rw [tpS_snoc]
 rfl
theorem tpB_snoc (k : List Int) (recs : List (List Int)) (r : List Int) : tpB k (recs ++ [r]) = mkL k (tpB k recs ++ r) := by
 unfold tpB
 rw [tpS_snoc]
 rfl
theorem tp_induct {k : List Int} (P : List (List Int) → Prop) (h0 : P []) (h1 : ∀ recs r, P recs → P (recs ++ [r])) : ∀ n recs, recs.length = n → P recs
 | 0, recs, h => by rw [List.eq_nil_of_length_eq_zero h]; exact h0
 | n + 1, recs, h => by
  have hne : recs ≠ [] := fun e => by rw [e] at h; cases h
  rw [← List.dropLast_concat_getLast hne]
  exact h1 _ _ (tp_induct (k := k) P h0 h1 n _ (by rw [List.length_dropLast]; omega))
theorem tpB_ok (k : List Int) (recs : List (List Int)) : isBytes (tpB k recs) ∧ (tpB k recs).length = 32 := by
 refine tp_induct (k := k) (fun recs => isBytes (tpB k recs) ∧ (tpB k recs).length = 32) ⟨bytes_rep 32 0 (by decide), rfl⟩ ?_ _ recs rfl
 intro recs r _
 rw [tpB_snoc]
 exact ⟨mkL_bytes _ _, mkL_len _ _⟩
theorem tpA_len (k : List Int) (recs : List (List Int)) (h : ∀ r ∈ recs, okr r) : (tpA k recs).length ≤ 4100 * recs.length := by
 revert h
 refine tp_induct (k := k) (fun recs => (∀ r ∈ recs, okr r) → (tpA k recs).length ≤ 4100 * recs.length) (fun _ => Nat.le_refl _) ?_ _ recs rfl
 intro recs r ih h
 have h1 := ih fun x hx => h x (List.mem_append.2 (.inl hx))
 have h2 := itO_len (k := k) (l := tpB k recs) (h r (List.mem_append.2 (.inr (List.mem_singleton.2 rfl))))
 rw [tpA_snoc, List.length_append, List.length_append, List.length_singleton]
 omega
theorem take_snocL {α : Type} {l : List α} {i : Nat} (h : i < l.length) : l.take (i + 1) = l.take i ++ [l[i]] := by
 rw [List.take_succ_eq_append_getElem h]
set_option maxRecDepth 100000 in
theorem m91 : Meets Tryd.prog 91 sp91 := by
 refine meets_of_owed (C := c91) ⟨tab_ok, lkS_ok ⟨m88, trivial⟩⟩ (by kernel_rfl) (by kernel_rfl : Tryd.prog.funcs[91]? = some Tryd.f91) (by kernel_rfl) (by kernel_rfl) (by kernel_rfl) _ ?_
 rintro _ ⟨k, recs, rfl, hk, hr, hl⟩
 refine ⟨fun _ => rfl, inv91 k recs, ?_⟩
 have e0 : (recs.map D.str).map unS = recs := map_unS recs
 show owed c91 (inv91 k recs) Tryd.f91 [.str k, .slc 1 (recs.map D.str)] (.str (tpA k ((recs.map D.str).map unS)))
 rw [e0, vc91]
 have z0 : isBytes (List.replicate 32 0) := bytes_rep 32 0 (by decide)
 simp (decide := true) only [List.length_map, Int.toNat_natCast, show Int.toNat 0 = 0 from rfl, List.take_zero, sm, eq_self, true_and, and_true, ne_eq, not_false_eq_true]
 refine ⟨z0, ⟨⟨rfl, rfl, rfl⟩, Nat.zero_le _⟩, fun x hx => ?_⟩
 split
 ·rename_i h
  have h : x < recs.length := by have := of_decide_eq_true h; omega
  have e1 : IntKind.i64.wrap ((x : Int) + 1) = ((x + 1 : Nat) : Int) := by rw [wi (by omega) (by omega)]; omega
  have e2 : (recs.map D.str).getD x (D.val (Value.bool false)) = .str recs[x] := by
   rw [List.getD_eq_getElem?_getD, List.getElem?_map, List.getElem?_eq_getElem h]
   rfl
  have hrx : okr recs[x] := hr _ (List.getElem_mem h)
  have hb := tpB_ok k (recs.take x)
  have ha := tpA_len k (recs.take x) fun r hr' => hr r (List.mem_of_mem_take hr')
  rw [List.length_take] at ha
  have hi := itO_len (k := k) (l := tpB k (recs.take x)) hrx
  simp only [e1, e2, strOf, Int.toNat_natCast, take_snocL h, tpA_snoc, tpB_snoc]
  refine ⟨⟨by omega, by omega, trivial⟩, ⟨k, _, _, rfl, hk, hb, hrx⟩, by omega, ?_⟩
  and_intros <;> first | trivial | rfl | omega
 ·rename_i h
  have h := of_decide_eq_false h
  obtain rfl : x = recs.length := by omega
  simp (decide := true) only [List.take_length, eq_self, true_and, and_true, ne_eq, not_false_eq_true]
theorem go_recs {k t : List Int} (ht : okb t) : ∀ (f : Nat) (s : TS), s.at_ ≤ t.length → (∀ r ∈ s.recs, okr r) ∧ s.recs.length * 33 ≤ s.at_ ∧ tpA k s.recs = t.take s.at_ ∧ tpB k s.recs = s.last →
  (∀ r ∈ (goT k t f s).1.recs, okr r) ∧ (goT k t f s).1.recs.length * 33 ≤ (goT k t f s).1.at_ ∧ tpA k (goT k t f s).1.recs = t.take (goT k t f s).1.at_ ∧ tpB k (goT k t f s).1.recs = (goT k t f s).1.last
 | 0, s, _, h => h
 | f + 1, s, hs, h => by
  rw [goT]
  by_cases h3 : s.at_ ≥ t.length
  ·rw [if_pos h3]
   exact h
  ·rw [if_neg h3]
   by_cases h4 : erT k t s ≠ 0
   ·rw [if_pos h4]
    exact h
   ·rw [if_neg h4]
    have h0 : erT k t s = 0 := Classical.byContradiction fun e => h4 e
    refine go_recs ht f _ (nx_at ht h0 hs).2 ?_
    obtain ⟨a1, a2, a3, a4⟩ := er_zero.1 h0
    obtain ⟨b1, b2, b3, b4⟩ := h
    have hcan := canon (okb_drop ht s.at_) a1
    rw [a2] at hcan
    have hcan : wrIts [(1, itB (t.drop s.at_))] = (t.drop s.at_).take (itN (t.drop s.at_)) := hcan
    have hg := it_grow a1
    have hio : itO k s.last ((itB (t.drop s.at_)).drop 32) = (t.drop s.at_).take (itN (t.drop s.at_)) := by
     rw [← hcan]
     show wrIts [(1, mkT k s ((itB (t.drop s.at_)).drop 32) ++ (itB (t.drop s.at_)).drop 32)] = _
     rw [a4, List.take_append_drop]
    show (∀ r ∈ s.recs ++ [(itB (t.drop s.at_)).drop 32], okr r) ∧ (s.recs ++ [(itB (t.drop s.at_)).drop 32]).length * 33 ≤ s.at_ + itN (t.drop s.at_) ∧ tpA k (s.recs ++ [(itB (t.drop s.at_)).drop 32]) = t.take (s.at_ + itN (t.drop s.at_)) ∧
     tpB k (s.recs ++ [(itB (t.drop s.at_)).drop 32]) = mkT k s ((itB (t.drop s.at_)).drop 32)
    refine ⟨fun r hr => ?_, ?_, ?_, ?_⟩
    ·rcases List.mem_append.1 hr with h | h
     ·exact b1 r h
     ·rw [List.mem_singleton.1 h]
      exact okr_of ht s.at_
    ·rw [List.length_append, List.length_singleton]
     omega
    ·rw [tpA_snoc, b3, b4, hio, List.take_add]
    ·rw [tpB_snoc, b4]
     rfl
theorem rd_recs {k t : List Int} (ht : okb t) : (∀ r ∈ (rdSt k t).recs, okr r) ∧ (rdSt k t).recs.length * 33 ≤ (rdSt k t).at_ ∧ tpA k (rdSt k t).recs = t.take (rdSt k t).at_ ∧ tpB k (rdSt k t).recs = (rdSt k t).last :=
 go_recs ht _ _ (Nat.zero_le _) (And.intro (fun r hr => absurd (show r ∈ ([] : List (List Int)) from hr) List.not_mem_nil) (And.intro (Nat.zero_le _) (And.intro rfl rfl)))
set_option maxRecDepth 100000 in
theorem m38 : Meets Tryd.prog 38 sp38 := by
 refine meets_of_owed (C := c38) ⟨tab_ok, lkS_ok ⟨m36, m91, trivial⟩⟩ (by kernel_rfl) (by kernel_rfl : Tryd.prog.funcs[38]? = some Tryd.f38) (by kernel_rfl) (by kernel_rfl) (by kernel_rfl) _ ?_
 rintro _ ⟨t, k, r, rfl, ht, hk, hr⟩
 refine ⟨fun _ => rfl, fun _ => none, ?_⟩
 show owed c38 (fun _ => none) Tryd.f38 [.str t, .str k, .str r] (.tup [.str (lgL t k r), i64 (lgE t k r)])
 rw [vc38]
 simp (decide := true) only [map_snS, map_unS, eq_self, true_and, and_true, ne_eq, not_false_eq_true]
 have hE : ∀ e, lgE t k r = e → e ≠ 0 → D.tup [D.str (ints (ByteArray.mk (Array.mk []))), i64 e] = D.tup [.str (lgL t k r), i64 (lgE t k r)] := fun e h h0 => by
  unfold lgL
  rw [h, if_neg h0]
  rfl
 split
 ·rename_i h
  have h : r.length > 4064 := by have := of_decide_eq_true h; omega
  refine hE 2 ?_ (by decide)
  unfold lgE
  rw [if_pos h]
 rename_i h
 have h : ¬ r.length > 4064 := by have := of_decide_eq_false h; omega
 obtain ⟨b1, b2, _⟩ := rd_recs (k := k) ht.1
 have b4 := (rd_ok (k := k) ht.1).2
 have htl := ht.2
 refine ⟨⟨t, k, rfl, ht, hk⟩, ⟨by rw [List.length_map, List.length_append, List.length_singleton]; omega, by rw [List.length_map, List.length_append, List.length_singleton]; omega⟩, ⟨k, _, rfl, hk, fun x hx => ?_, by rw [List.length_append, List.length_singleton]; omega⟩, ?_⟩
 ·rcases List.mem_append.1 hx with h2 | h2
  ·exact b1 x h2
  ·rw [List.mem_singleton.1 h2]
   exact ⟨hr.1, by omega⟩
 split
 ·rename_i h2
  have h2 : (tpA k ((rdSt k t).recs ++ [r])).length > 65536 := by have := of_decide_eq_true h2; omega
  refine hE 2 ?_ (by decide)
  unfold lgE
  rw [if_neg h, if_pos h2]
 ·rename_i h2
  have h2 : ¬ (tpA k ((rdSt k t).recs ++ [r])).length > 65536 := by have := of_decide_eq_false h2; omega
  have e : lgE t k r = 0 := by
   unfold lgE
   rw [if_neg h, if_neg h2]
  unfold lgL
  rw [e, if_pos rfl]
end Go.Proofs.YtkicjckhkefnpaaDoor
namespace Go.Proofs.YtkicjckhkefnpaaDoor
open Go Go.Vg
def bysD (l : List (List Int)) : List D := l.map (.ints .u8)
def strD (l : List (List Int)) : List D := l.map .str
def sp39 : Go.Vg.Spec := ⟨fun ds => ∃ l : List (List Int), ds = [.slc 1 (bysD l), .slc 1 (strD l)] ∧ (∀ r ∈ l, okr r) ∧ l.length ≤ 140737488351233, fun _ => .val (.bool true), true, [22, 61]⟩
def inv39 (l : List (List Int)) : Nat → Option Inv
 | 4 => some ⟨Nat, fun i => [(13, .d (i64 i))], fun _ => [], fun t => (slotN t 13).toNat, fun _ i => i ≤ l.length, fun i => l.length - i⟩
 | _ => none
noncomputable def c7 : Ctx := ⟨tab, lkS [(35, sp35), (36, sp36), (37, sp37), (38, sp38), (39, sp39)], [], []⟩
set_option maxRecDepth 100000 in
theorem vc39  (l : List (List Int)) (F : D)  :
    (owed c0 (inv39 l) Tryd.f39 [.slc 1 (bysD l), .slc 1 (strD l)] F) = (
 True ∧ True ∧ True ∧ True ∧ True ∧ True ∧ match (↑(bysD l).length : Int) != (↑(strD l).length : Int) with
 | true => True ∧ (false = false ∧ True) ∧ D.val (Value.bool false) = F
 | false => True ∧ True ∧ True ∧ (((AV.d (D.val (.int .i64 0)) = AV.d (D.val (.int .i64 (↑(Int.toNat (0 : Int)) : Int))) ∧ True) ∧ True ∧ true = true) ∧ Int.toNat (0 : Int) ≤ l.length) ∧ ∀ (x : Nat), x ≤ l.length → true = true ∧ True ∧ match decide ((↑x : Int) < (↑(bysD l).length : Int)) with
  | true => True ∧ True ∧ True ∧ True ∧ ((0 : Int) ≤ (↑x : Int) ∧ (↑x : Int) < (↑(bysD l).length : Int) ∧ 1 ≠ 0 ∧ 1 = 1 ∧ D.ints .u8 (intsOf ((bysD l).getD (↑x : Int).toNat (D.val (Value.bool false)))) = (bysD l).getD (↑x : Int).toNat (D.val (Value.bool false))) ∧ (1 ≠ 0 ∧ 1 = 1 ∧ false = false) ∧ isBytes (intsOf ((bysD l).getD (↑x : Int).toNat (D.val (Value.bool false)))) ∧ True ∧ True ∧ ((0 : Int) ≤ (↑x : Int) ∧ (↑x : Int) < (↑(strD l).length : Int) ∧ 1 ≠ 0 ∧ 1 = 1 ∧ D.str (strOf ((strD l).getD (↑x : Int).toNat (D.val (Value.bool false)))) = (strD l).getD (↑x : Int).toNat (D.val (Value.bool false))) ∧ (1 ≠ 0 ∧ 1 = 1 ∧ false = false) ∧ True ∧ match !eqB (intsOf ((bysD l).getD (↑x : Int).toNat (D.val (Value.bool false)))) (strOf ((strD l).getD (↑x : Int).toNat (D.val (Value.bool false)))) with
   | true => True ∧ (false = false ∧ True) ∧ D.val (Value.bool false) = F
   | false => True ∧ True ∧ ((AV.d (D.val (.int .i64 (IntKind.i64.wrap ((↑x : Int) + (1 : Int))))) = AV.d (D.val (.int .i64 (↑(IntKind.i64.wrap ((↑x : Int) + (1 : Int))).toNat : Int))) ∧ True) ∧ True ∧ true = true) ∧ (IntKind.i64.wrap ((↑x : Int) + (1 : Int))).toNat ≤ l.length ∧ l.length - (IntKind.i64.wrap ((↑x : Int) + (1 : Int))).toNat < l.length - x
  | false => True ∧ (false = false ∧ True) ∧ D.val (Value.bool true) = F) := by kernel_rfl
set_option maxRecDepth 100000 in
theorem vc7  (t k r : List Int) (F : D)  :
    (owed c7 (fun _ => none) Tryd.f7 [.ints .u8 t, .ints .u8 k, .ints .u8 r] F) = (
 True ∧ True ∧ True ∧ (∃ (t_1 : List Int), ∃ (k_1 : List Int), [D.ints .u8 t, D.ints .u8 k] = [D.ints .u8 t_1, D.ints .u8 k_1] ∧ isP t_1 ∧ isP k_1) ∧ True ∧ (0 < 3 ∧ false = false) ∧ (1 < 3 ∧ false = false) ∧ (2 < 3 ∧ false = false) ∧ True ∧ True ∧ True ∧ True ∧ isBytes t ∧ True ∧ isBytes k ∧ (∃ (t_1 : List Int), ∃ (k_1 : List Int), [D.str t, D.str k] = [D.str t_1, D.str k_1] ∧ isP t_1 ∧ isP k_1) ∧ True ∧ True ∧ (0 < 2 ∧ false = false) ∧ (1 < 2 ∧ false = false) ∧ True ∧ True ∧ True ∧ True ∧ True ∧ True ∧ (∃ (t_1 : List Int), ∃ (k_1 : List Int), ∃ (r_1 : List Int), [D.ints .u8 t, D.ints .u8 k, D.ints .u8 r] = [D.ints .u8 t_1, D.ints .u8 k_1, D.ints .u8 r_1] ∧ isP t_1 ∧ isP k_1 ∧ isP r_1) ∧ True ∧ (0 < 2 ∧ false = false) ∧ (1 < 2 ∧ false = false) ∧ True ∧ True ∧ True ∧ isBytes t ∧ True ∧ isBytes k ∧ True ∧ isBytes r ∧ (∃ (t_1 : List Int), ∃ (k_1 : List Int), ∃ (r_1 : List Int), [D.str t, D.str k, D.str r] = [D.str t_1, D.str k_1, D.str r_1] ∧ isP t_1 ∧ isP k_1 ∧ isP r_1) ∧ True ∧ (0 < 2 ∧ false = false) ∧ (1 < 2 ∧ false = false) ∧ True ∧ True ∧ True ∧ True ∧ (∃ (l : List (List Int)), [D.slc 1 (rcL (rdSt k t)), D.slc 1 (rcSt (rdSt k t))] = [D.slc 1 (bysD l), D.slc 1 (strD l)] ∧ (∀ (r : List Int), r ∈ l → okr r) ∧ l.length ≤ 140737488351233) ∧ True ∧ True ∧ True ∧ True ∧ True ∧ True ∧ match (↑(rdSt k t).at_ : Int) == (↑(rdSt k t).at_ : Int) with
 | true => True ∧ True ∧ True ∧ True ∧ True ∧ match rdEr k t == rdEr k t with
  | true => True ∧ isBytes (apL t k r) ∧ True ∧ True ∧ True ∧ True ∧ match eqB (apL t k r) (lgL t k r) with
   | true => True ∧ True ∧ True ∧ True ∧ True ∧ (false = false ∧ True) ∧ D.val (Value.bool (apE t k r == lgE t k r)) = F
   | false => True ∧ True ∧ (false = false ∧ True) ∧ D.val (Value.bool false) = F
  | false => True ∧ True ∧ True ∧ True ∧ (false = false ∧ True) ∧ D.val (Value.bool false) = F
 | false => True ∧ True ∧ True ∧ True ∧ True ∧ True ∧ (false = false ∧ True) ∧ D.val (Value.bool false) = F) := by kernel_rfl
end Go.Proofs.YtkicjckhkefnpaaDoor
namespace Go.Proofs.YtkicjckhkefnpaaDoor
open Go Go.Vg
theorem bysD_len (l : List (List Int)) : (bysD l).length = l.length := by
 unfold bysD
 rw [List.length_map]
theorem strD_len (l : List (List Int)) : (strD l).length = l.length := by
 unfold strD
 rw [List.length_map]
theorem bysD_get (l : List (List Int)) {x : Nat} (h : x < l.length) (d : D) : (bysD l).getD x d = .ints .u8 l[x] := by
 unfold bysD
 rw [List.getD_eq_getElem?_getD, List.getElem?_map, List.getElem?_eq_getElem h]
 rfl
theorem strD_get (l : List (List Int)) {x : Nat} (h : x < l.length) (d : D) : (strD l).getD x d = .str l[x] := by
 unfold strD
 rw [List.getD_eq_getElem?_getD, List.getElem?_map, List.getElem?_eq_getElem h]
 rfl
set_option maxRecDepth 100000 in
theorem m39 : Meets Tryd.prog 39 sp39 := by
 refine meets_of_owed (C := c0) ⟨tab_ok, fun f s h => by cases h⟩ (by kernel_rfl) (by kernel_rfl : Tryd.prog.funcs[39]? = some Tryd.f39) (by kernel_rfl) (by kernel_rfl) (by kernel_rfl) _ ?_
 rintro _ ⟨l, rfl, hxs, hl⟩
 refine ⟨fun _ => rfl, inv39 l, ?_⟩
 show owed c0 (inv39 l) Tryd.f39 [.slc 1 (bysD l), .slc 1 (strD l)] (bl true)
 rw [vc39]
 rw [bysD_len, strD_len, bne_self_eq_false]
 simp (decide := true) only [Int.toNat_natCast, show Int.toNat 0 = 0 from rfl, eq_self, true_and, and_true, ne_eq, not_false_eq_true]
 refine ⟨⟨rfl, Nat.zero_le _⟩, fun x hx => ?_⟩
 split
 ·rename_i h
  have h : x < l.length := by have := of_decide_eq_true h; omega
  have hb := (hxs _ (List.getElem_mem h)).1
  have e1 : IntKind.i64.wrap ((x : Int) + 1) = ((x + 1 : Nat) : Int) := by rw [wi (by omega) (by omega)]; omega
  simp only [bysD_get l h, strD_get l h, e1, Int.toNat_natCast, intsOf, strOf, eqB_refl, Bool.not_true]
  refine ⟨⟨by omega, by omega, trivial⟩, hb, ⟨by omega, by omega, trivial⟩, ?_⟩
  and_intros <;> first | trivial | omega
 ·simp (decide := true) only [eq_self, true_and, and_true, ne_eq, not_false_eq_true]
theorem tp_new {t k : List Int} (ht : okb t) (r : List Int) : tpA k ((rdSt k t).recs ++ [r]) = t.take (rdSt k t).at_ ++ apIt t k r := by
 obtain ⟨_, _, h3, h4⟩ := rd_recs (k := k) ht
 rw [tpA_snoc, h3, h4]
 rfl
theorem lgE_eq {t k : List Int} (ht : okb t) (r : List Int) : lgE t k r = apE t k r := by
 unfold lgE apE
 rw [tp_new ht, List.length_append, List.length_take, Nat.min_eq_left (rd_ok (k := k) ht).2]
theorem lgL_eq {t k : List Int} (ht : okb t) (r : List Int) : lgL t k r = apL t k r := by
 unfold lgL apL
 rw [lgE_eq ht, tp_new ht]
theorem apIt_bytes (t k : List Int) {r : List Int} (hr : isBytes r) (hl : r.length ≤ 4064) : isBytes (apIt t k r) := by
 have hb : isBytes (mkL k ((rdSt k t).last ++ r) ++ r) := fun z hz => (List.mem_append.1 hz).elim (mkL_bytes _ _ z) (hr z)
 have hn : (mkL k ((rdSt k t).last ++ r) ++ r).length ≤ 4096 := by rw [List.length_append, mkL_len]; omega
 unfold apIt
 rw [wr_one]
 generalize mkL k ((rdSt k t).last ++ r) ++ r = b at *
 intro z hz
 rcases List.mem_append.1 hz with h | h
 ·unfold itHead at h
  simp only at h
  split at h
  ·simp only [List.mem_cons, List.not_mem_nil, or_false] at h
   rcases h with h | h <;> omega
  ·split at h
   ·simp only [List.mem_cons, List.not_mem_nil, or_false] at h
    rcases h with h | h | h <;> omega
   ·simp only [List.mem_cons, List.not_mem_nil, or_false] at h
    rcases h with h | h | h | h <;> omega
 ·exact hb z h
set_option maxRecDepth 100000 in
theorem m7 : Meets Tryd.prog 7 (lawSpec tab Tryd.f7.params.toList) := by
 refine meets_of_owed (C := c7) ⟨tab_ok, lkS_ok ⟨m35, m36, m37, m38, m39, trivial⟩⟩ (by kernel_rfl) (by kernel_rfl : Tryd.prog.funcs[7]? = some Tryd.f7) (by kernel_rfl) (by kernel_rfl) (by kernel_rfl) _ ?_
 intro ds hds
 obtain ⟨t, k, r, rfl, ht, hk, hr⟩ : ∃ t k r, ds = [.ints .u8 t, .ints .u8 k, .ints .u8 r] ∧ isP t ∧ isP k ∧ isP r := by
  have hds : OkAll tab 8 [26, 26, 26] ds := hds
  obtain ⟨d1, d2, d3, rfl, h1, h2, h3⟩ := okAll3 hds
  obtain ⟨t, rfl, ht⟩ := bytes_of h1 rfl
  obtain ⟨k, rfl, hk⟩ := bytes_of h2 rfl
  obtain ⟨r, rfl, hr⟩ := bytes_of h3 rfl
  exact ⟨t, k, r, rfl, ht, hk, hr⟩
 refine ⟨fun _ => rfl, fun _ => none, ?_⟩
 show owed c7 (fun _ => none) Tryd.f7 [.ints .u8 t, .ints .u8 k, .ints .u8 r] (bl true)
 obtain ⟨h1, h2, _⟩ := rd_recs (k := k) ht.1
 have h5 := (rd_ok (k := k) ht.1).2
 have htl := ht.2
 have hb : isBytes (apL t k r) := by
  unfold apL
  split
  ·rename_i h0
   have hl : r.length ≤ 4064 := by
    unfold apE at h0
    split at h0
    ·exact absurd h0 (by decide)
    ·omega
   intro z hz
   rcases List.mem_append.1 hz with h | h
   ·exact ht.1 z (List.mem_of_mem_take h)
   ·exact apIt_bytes t k hr.1 hl z h
  ·intro z hz
   exact absurd hz List.not_mem_nil
 rw [vc7, lgE_eq ht.1, lgL_eq ht.1, eqB_refl]
 simp (decide := true) only [beq_self_eq_true, eq_self, true_and, and_true, ne_eq, not_false_eq_true]
 exact ⟨⟨t, k, rfl, ht, hk⟩, ht.1, hk.1, ⟨t, k, rfl, ht, hk⟩, ⟨t, k, r, rfl, ht, hk, hr⟩, ht.1, hk.1, hr.1, ⟨t, k, r, rfl, ht, hk, hr⟩, ⟨(rdSt k t).recs, rfl, h1, by omega⟩, hb⟩
end Go.Proofs.YtkicjckhkefnpaaDoor
