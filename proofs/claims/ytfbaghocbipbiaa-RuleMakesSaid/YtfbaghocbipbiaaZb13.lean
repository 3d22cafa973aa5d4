/- Make and Made. -/
import Derived.Test.YtfbaghocbipbiaaZb12
namespace Go.Proofs.Ytfbaghocbipbiaa
open Go Go.Vg
def dHi (c : Int) (i k : Nat) : Bool := decide (k ≤ i) && dH c k
def d0Vi (c : Int) (i k : Nat) : List Int := if k ≤ i then d0V c k else []
def sp60 : Go.Vg.Spec := ⟨fun ds => ∃ t k c b, ds = [.slc 2 t, i64 k, u8i c, bl b] ∧ okl t, fun ds => .ints .u8 (msL (xsOf (ds.headD default)) (numOf (ds.getD 1 default)) (numOf (ds.getD 2 default)) (boolOf (ds.getD 3 default))), false, [32, 3, 5, 4]⟩
def sp12 : Go.Vg.Spec := ⟨fun ds => ∃ t b, ds = [.slc 2 t, bl b] ∧ okl t, fun ds => .tup [.slc 2 (mkL (xsOf (ds.headD default)) (boolOf (ds.getD 1 default))), i64 (mkE (xsOf (ds.headD default)) (boolOf (ds.getD 1 default)))], false, [32, 4]⟩
def sp13 : Go.Vg.Spec := ⟨fun ds => ∃ t b, ds = [.slc 2 t, bl b] ∧ okl t, fun ds => .tup [.st [.st (hL (mdH (xsOf (ds.headD default)) (boolOf (ds.getD 1 default)))), .st (vL (mdV (xsOf (ds.headD default)) (boolOf (ds.getD 1 default))))], i64 (mdE (xsOf (ds.headD default)) (boolOf (ds.getD 1 default)))], true, [32, 4]⟩
def c60 : Ctx := ⟨tab, lkS [(25, sp25), (94, sp94), (28, sp28)], [], []⟩
def c12 : Ctx := ⟨tab, lkS [(27, sp27), (57, sp57), (15, sp15), (58, sp58), (25, sp25), (59, sp59), (60, sp60), (16, sp16)], [13], [93]⟩
def c13 : Ctx := ⟨tab, lkS [(22, sp22), (24, sp24), (61, sp61), (11, sp11), (62, sp62), (63, sp63), (36, sp36), (64, sp64), (65, sp65)], [], []⟩
def inv12 (t : List D) (b : Bool) : Nat → Option Inv
 | 9 => some ⟨Nat, fun i => [(31, .d (i64 i))], fun _ => [], fun s => (slotN s 31).toNat, fun _ i => i ≤ t.length ∧ tkN t i = 0, fun i => t.length - i⟩
 | 23 => some ⟨Nat, fun i => [(68, .d (i64 i)), (13, .row 13)], fun i => [(13, .row 83 (.slc 2 ((ouL t b).take i)))], fun s => (slotN s 68).toNat, fun _ i => i ≤ (kdL (clP t)).length, fun i => (kdL (clP t)).length - i⟩
 | _ => none
def inv13 (t : List D) : Nat → Option Inv
 | 9 => some ⟨Nat, fun i => [(28, .d (i64 i))], fun _ => [], fun s => (slotN s 28).toNat, fun _ i => i ≤ t.length ∧ tkN t i = 0, fun i => t.length - i⟩
 | 22 => some ⟨Nat, fun i => [(12, .d (i64 (i + 1 : Nat)))], fun i => [(11, .fix (cdL (dHi (clP t) i) (d0Vi (clP t) i)))], fun s => (slotN s 12).toNat - 1, fun _ i => i ≤ 18, fun i => 18 - i⟩
 | _ => none
--KEEP List.set Go.Vg.eqB isAt okl fi fx kOf vOf vl has isb hid fitB afI afN afE hL vL cH cV atP atL sameB clV clP belB szR oneV flgB belN objB valB kdP lastK kdL szP sndB msL ouV ouL tkI tkN mkF mkE mkL flg d0V dH upH upV d1H d1V setV d2V mdE mdH mdV okv Go.Vg.ones okc atX oneX clX objX uHX uVX upHi upVi anB fiI fxI mmB ixN ixI okn eqI dHi d0Vi
set_option maxRecDepth 100000 in
theorem vc60  (t : List D) (k c : Int) (b : Bool) (F : D)  :
    (owed c60 (fun _ => none) Try.f60 [.slc 2 t, i64 k, u8i c, bl b] F) = (
 True ∧
 True ∧
 (∃ (l : List D), ∃ (j : Int), [D.slc (2 : Nat) t, D.val (Value.int IntKind.i64 (9 : Int))] = [D.slc (2 : Nat) l, D.val (Value.int IntKind.i64 j)] ∧ okl l) ∧
 True ∧
 ((0 : Nat) < (2 : Nat) ∧ false = false) ∧
 ((1 : Nat) < (2 : Nat) ∧ false = false) ∧
 True ∧
 True ∧
 True ∧
 True ∧
 True ∧
 match k == (2 : Int) with
 | true =>
  match k == (2 : Int) with
  | true => True ∧ (false = false ∧ True) ∧ D.ints IntKind.u8 [] = F
  | false =>
   True ∧
   True ∧
   match k == (6 : Int) with
   | true =>
    True ∧
    True ∧
    True ∧
    match c == (2 : Int) with
    | true => True ∧ (∃ (b : Bool), [D.val (Value.bool true)] = [D.val (Value.bool b)]) ∧ True ∧ (false = false ∧ True) ∧ D.ints IntKind.u8 [(1 : Int)] = F
    | false => True ∧ True ∧ True ∧ (∃ (b : Bool), [D.val (Value.bool (c == (4 : Int)))] = [D.val (Value.bool b)]) ∧ True ∧ (false = false ∧ True) ∧ D.ints IntKind.u8 [bif c == (4 : Int) then (1 : Int) else (0 : Int)] = F
   | false =>
    True ∧
    True ∧
    match k == (7 : Int) with
    | true =>
     match k == (7 : Int) with
     | true => (∃ (b : Bool), [D.val (Value.bool true)] = [D.val (Value.bool b)]) ∧ True ∧ (false = false ∧ True) ∧ D.ints IntKind.u8 [(1 : Int)] = F
     | false =>
      True ∧
      True ∧
      match k == (12 : Int) with
      | true => True ∧ (∃ (b_1 : Bool), [D.val (Value.bool b)] = [D.val (Value.bool b_1)]) ∧ True ∧ (false = false ∧ True) ∧ D.ints IntKind.u8 [bif b then (1 : Int) else (0 : Int)] = F
      | false =>
       True ∧
       True ∧
       match k == (10 : Int) with
       | true =>
        True ∧
        True ∧
        match b with
        | true =>
         True ∧
         (∃ (l : List D), ∃ (j : Int), [D.slc (2 : Nat) t, D.val (Value.int IntKind.i64 (8 : Int))] = [D.slc (2 : Nat) l, D.val (Value.int IntKind.i64 j)] ∧ okl l) ∧
         True ∧ (∃ (b : Bool), [D.val (Value.bool (isb (8 : Int) t))] = [D.val (Value.bool b)]) ∧ True ∧ (false = false ∧ True) ∧ D.ints IntKind.u8 [bif isb (8 : Int) t then (1 : Int) else (0 : Int)] = F
        | false => True ∧ (∃ (b : Bool), [D.val (Value.bool false)] = [D.val (Value.bool b)]) ∧ True ∧ (false = false ∧ True) ∧ D.ints IntKind.u8 [(0 : Int)] = F
       | false =>
        True ∧
        True ∧
        match k == (11 : Int) with
        | true =>
         True ∧
         True ∧
         match b with
         | true =>
          True ∧
          True ∧
          True ∧
          match has (9 : Int) t with
          | true =>
           True ∧
           (∃ (l : List D), ∃ (j : Int), [D.slc (2 : Nat) t, D.val (Value.int IntKind.i64 (9 : Int))] = [D.slc (2 : Nat) l, D.val (Value.int IntKind.i64 j)] ∧ okl l) ∧
           True ∧ True ∧ (∃ (b : Bool), [D.val (Value.bool !isb (9 : Int) t)] = [D.val (Value.bool b)]) ∧ True ∧ (false = false ∧ True) ∧ D.ints IntKind.u8 [bif !isb (9 : Int) t then (1 : Int) else (0 : Int)] = F
          | false => True ∧ (∃ (b : Bool), [D.val (Value.bool false)] = [D.val (Value.bool b)]) ∧ True ∧ (false = false ∧ True) ∧ D.ints IntKind.u8 [(0 : Int)] = F
         | false => True ∧ True ∧ True ∧ (∃ (b : Bool), [D.val (Value.bool false)] = [D.val (Value.bool b)]) ∧ True ∧ (false = false ∧ True) ∧ D.ints IntKind.u8 [(0 : Int)] = F
        | false => (∃ (b : Bool), [D.val (Value.bool false)] = [D.val (Value.bool b)]) ∧ True ∧ (false = false ∧ True) ∧ D.ints IntKind.u8 [(0 : Int)] = F
    | false =>
     True ∧
     True ∧
     match k == (9 : Int) with
     | true => (∃ (b : Bool), [D.val (Value.bool true)] = [D.val (Value.bool b)]) ∧ True ∧ (false = false ∧ True) ∧ D.ints IntKind.u8 [(1 : Int)] = F
     | false =>
      True ∧
      True ∧
      match k == (12 : Int) with
      | true => True ∧ (∃ (b_1 : Bool), [D.val (Value.bool b)] = [D.val (Value.bool b_1)]) ∧ True ∧ (false = false ∧ True) ∧ D.ints IntKind.u8 [bif b then (1 : Int) else (0 : Int)] = F
      | false =>
       True ∧
       True ∧
       match k == (10 : Int) with
       | true =>
        True ∧
        True ∧
        match b with
        | true =>
         True ∧
         (∃ (l : List D), ∃ (j : Int), [D.slc (2 : Nat) t, D.val (Value.int IntKind.i64 (8 : Int))] = [D.slc (2 : Nat) l, D.val (Value.int IntKind.i64 j)] ∧ okl l) ∧
         True ∧ (∃ (b : Bool), [D.val (Value.bool (isb (8 : Int) t))] = [D.val (Value.bool b)]) ∧ True ∧ (false = false ∧ True) ∧ D.ints IntKind.u8 [bif isb (8 : Int) t then (1 : Int) else (0 : Int)] = F
        | false => True ∧ (∃ (b : Bool), [D.val (Value.bool false)] = [D.val (Value.bool b)]) ∧ True ∧ (false = false ∧ True) ∧ D.ints IntKind.u8 [(0 : Int)] = F
       | false =>
        True ∧
        True ∧
        match k == (11 : Int) with
        | true =>
         True ∧
         True ∧
         match b with
         | true =>
          True ∧
          True ∧
          True ∧
          match has (9 : Int) t with
          | true =>
           True ∧
           (∃ (l : List D), ∃ (j : Int), [D.slc (2 : Nat) t, D.val (Value.int IntKind.i64 (9 : Int))] = [D.slc (2 : Nat) l, D.val (Value.int IntKind.i64 j)] ∧ okl l) ∧
           True ∧ True ∧ (∃ (b : Bool), [D.val (Value.bool !isb (9 : Int) t)] = [D.val (Value.bool b)]) ∧ True ∧ (false = false ∧ True) ∧ D.ints IntKind.u8 [bif !isb (9 : Int) t then (1 : Int) else (0 : Int)] = F
          | false => True ∧ (∃ (b : Bool), [D.val (Value.bool false)] = [D.val (Value.bool b)]) ∧ True ∧ (false = false ∧ True) ∧ D.ints IntKind.u8 [(0 : Int)] = F
         | false => True ∧ True ∧ True ∧ (∃ (b : Bool), [D.val (Value.bool false)] = [D.val (Value.bool b)]) ∧ True ∧ (false = false ∧ True) ∧ D.ints IntKind.u8 [(0 : Int)] = F
        | false => (∃ (b : Bool), [D.val (Value.bool false)] = [D.val (Value.bool b)]) ∧ True ∧ (false = false ∧ True) ∧ D.ints IntKind.u8 [(0 : Int)] = F
 | false =>
  True ∧
  True ∧
  match k == (3 : Int) with
  | true => True ∧ (false = false ∧ True) ∧ D.ints IntKind.u8 [] = F
  | false =>
   True ∧
   True ∧
   match k == (6 : Int) with
   | true =>
    True ∧
    True ∧
    True ∧
    match c == (2 : Int) with
    | true => True ∧ (∃ (b : Bool), [D.val (Value.bool true)] = [D.val (Value.bool b)]) ∧ True ∧ (false = false ∧ True) ∧ D.ints IntKind.u8 [(1 : Int)] = F
    | false => True ∧ True ∧ True ∧ (∃ (b : Bool), [D.val (Value.bool (c == (4 : Int)))] = [D.val (Value.bool b)]) ∧ True ∧ (false = false ∧ True) ∧ D.ints IntKind.u8 [bif c == (4 : Int) then (1 : Int) else (0 : Int)] = F
   | false =>
    True ∧
    True ∧
    match k == (7 : Int) with
    | true =>
     match k == (7 : Int) with
     | true => (∃ (b : Bool), [D.val (Value.bool true)] = [D.val (Value.bool b)]) ∧ True ∧ (false = false ∧ True) ∧ D.ints IntKind.u8 [(1 : Int)] = F
     | false =>
      True ∧
      True ∧
      match k == (12 : Int) with
      | true => True ∧ (∃ (b_1 : Bool), [D.val (Value.bool b)] = [D.val (Value.bool b_1)]) ∧ True ∧ (false = false ∧ True) ∧ D.ints IntKind.u8 [bif b then (1 : Int) else (0 : Int)] = F
      | false =>
       True ∧
       True ∧
       match k == (10 : Int) with
       | true =>
        True ∧
        True ∧
        match b with
        | true =>
         True ∧
         (∃ (l : List D), ∃ (j : Int), [D.slc (2 : Nat) t, D.val (Value.int IntKind.i64 (8 : Int))] = [D.slc (2 : Nat) l, D.val (Value.int IntKind.i64 j)] ∧ okl l) ∧
         True ∧ (∃ (b : Bool), [D.val (Value.bool (isb (8 : Int) t))] = [D.val (Value.bool b)]) ∧ True ∧ (false = false ∧ True) ∧ D.ints IntKind.u8 [bif isb (8 : Int) t then (1 : Int) else (0 : Int)] = F
        | false => True ∧ (∃ (b : Bool), [D.val (Value.bool false)] = [D.val (Value.bool b)]) ∧ True ∧ (false = false ∧ True) ∧ D.ints IntKind.u8 [(0 : Int)] = F
       | false =>
        True ∧
        True ∧
        match k == (11 : Int) with
        | true =>
         True ∧
         True ∧
         match b with
         | true =>
          True ∧
          True ∧
          True ∧
          match has (9 : Int) t with
          | true =>
           True ∧
           (∃ (l : List D), ∃ (j : Int), [D.slc (2 : Nat) t, D.val (Value.int IntKind.i64 (9 : Int))] = [D.slc (2 : Nat) l, D.val (Value.int IntKind.i64 j)] ∧ okl l) ∧
           True ∧ True ∧ (∃ (b : Bool), [D.val (Value.bool !isb (9 : Int) t)] = [D.val (Value.bool b)]) ∧ True ∧ (false = false ∧ True) ∧ D.ints IntKind.u8 [bif !isb (9 : Int) t then (1 : Int) else (0 : Int)] = F
          | false => True ∧ (∃ (b : Bool), [D.val (Value.bool false)] = [D.val (Value.bool b)]) ∧ True ∧ (false = false ∧ True) ∧ D.ints IntKind.u8 [(0 : Int)] = F
         | false => True ∧ True ∧ True ∧ (∃ (b : Bool), [D.val (Value.bool false)] = [D.val (Value.bool b)]) ∧ True ∧ (false = false ∧ True) ∧ D.ints IntKind.u8 [(0 : Int)] = F
        | false => (∃ (b : Bool), [D.val (Value.bool false)] = [D.val (Value.bool b)]) ∧ True ∧ (false = false ∧ True) ∧ D.ints IntKind.u8 [(0 : Int)] = F
    | false =>
     True ∧
     True ∧
     match k == (9 : Int) with
     | true => (∃ (b : Bool), [D.val (Value.bool true)] = [D.val (Value.bool b)]) ∧ True ∧ (false = false ∧ True) ∧ D.ints IntKind.u8 [(1 : Int)] = F
     | false =>
      True ∧
      True ∧
      match k == (12 : Int) with
      | true => True ∧ (∃ (b_1 : Bool), [D.val (Value.bool b)] = [D.val (Value.bool b_1)]) ∧ True ∧ (false = false ∧ True) ∧ D.ints IntKind.u8 [bif b then (1 : Int) else (0 : Int)] = F
      | false =>
       True ∧
       True ∧
       match k == (10 : Int) with
       | true =>
        True ∧
        True ∧
        match b with
        | true =>
         True ∧
         (∃ (l : List D), ∃ (j : Int), [D.slc (2 : Nat) t, D.val (Value.int IntKind.i64 (8 : Int))] = [D.slc (2 : Nat) l, D.val (Value.int IntKind.i64 j)] ∧ okl l) ∧
         True ∧ (∃ (b : Bool), [D.val (Value.bool (isb (8 : Int) t))] = [D.val (Value.bool b)]) ∧ True ∧ (false = false ∧ True) ∧ D.ints IntKind.u8 [bif isb (8 : Int) t then (1 : Int) else (0 : Int)] = F
        | false => True ∧ (∃ (b : Bool), [D.val (Value.bool false)] = [D.val (Value.bool b)]) ∧ True ∧ (false = false ∧ True) ∧ D.ints IntKind.u8 [(0 : Int)] = F
       | false =>
        True ∧
        True ∧
        match k == (11 : Int) with
        | true =>
         True ∧
         True ∧
         match b with
         | true =>
          True ∧
          True ∧
          True ∧
          match has (9 : Int) t with
          | true =>
           True ∧
           (∃ (l : List D), ∃ (j : Int), [D.slc (2 : Nat) t, D.val (Value.int IntKind.i64 (9 : Int))] = [D.slc (2 : Nat) l, D.val (Value.int IntKind.i64 j)] ∧ okl l) ∧
           True ∧ True ∧ (∃ (b : Bool), [D.val (Value.bool !isb (9 : Int) t)] = [D.val (Value.bool b)]) ∧ True ∧ (false = false ∧ True) ∧ D.ints IntKind.u8 [bif !isb (9 : Int) t then (1 : Int) else (0 : Int)] = F
          | false => True ∧ (∃ (b : Bool), [D.val (Value.bool false)] = [D.val (Value.bool b)]) ∧ True ∧ (false = false ∧ True) ∧ D.ints IntKind.u8 [(0 : Int)] = F
         | false => True ∧ True ∧ True ∧ (∃ (b : Bool), [D.val (Value.bool false)] = [D.val (Value.bool b)]) ∧ True ∧ (false = false ∧ True) ∧ D.ints IntKind.u8 [(0 : Int)] = F
        | false => (∃ (b : Bool), [D.val (Value.bool false)] = [D.val (Value.bool b)]) ∧ True ∧ (false = false ∧ True) ∧ D.ints IntKind.u8 [(0 : Int)] = F) := by kernel_rfl
set_option maxRecDepth 100000 in
theorem vc12  (t : List D) (b : Bool) (F : D)  :
    (owed c12 (inv12 t b) Try.f12 [.slc 2 t, bl b] F) = (
 True ∧
 True ∧
 True ∧
 (∃ (l : List D), [D.slc (2 : Nat) t] = [D.slc (2 : Nat) l] ∧ okl l) ∧
 True ∧
 True ∧
 True ∧
 match afE t != (0 : Int) with
 | true => True ∧ True ∧ True ∧ (false = false ∧ false = false ∧ True) ∧ D.tup [D.slc (2 : Nat) [], D.val (Value.int IntKind.i64 (afE t))] = F
 | false =>
  True ∧
  (∃ (l : List D), [D.slc (2 : Nat) t] = [D.slc (2 : Nat) l] ∧ okl l) ∧
  True ∧
  True ∧
  True ∧
  match clP t == (0 : Int) with
  | true => True ∧ True ∧ (false = false ∧ false = false ∧ True) ∧ D.tup [D.slc (2 : Nat) [], D.val (Value.int IntKind.i64 (1 : Int))] = F
  | false =>
   True ∧
   (∃ (c : Int), [D.val (Value.int IntKind.u8 (clP t))] = [D.val (Value.int IntKind.u8 c)]) ∧
   True ∧
   True ∧
   True ∧
   True ∧
   (((AV.d (D.val (Value.int IntKind.i64 (0 : Int))) = AV.d (D.val (Value.int IntKind.i64 (↑(Int.toNat (0 : Int)) : Int))) ∧ True) ∧ True ∧ true = true) ∧ Int.toNat (0 : Int) ≤ t.length ∧ tkN t (Int.toNat (0 : Int)) = (0 : Int)) ∧
   ∀ (x : Nat),
   x ≤ t.length ∧ tkN t x = (0 : Int) →
   true = true ∧
   True ∧
   match decide ((↑x : Int) < (↑t.length : Int)) with
   | true =>
    ((0 : Int) ≤ (↑x : Int) ∧
    (↑x : Int) < (↑t.length : Int) ∧
    (2 : Nat) ≠ (0 : Nat) ∧ (2 : Nat) = (2 : Nat) ∧ D.st [D.val (Value.int IntKind.i64 (numOf (fldOf (t.getD (↑x : Int).toNat (D.val (Value.bool false))) (0 : Nat)))), D.ints IntKind.u8 (intsOf (fldOf (t.getD (↑x : Int).toNat (D.val (Value.bool false))) (1 : Nat)))] = t.getD (↑x : Int).toNat (D.val (Value.bool false))) ∧
    ((2 : Nat) ≠ (0 : Nat) ∧ (2 : Nat) = (2 : Nat) ∧ true = true) ∧
    (True ∧ (2 : Nat) ≠ (0 : Nat)) ∧
    (Sk.st [Sk.one, Sk.one] = Sk.st [Sk.one, Sk.one] ∧ (2 : Nat) ≠ (0 : Nat) ∧ (2 : Nat) = (2 : Nat) ∧ false = false) ∧
    True ∧
    (Sk.st [Sk.one, Sk.one] = Sk.st [Sk.one, Sk.one] ∧ (0 : Nat) < (2 : Nat)) ∧
    ((1 : Nat) ≠ (0 : Nat) ∧ (1 : Nat) = (1 : Nat) ∧ false = false) ∧
    (∃ (ks : List Int), ∃ (k : Int), [D.ints IntKind.i64 (kdL (clP t)), D.val (Value.int IntKind.i64 (numOf (fldOf (t.getD (↑x : Int).toNat (D.val (Value.bool false))) (0 : Nat))))] = [D.ints IntKind.i64 ks, D.val (Value.int IntKind.i64 k)] ∧ okn ks.length) ∧
    True ∧
    match !mmB (numOf (fldOf (t.getD (↑x : Int).toNat (D.val (Value.bool false))) (0 : Nat))) (kdL (clP t)) with
    | true => True ∧ True ∧ (false = false ∧ false = false ∧ True) ∧ D.tup [D.slc (2 : Nat) [], D.val (Value.int IntKind.i64 (13 : Int))] = F
    | false =>
     (Sk.st [Sk.one, Sk.one] = Sk.st [Sk.one, Sk.one] ∧ (0 : Nat) < (2 : Nat)) ∧
     ((1 : Nat) ≠ (0 : Nat) ∧ (1 : Nat) = (1 : Nat) ∧ false = false) ∧
     True ∧
     True ∧
     match numOf (fldOf (t.getD (↑x : Int).toNat (D.val (Value.bool false))) (0 : Nat)) == (10 : Int) with
     | true => True ∧ True ∧ True ∧ True ∧ True ∧ (false = false ∧ false = false ∧ True) ∧ D.tup [D.slc (2 : Nat) [], D.val (Value.int IntKind.i64 (12 : Int))] = F
     | false =>
      (Sk.st [Sk.one, Sk.one] = Sk.st [Sk.one, Sk.one] ∧ (0 : Nat) < (2 : Nat)) ∧
      ((1 : Nat) ≠ (0 : Nat) ∧ (1 : Nat) = (1 : Nat) ∧ false = false) ∧
      True ∧
      True ∧
      True ∧
      match numOf (fldOf (t.getD (↑x : Int).toNat (D.val (Value.bool false))) (0 : Nat)) == (11 : Int) with
      | true => True ∧ True ∧ True ∧ (false = false ∧ false = false ∧ True) ∧ D.tup [D.slc (2 : Nat) [], D.val (Value.int IntKind.i64 (12 : Int))] = F
      | false =>
       (Sk.st [Sk.one, Sk.one] = Sk.st [Sk.one, Sk.one] ∧ (0 : Nat) < (2 : Nat)) ∧
       ((1 : Nat) ≠ (0 : Nat) ∧ (1 : Nat) = (1 : Nat) ∧ false = false) ∧
       True ∧
       True ∧
       match numOf (fldOf (t.getD (↑x : Int).toNat (D.val (Value.bool false))) (0 : Nat)) == (12 : Int) with
       | true => True ∧ True ∧ (false = false ∧ false = false ∧ True) ∧ D.tup [D.slc (2 : Nat) [], D.val (Value.int IntKind.i64 (12 : Int))] = F
       | false =>
        True ∧
        True ∧
        ((AV.d (D.val (Value.int IntKind.i64 (IntKind.i64.wrap ((↑x : Int) + (1 : Int))))) = AV.d (D.val (Value.int IntKind.i64 (↑(IntKind.i64.wrap ((↑x : Int) + (1 : Int))).toNat : Int))) ∧ True) ∧ True ∧ true = true) ∧
        ((IntKind.i64.wrap ((↑x : Int) + (1 : Int))).toNat ≤ t.length ∧ tkN t (IntKind.i64.wrap ((↑x : Int) + (1 : Int))).toNat = (0 : Int)) ∧ t.length - (IntKind.i64.wrap ((↑x : Int) + (1 : Int))).toNat < t.length - x
   | false =>
    True ∧
    (∃ (l : List D), ∃ (j : Int), [D.slc (2 : Nat) t, D.val (Value.int IntKind.i64 (4 : Int))] = [D.slc (2 : Nat) l, D.val (Value.int IntKind.i64 j)] ∧ okl l) ∧
    True ∧
    ((0 : Nat) < (2 : Nat) ∧ false = false) ∧
    ((1 : Nat) < (2 : Nat) ∧ false = false) ∧
    True ∧
    True ∧
    True ∧
    True ∧
    match !has (4 : Int) t with
    | true => True ∧ True ∧ (false = false ∧ false = false ∧ True) ∧ D.tup [D.slc (2 : Nat) [], D.val (Value.int IntKind.i64 (3 : Int))] = F
    | false =>
     True ∧
     True ∧
     True ∧
     (∃ (c : Int), ∃ (n : Nat), [D.val (Value.int IntKind.u8 (clP t)), D.val (Value.int IntKind.i64 (↑(vl (4 : Int) t).length : Int))] = [D.val (Value.int IntKind.u8 c), D.val (Value.int IntKind.i64 (↑n : Int))]) ∧
     True ∧
     match !szP (clP t) (↑(vl (4 : Int) t).length : Int).toNat with
     | true => True ∧ True ∧ (false = false ∧ false = false ∧ True) ∧ D.tup [D.slc (2 : Nat) [], D.val (Value.int IntKind.i64 (4 : Int))] = F
     | false =>
      (2 : Nat) ≠ (0 : Nat) ∧
      True ∧
      True ∧
      True ∧
      (((AV.d (D.val (Value.int IntKind.i64 (0 : Int))) = AV.d (D.val (Value.int IntKind.i64 (↑(Int.toNat (0 : Int)) : Int))) ∧ sm (AV.row (13 : Nat)) ∧ True) ∧
      (some (Blk.row (83 : TypeId) (D.slc (2 : Nat) [])) = some (Blk.row (83 : TypeId) (D.slc (2 : Nat) (List.take (Int.toNat (0 : Int)) (ouL t b)))) ∧ True) ∧ true = true) ∧
      Int.toNat (0 : Int) ≤ (kdL (clP t)).length) ∧
      ∀ (x : Nat),
      x ≤ (kdL (clP t)).length →
      true = true ∧
      True ∧
      match decide ((↑x : Int) < (↑(kdL (clP t)).length : Int)) with
      | true =>
       ((0 : Int) ≤ (↑x : Int) ∧ (↑x : Int) < (↑(kdL (clP t)).length : Int) ∧ (1 : Nat) = (1 : Nat)) ∧
       ((1 : Nat) ≠ (0 : Nat) ∧ (1 : Nat) = (1 : Nat) ∧ false = false) ∧
       True ∧
       True ∧
       True ∧
       (∃ (l : List D), ∃ (j : Int), [D.slc (2 : Nat) t, D.val (Value.int IntKind.i64 ((kdL (clP t)).getD (↑x : Int).toNat (0 : Int)))] = [D.slc (2 : Nat) l, D.val (Value.int IntKind.i64 j)] ∧ okl l) ∧
       True ∧
       ((0 : Nat) < (2 : Nat) ∧ false = false) ∧
       ((1 : Nat) < (2 : Nat) ∧ false = false) ∧
       True ∧
       True ∧
       True ∧
       True ∧
       match !has ((kdL (clP t)).getD (↑x : Int).toNat (0 : Int)) t with
       | true =>
        True ∧
        True ∧
        True ∧
        True ∧
        (∃ (t_1 : List D),
        ∃ (k : Int),
        ∃ (c : Int),
        ∃ (b_1 : Bool),
        [D.slc (2 : Nat) t, D.val (Value.int IntKind.i64 ((kdL (clP t)).getD (↑x : Int).toNat (0 : Int))), D.val (Value.int IntKind.u8 (clP t)), D.val (Value.bool b)] =
        [D.slc (2 : Nat) t_1, D.val (Value.int IntKind.i64 k), D.val (Value.int IntKind.u8 c), D.val (Value.bool b_1)] ∧
        okl t_1) ∧
        True ∧
        True ∧
        True ∧
        True ∧
        (false = false ∧ ((0 : Nat) < (2 : Nat) ∧ sm (sk (D.val (Value.int IntKind.i64 (0 : Int))))) ∧ false = false ∧ ((1 : Nat) < (2 : Nat) ∧ sm (sk (D.ints IntKind.u8 []))) ∧ True) ∧
        ((1 : Nat) ≤ (4096 : Nat) ∧ (2 : Nat) ≤ (256 : Nat) ∧ (2 : Nat) ≠ (0 : Nat)) ∧
        ((83 : TypeId) = (83 : TypeId) ∧
        (32 : Nat) = (32 : Nat) ∧
        true = true ∧
        (List.take x (ouL t b) ++ [D.st [D.val (Value.int IntKind.i64 ((kdL (clP t)).getD (↑x : Int).toNat (0 : Int))), D.ints IntKind.u8 (msL t ((kdL (clP t)).getD (↑x : Int).toNat (0 : Int)) (clP t) b)]]).length ≤ (140737488355328 : Nat) ∧
        (List.take x (ouL t b) ++ [D.st [D.val (Value.int IntKind.i64 ((kdL (clP t)).getD (↑x : Int).toNat (0 : Int))), D.ints IntKind.u8 (msL t ((kdL (clP t)).getD (↑x : Int).toNat (0 : Int)) (clP t) b)]]).length * (32 : Nat) ≤
        (140737488355328 : Nat) ∧
        (2 : Nat) ≠ (0 : Nat) ∧ (2 : Nat) = (2 : Nat)) ∧
        True ∧
        True ∧
        True ∧
        ((AV.d (D.val (Value.int IntKind.i64 (IntKind.i64.wrap ((↑x : Int) + (1 : Int))))) = AV.d (D.val (Value.int IntKind.i64 (↑(IntKind.i64.wrap ((↑x : Int) + (1 : Int))).toNat : Int))) ∧ sm (AV.row (13 : Nat)) ∧ True) ∧
        (some
        (Blk.row (83 : TypeId)
        (D.slc (2 : Nat) (List.take x (ouL t b) ++ [D.st [D.val (Value.int IntKind.i64 ((kdL (clP t)).getD (↑x : Int).toNat (0 : Int))), D.ints IntKind.u8 (msL t ((kdL (clP t)).getD (↑x : Int).toNat (0 : Int)) (clP t) b)]]))) =
        some (Blk.row (83 : TypeId) (D.slc (2 : Nat) (List.take (IntKind.i64.wrap ((↑x : Int) + (1 : Int))).toNat (ouL t b)))) ∧
        True) ∧
        true = true) ∧
        (IntKind.i64.wrap ((↑x : Int) + (1 : Int))).toNat ≤ (kdL (clP t)).length ∧ (kdL (clP t)).length - (IntKind.i64.wrap ((↑x : Int) + (1 : Int))).toNat < (kdL (clP t)).length - x
       | false =>
        True ∧
        True ∧
        True ∧
        (false = false ∧ ((0 : Nat) < (2 : Nat) ∧ sm (sk (D.val (Value.int IntKind.i64 (0 : Int))))) ∧ false = false ∧ ((1 : Nat) < (2 : Nat) ∧ sm (sk (D.ints IntKind.u8 []))) ∧ True) ∧
        ((1 : Nat) ≤ (4096 : Nat) ∧ (2 : Nat) ≤ (256 : Nat) ∧ (2 : Nat) ≠ (0 : Nat)) ∧
        ((83 : TypeId) = (83 : TypeId) ∧
        (32 : Nat) = (32 : Nat) ∧
        true = true ∧
        (List.take x (ouL t b) ++ [D.st [D.val (Value.int IntKind.i64 ((kdL (clP t)).getD (↑x : Int).toNat (0 : Int))), D.ints IntKind.u8 (vl ((kdL (clP t)).getD (↑x : Int).toNat (0 : Int)) t)]]).length ≤ (140737488355328 : Nat) ∧
        (List.take x (ouL t b) ++ [D.st [D.val (Value.int IntKind.i64 ((kdL (clP t)).getD (↑x : Int).toNat (0 : Int))), D.ints IntKind.u8 (vl ((kdL (clP t)).getD (↑x : Int).toNat (0 : Int)) t)]]).length * (32 : Nat) ≤ (140737488355328 : Nat) ∧
        (2 : Nat) ≠ (0 : Nat) ∧ (2 : Nat) = (2 : Nat)) ∧
        True ∧
        True ∧
        True ∧
        ((AV.d (D.val (Value.int IntKind.i64 (IntKind.i64.wrap ((↑x : Int) + (1 : Int))))) = AV.d (D.val (Value.int IntKind.i64 (↑(IntKind.i64.wrap ((↑x : Int) + (1 : Int))).toNat : Int))) ∧ sm (AV.row (13 : Nat)) ∧ True) ∧
        (some (Blk.row (83 : TypeId) (D.slc (2 : Nat) (List.take x (ouL t b) ++ [D.st [D.val (Value.int IntKind.i64 ((kdL (clP t)).getD (↑x : Int).toNat (0 : Int))), D.ints IntKind.u8 (vl ((kdL (clP t)).getD (↑x : Int).toNat (0 : Int)) t)]]))) =
        some (Blk.row (83 : TypeId) (D.slc (2 : Nat) (List.take (IntKind.i64.wrap ((↑x : Int) + (1 : Int))).toNat (ouL t b)))) ∧
        True) ∧
        true = true) ∧
        (IntKind.i64.wrap ((↑x : Int) + (1 : Int))).toNat ≤ (kdL (clP t)).length ∧ (kdL (clP t)).length - (IntKind.i64.wrap ((↑x : Int) + (1 : Int))).toNat < (kdL (clP t)).length - x
      | false =>
       True ∧
       (∃ (l : List D), [D.slc (2 : Nat) (List.take x (ouL t b))] = [D.slc (2 : Nat) l] ∧ okl l) ∧
       True ∧
       match !valB (List.take x (ouL t b)) with
       | true => True ∧ True ∧ (false = false ∧ false = false ∧ True) ∧ D.tup [D.slc (2 : Nat) [], D.val (Value.int IntKind.i64 (12 : Int))] = F
       | false => True ∧ True ∧ True ∧ (false = false ∧ false = false ∧ True) ∧ D.tup [D.slc (2 : Nat) (List.take x (ouL t b)), D.val (Value.int IntKind.i64 (0 : Int))] = F) := by kernel_rfl
set_option maxRecDepth 100000 in
theorem vc13  (t : List D) (b : Bool) (F : D)  :
    (owed c13 (inv13 t) Try.f13 [.slc 2 t, bl b] F) = (
 (True ∧ (38 : Nat) ≠ (0 : Nat)) ∧
 True ∧
 True ∧
 (∃ (l : List D), [D.slc (2 : Nat) t] = [D.slc (2 : Nat) l] ∧ okl l) ∧
 True ∧
 True ∧
 True ∧
 match afE t != (0 : Int) with
 | true =>
  True ∧
  True ∧
  (Sk.st [Sk.st [Sk.one, Sk.one, Sk.one, Sk.one, Sk.one, Sk.one, Sk.one, Sk.one, Sk.one, Sk.one, Sk.one, Sk.one, Sk.one, Sk.one, Sk.one, Sk.one, Sk.one, Sk.one, Sk.one], Sk.st [Sk.one, Sk.one, Sk.one, Sk.one, Sk.one, Sk.one, Sk.one, Sk.one, Sk.one, Sk.one, Sk.one, Sk.one, Sk.one, Sk.one, Sk.one, Sk.one, Sk.one, Sk.one, Sk.one]] =
  Sk.st [Sk.st [Sk.one, Sk.one, Sk.one, Sk.one, Sk.one, Sk.one, Sk.one, Sk.one, Sk.one, Sk.one, Sk.one, Sk.one, Sk.one, Sk.one, Sk.one, Sk.one, Sk.one, Sk.one, Sk.one], Sk.st [Sk.one, Sk.one, Sk.one, Sk.one, Sk.one, Sk.one, Sk.one, Sk.one, Sk.one, Sk.one, Sk.one, Sk.one, Sk.one, Sk.one, Sk.one, Sk.one, Sk.one, Sk.one, Sk.one]] ∧
  (38 : Nat) ≠ (0 : Nat) ∧ (38 : Nat) = (38 : Nat) ∧ false = false) ∧
  True ∧
  (((38 : Nat) ≠ (0 : Nat) ∧ (38 : Nat) = (38 : Nat) ∧ true = true) ∧ false = false ∧ True) ∧
  D.tup
  [D.st
  [D.st
  [D.val (Value.bool false), D.val (Value.bool false), D.val (Value.bool false), D.val (Value.bool false), D.val (Value.bool false), D.val (Value.bool false), D.val (Value.bool false), D.val (Value.bool false), D.val (Value.bool false), D.val (Value.bool false), D.val (Value.bool false), D.val (Value.bool false), D.val (Value.bool false),
  D.val (Value.bool false), D.val (Value.bool false), D.val (Value.bool false), D.val (Value.bool false), D.val (Value.bool false), D.val (Value.bool false)],
  D.st [D.str [], D.str [], D.str [], D.str [], D.str [], D.str [], D.str [], D.str [], D.str [], D.str [], D.str [], D.str [], D.str [], D.str [], D.str [], D.str [], D.str [], D.str [], D.str []]],
  D.val (Value.int IntKind.i64 (afE t))] =
  F
 | false =>
  True ∧
  (∃ (l : List D), [D.slc (2 : Nat) t] = [D.slc (2 : Nat) l] ∧ okl l) ∧
  (True ∧ (38 : Nat) ≠ (0 : Nat)) ∧
  (sm
  (sk
  (D.st
  [D.st
  [D.val (Value.bool false), D.val (Value.bool false), D.val (Value.bool false), D.val (Value.bool false), D.val (Value.bool false), D.val (Value.bool false), D.val (Value.bool false), D.val (Value.bool false), D.val (Value.bool false), D.val (Value.bool false), D.val (Value.bool false), D.val (Value.bool false), D.val (Value.bool false),
  D.val (Value.bool false), D.val (Value.bool false), D.val (Value.bool false), D.val (Value.bool false), D.val (Value.bool false), D.val (Value.bool false)],
  D.st [D.str [], D.str [], D.str [], D.str [], D.str [], D.str [], D.str [], D.str [], D.str [], D.str [], D.str [], D.str [], D.str [], D.str [], D.str [], D.str [], D.str [], D.str [], D.str []]])) ∧
  (38 : Nat) ≠ (0 : Nat) ∧ (38 : Nat) = (38 : Nat) ∧ false = false) ∧
  ((38 : Nat) ≠ (0 : Nat) ∧ (38 : Nat) = (38 : Nat) ∧ true = true) ∧
  (∃ (h : Nat → Bool), ∃ (v : Nat → List Int), [D.st [D.st (hL (cH t)), D.st (vL (cV t))]] = [D.st [D.st (hL h), D.st (vL v)]] ∧ okc v) ∧
  True ∧
  True ∧
  True ∧
  match clX (vL (cV t)) == (0 : Int) with
  | true =>
   True ∧
   (Sk.st [Sk.st [Sk.one, Sk.one, Sk.one, Sk.one, Sk.one, Sk.one, Sk.one, Sk.one, Sk.one, Sk.one, Sk.one, Sk.one, Sk.one, Sk.one, Sk.one, Sk.one, Sk.one, Sk.one, Sk.one], Sk.st [Sk.one, Sk.one, Sk.one, Sk.one, Sk.one, Sk.one, Sk.one, Sk.one, Sk.one, Sk.one, Sk.one, Sk.one, Sk.one, Sk.one, Sk.one, Sk.one, Sk.one, Sk.one, Sk.one]] =
   Sk.st [Sk.st [Sk.one, Sk.one, Sk.one, Sk.one, Sk.one, Sk.one, Sk.one, Sk.one, Sk.one, Sk.one, Sk.one, Sk.one, Sk.one, Sk.one, Sk.one, Sk.one, Sk.one, Sk.one, Sk.one], Sk.st [Sk.one, Sk.one, Sk.one, Sk.one, Sk.one, Sk.one, Sk.one, Sk.one, Sk.one, Sk.one, Sk.one, Sk.one, Sk.one, Sk.one, Sk.one, Sk.one, Sk.one, Sk.one, Sk.one]] ∧
   (38 : Nat) ≠ (0 : Nat) ∧ (38 : Nat) = (38 : Nat) ∧ false = false) ∧
   True ∧
   (((38 : Nat) ≠ (0 : Nat) ∧ (38 : Nat) = (38 : Nat) ∧ true = true) ∧ false = false ∧ True) ∧
   D.tup
   [D.st
   [D.st
   [D.val (Value.bool false), D.val (Value.bool false), D.val (Value.bool false), D.val (Value.bool false), D.val (Value.bool false), D.val (Value.bool false), D.val (Value.bool false), D.val (Value.bool false), D.val (Value.bool false), D.val (Value.bool false), D.val (Value.bool false), D.val (Value.bool false), D.val (Value.bool false),
   D.val (Value.bool false), D.val (Value.bool false), D.val (Value.bool false), D.val (Value.bool false), D.val (Value.bool false), D.val (Value.bool false)],
   D.st [D.str [], D.str [], D.str [], D.str [], D.str [], D.str [], D.str [], D.str [], D.str [], D.str [], D.str [], D.str [], D.str [], D.str [], D.str [], D.str [], D.str [], D.str [], D.str []]],
   D.val (Value.int IntKind.i64 (1 : Int))] =
   F
  | false =>
   True ∧
   True ∧
   True ∧
   (((AV.d (D.val (Value.int IntKind.i64 (0 : Int))) = AV.d (D.val (Value.int IntKind.i64 (↑(Int.toNat (0 : Int)) : Int))) ∧ True) ∧
   (sm
   (some
   (Blk.fix
   (D.st
   [D.st
   [D.val (Value.bool false), D.val (Value.bool false), D.val (Value.bool false), D.val (Value.bool false), D.val (Value.bool false), D.val (Value.bool false), D.val (Value.bool false), D.val (Value.bool false), D.val (Value.bool false), D.val (Value.bool false), D.val (Value.bool false), D.val (Value.bool false),
   D.val (Value.bool false), D.val (Value.bool false), D.val (Value.bool false), D.val (Value.bool false), D.val (Value.bool false), D.val (Value.bool false), D.val (Value.bool false)],
   D.st [D.str [], D.str [], D.str [], D.str [], D.str [], D.str [], D.str [], D.str [], D.str [], D.str [], D.str [], D.str [], D.str [], D.str [], D.str [], D.str [], D.str [], D.str [], D.str []]]))) ∧
   sm (some (Blk.fix (D.st [D.st (hL (cH t)), D.st (vL (cV t))]))) ∧ True) ∧
   true = true) ∧
   Int.toNat (0 : Int) ≤ t.length ∧ tkN t (Int.toNat (0 : Int)) = (0 : Int)) ∧
   ∀ (x : Nat),
   x ≤ t.length ∧ tkN t x = (0 : Int) →
   true = true ∧
   True ∧
   match decide ((↑x : Int) < (↑t.length : Int)) with
   | true =>
    ((0 : Int) ≤ (↑x : Int) ∧
    (↑x : Int) < (↑t.length : Int) ∧
    (2 : Nat) ≠ (0 : Nat) ∧ (2 : Nat) = (2 : Nat) ∧ D.st [D.val (Value.int IntKind.i64 (numOf (fldOf (t.getD (↑x : Int).toNat (D.val (Value.bool false))) (0 : Nat)))), D.ints IntKind.u8 (intsOf (fldOf (t.getD (↑x : Int).toNat (D.val (Value.bool false))) (1 : Nat)))] = t.getD (↑x : Int).toNat (D.val (Value.bool false))) ∧
    ((2 : Nat) ≠ (0 : Nat) ∧ (2 : Nat) = (2 : Nat) ∧ true = true) ∧
    (True ∧ (2 : Nat) ≠ (0 : Nat)) ∧
    (Sk.st [Sk.one, Sk.one] = Sk.st [Sk.one, Sk.one] ∧ (2 : Nat) ≠ (0 : Nat) ∧ (2 : Nat) = (2 : Nat) ∧ false = false) ∧
    True ∧
    (Sk.st [Sk.one, Sk.one] = Sk.st [Sk.one, Sk.one] ∧ (0 : Nat) < (2 : Nat)) ∧
    ((1 : Nat) ≠ (0 : Nat) ∧ (1 : Nat) = (1 : Nat) ∧ false = false) ∧
    (∃ (c : Int), ∃ (k : Int), [D.val (Value.int IntKind.i64 (clX (vL (cV t)))), D.val (Value.int IntKind.i64 (numOf (fldOf (t.getD (↑x : Int).toNat (D.val (Value.bool false))) (0 : Nat))))] = [D.val (Value.int IntKind.i64 c), D.val (Value.int IntKind.i64 k)]) ∧
    True ∧
    match !belB (clX (vL (cV t))) (numOf (fldOf (t.getD (↑x : Int).toNat (D.val (Value.bool false))) (0 : Nat))) with
    | true =>
     True ∧
     (Sk.st
     [Sk.st [Sk.one, Sk.one, Sk.one, Sk.one, Sk.one, Sk.one, Sk.one, Sk.one, Sk.one, Sk.one, Sk.one, Sk.one, Sk.one, Sk.one, Sk.one, Sk.one, Sk.one, Sk.one, Sk.one],
     Sk.st [Sk.one, Sk.one, Sk.one, Sk.one, Sk.one, Sk.one, Sk.one, Sk.one, Sk.one, Sk.one, Sk.one, Sk.one, Sk.one, Sk.one, Sk.one, Sk.one, Sk.one, Sk.one, Sk.one]] =
     Sk.st
     [Sk.st [Sk.one, Sk.one, Sk.one, Sk.one, Sk.one, Sk.one, Sk.one, Sk.one, Sk.one, Sk.one, Sk.one, Sk.one, Sk.one, Sk.one, Sk.one, Sk.one, Sk.one, Sk.one, Sk.one],
     Sk.st [Sk.one, Sk.one, Sk.one, Sk.one, Sk.one, Sk.one, Sk.one, Sk.one, Sk.one, Sk.one, Sk.one, Sk.one, Sk.one, Sk.one, Sk.one, Sk.one, Sk.one, Sk.one, Sk.one]] ∧
     (38 : Nat) ≠ (0 : Nat) ∧ (38 : Nat) = (38 : Nat) ∧ false = false) ∧
     True ∧
     (((38 : Nat) ≠ (0 : Nat) ∧ (38 : Nat) = (38 : Nat) ∧ true = true) ∧ false = false ∧ True) ∧
     D.tup
     [D.st
     [D.st
     [D.val (Value.bool false), D.val (Value.bool false), D.val (Value.bool false), D.val (Value.bool false), D.val (Value.bool false), D.val (Value.bool false), D.val (Value.bool false), D.val (Value.bool false), D.val (Value.bool false), D.val (Value.bool false), D.val (Value.bool false),
     D.val (Value.bool false), D.val (Value.bool false), D.val (Value.bool false), D.val (Value.bool false), D.val (Value.bool false), D.val (Value.bool false), D.val (Value.bool false), D.val (Value.bool false)],
     D.st [D.str [], D.str [], D.str [], D.str [], D.str [], D.str [], D.str [], D.str [], D.str [], D.str [], D.str [], D.str [], D.str [], D.str [], D.str [], D.str [], D.str [], D.str [], D.str []]],
     D.val (Value.int IntKind.i64 (13 : Int))] =
     F
    | false =>
     (Sk.st [Sk.one, Sk.one] = Sk.st [Sk.one, Sk.one] ∧ (0 : Nat) < (2 : Nat)) ∧
     ((1 : Nat) ≠ (0 : Nat) ∧ (1 : Nat) = (1 : Nat) ∧ false = false) ∧
     True ∧
     True ∧
     match decide (numOf (fldOf (t.getD (↑x : Int).toNat (D.val (Value.bool false))) (0 : Nat)) ≥ (10 : Int)) with
     | true =>
      (Sk.st [Sk.one, Sk.one] = Sk.st [Sk.one, Sk.one] ∧ (0 : Nat) < (2 : Nat)) ∧
      ((1 : Nat) ≠ (0 : Nat) ∧ (1 : Nat) = (1 : Nat) ∧ false = false) ∧
      True ∧
      True ∧
      match decide (numOf (fldOf (t.getD (↑x : Int).toNat (D.val (Value.bool false))) (0 : Nat)) ≤ (12 : Int)) with
      | true =>
       True ∧
       (Sk.st
       [Sk.st [Sk.one, Sk.one, Sk.one, Sk.one, Sk.one, Sk.one, Sk.one, Sk.one, Sk.one, Sk.one, Sk.one, Sk.one, Sk.one, Sk.one, Sk.one, Sk.one, Sk.one, Sk.one, Sk.one],
       Sk.st [Sk.one, Sk.one, Sk.one, Sk.one, Sk.one, Sk.one, Sk.one, Sk.one, Sk.one, Sk.one, Sk.one, Sk.one, Sk.one, Sk.one, Sk.one, Sk.one, Sk.one, Sk.one, Sk.one]] =
       Sk.st
       [Sk.st [Sk.one, Sk.one, Sk.one, Sk.one, Sk.one, Sk.one, Sk.one, Sk.one, Sk.one, Sk.one, Sk.one, Sk.one, Sk.one, Sk.one, Sk.one, Sk.one, Sk.one, Sk.one, Sk.one],
       Sk.st [Sk.one, Sk.one, Sk.one, Sk.one, Sk.one, Sk.one, Sk.one, Sk.one, Sk.one, Sk.one, Sk.one, Sk.one, Sk.one, Sk.one, Sk.one, Sk.one, Sk.one, Sk.one, Sk.one]] ∧
       (38 : Nat) ≠ (0 : Nat) ∧ (38 : Nat) = (38 : Nat) ∧ false = false) ∧
       True ∧
       (((38 : Nat) ≠ (0 : Nat) ∧ (38 : Nat) = (38 : Nat) ∧ true = true) ∧ false = false ∧ True) ∧
       D.tup
       [D.st
       [D.st
       [D.val (Value.bool false), D.val (Value.bool false), D.val (Value.bool false), D.val (Value.bool false), D.val (Value.bool false), D.val (Value.bool false), D.val (Value.bool false), D.val (Value.bool false), D.val (Value.bool false), D.val (Value.bool false),
       D.val (Value.bool false), D.val (Value.bool false), D.val (Value.bool false), D.val (Value.bool false), D.val (Value.bool false), D.val (Value.bool false), D.val (Value.bool false), D.val (Value.bool false), D.val (Value.bool false)],
       D.st [D.str [], D.str [], D.str [], D.str [], D.str [], D.str [], D.str [], D.str [], D.str [], D.str [], D.str [], D.str [], D.str [], D.str [], D.str [], D.str [], D.str [], D.str [], D.str []]],
       D.val (Value.int IntKind.i64 (12 : Int))] =
       F
      | false =>
       True ∧
       True ∧
       ((AV.d (D.val (Value.int IntKind.i64 (IntKind.i64.wrap ((↑x : Int) + (1 : Int))))) = AV.d (D.val (Value.int IntKind.i64 (↑(IntKind.i64.wrap ((↑x : Int) + (1 : Int))).toNat : Int))) ∧ True) ∧
       (sm
       (some
       (Blk.fix
       (D.st
       [D.st
       [D.val (Value.bool false), D.val (Value.bool false), D.val (Value.bool false), D.val (Value.bool false), D.val (Value.bool false), D.val (Value.bool false), D.val (Value.bool false), D.val (Value.bool false), D.val (Value.bool false), D.val (Value.bool false),
       D.val (Value.bool false), D.val (Value.bool false), D.val (Value.bool false), D.val (Value.bool false), D.val (Value.bool false), D.val (Value.bool false), D.val (Value.bool false), D.val (Value.bool false), D.val (Value.bool false)],
       D.st [D.str [], D.str [], D.str [], D.str [], D.str [], D.str [], D.str [], D.str [], D.str [], D.str [], D.str [], D.str [], D.str [], D.str [], D.str [], D.str [], D.str [], D.str [], D.str []]]))) ∧
       sm (some (Blk.fix (D.st [D.st (hL (cH t)), D.st (vL (cV t))]))) ∧ True) ∧
       true = true) ∧
       ((IntKind.i64.wrap ((↑x : Int) + (1 : Int))).toNat ≤ t.length ∧ tkN t (IntKind.i64.wrap ((↑x : Int) + (1 : Int))).toNat = (0 : Int)) ∧ t.length - (IntKind.i64.wrap ((↑x : Int) + (1 : Int))).toNat < t.length - x
     | false =>
      True ∧
      True ∧
      True ∧
      ((AV.d (D.val (Value.int IntKind.i64 (IntKind.i64.wrap ((↑x : Int) + (1 : Int))))) = AV.d (D.val (Value.int IntKind.i64 (↑(IntKind.i64.wrap ((↑x : Int) + (1 : Int))).toNat : Int))) ∧ True) ∧
      (sm
      (some
      (Blk.fix
      (D.st
      [D.st
      [D.val (Value.bool false), D.val (Value.bool false), D.val (Value.bool false), D.val (Value.bool false), D.val (Value.bool false), D.val (Value.bool false), D.val (Value.bool false), D.val (Value.bool false), D.val (Value.bool false), D.val (Value.bool false), D.val (Value.bool false),
      D.val (Value.bool false), D.val (Value.bool false), D.val (Value.bool false), D.val (Value.bool false), D.val (Value.bool false), D.val (Value.bool false), D.val (Value.bool false), D.val (Value.bool false)],
      D.st [D.str [], D.str [], D.str [], D.str [], D.str [], D.str [], D.str [], D.str [], D.str [], D.str [], D.str [], D.str [], D.str [], D.str [], D.str [], D.str [], D.str [], D.str [], D.str []]]))) ∧
      sm (some (Blk.fix (D.st [D.st (hL (cH t)), D.st (vL (cV t))]))) ∧ True) ∧
      true = true) ∧
      ((IntKind.i64.wrap ((↑x : Int) + (1 : Int))).toNat ≤ t.length ∧ tkN t (IntKind.i64.wrap ((↑x : Int) + (1 : Int))).toNat = (0 : Int)) ∧ t.length - (IntKind.i64.wrap ((↑x : Int) + (1 : Int))).toNat < t.length - x
   | false =>
    (sm (sk (tg c13.tab (40 : Nat)).zero) ∧ (0 : Nat) < (2 : Nat)) ∧
    ((0 : Int) ≤ (4 : Int) ∧ (4 : Int) < (↑(19 : Nat) : Int) ∧ (hL (cH t)).length = (19 : Nat) ∧ ones (hL (cH t)) ∧ (1 : Nat) = (1 : Nat)) ∧
    (((1 : Nat) ≠ (0 : Nat) ∧ (1 : Nat) = (1 : Nat) ∧ false = false) ∧ D.val (Value.bool (cH t (4 : Nat))) = (hL (cH t)).getD (4 : Nat) (D.val (Value.bool false))) ∧
    True ∧
    match !cH t (4 : Nat) with
    | true =>
     True ∧
     (Sk.st [Sk.st [Sk.one, Sk.one, Sk.one, Sk.one, Sk.one, Sk.one, Sk.one, Sk.one, Sk.one, Sk.one, Sk.one, Sk.one, Sk.one, Sk.one, Sk.one, Sk.one, Sk.one, Sk.one, Sk.one], Sk.st [Sk.one, Sk.one, Sk.one, Sk.one, Sk.one, Sk.one, Sk.one, Sk.one, Sk.one, Sk.one, Sk.one, Sk.one, Sk.one, Sk.one, Sk.one, Sk.one, Sk.one, Sk.one, Sk.one]] =
     Sk.st
     [Sk.st [Sk.one, Sk.one, Sk.one, Sk.one, Sk.one, Sk.one, Sk.one, Sk.one, Sk.one, Sk.one, Sk.one, Sk.one, Sk.one, Sk.one, Sk.one, Sk.one, Sk.one, Sk.one, Sk.one], Sk.st [Sk.one, Sk.one, Sk.one, Sk.one, Sk.one, Sk.one, Sk.one, Sk.one, Sk.one, Sk.one, Sk.one, Sk.one, Sk.one, Sk.one, Sk.one, Sk.one, Sk.one, Sk.one, Sk.one]] ∧
     (38 : Nat) ≠ (0 : Nat) ∧ (38 : Nat) = (38 : Nat) ∧ false = false) ∧
     True ∧
     (((38 : Nat) ≠ (0 : Nat) ∧ (38 : Nat) = (38 : Nat) ∧ true = true) ∧ false = false ∧ True) ∧
     D.tup
     [D.st
     [D.st
     [D.val (Value.bool false), D.val (Value.bool false), D.val (Value.bool false), D.val (Value.bool false), D.val (Value.bool false), D.val (Value.bool false), D.val (Value.bool false), D.val (Value.bool false), D.val (Value.bool false), D.val (Value.bool false), D.val (Value.bool false), D.val (Value.bool false),
     D.val (Value.bool false), D.val (Value.bool false), D.val (Value.bool false), D.val (Value.bool false), D.val (Value.bool false), D.val (Value.bool false), D.val (Value.bool false)],
     D.st [D.str [], D.str [], D.str [], D.str [], D.str [], D.str [], D.str [], D.str [], D.str [], D.str [], D.str [], D.str [], D.str [], D.str [], D.str [], D.str [], D.str [], D.str [], D.str []]],
     D.val (Value.int IntKind.i64 (3 : Int))] =
     F
    | false =>
     True ∧
     (sm (sk (tg c13.tab (40 : Nat)).zero) ∧ (1 : Nat) < (2 : Nat)) ∧
     ((0 : Int) ≤ (4 : Int) ∧ (4 : Int) < (↑(19 : Nat) : Int) ∧ (vL (cV t)).length = (19 : Nat) ∧ ones (vL (cV t)) ∧ (1 : Nat) = (1 : Nat)) ∧
     (((1 : Nat) ≠ (0 : Nat) ∧ (1 : Nat) = (1 : Nat) ∧ false = false) ∧ D.str (cV t (4 : Nat)) = (vL (cV t)).getD (4 : Nat) (D.val (Value.bool false))) ∧
     True ∧
     (∃ (c : Int), ∃ (n : Nat), [D.val (Value.int IntKind.i64 (clX (vL (cV t)))), D.val (Value.int IntKind.i64 (↑(cV t (4 : Nat)).length : Int))] = [D.val (Value.int IntKind.i64 c), D.val (Value.int IntKind.i64 (↑n : Int))]) ∧
     True ∧
     match !szR (clX (vL (cV t))) (↑(cV t (4 : Nat)).length : Int).toNat with
     | true =>
      True ∧
      (Sk.st
      [Sk.st [Sk.one, Sk.one, Sk.one, Sk.one, Sk.one, Sk.one, Sk.one, Sk.one, Sk.one, Sk.one, Sk.one, Sk.one, Sk.one, Sk.one, Sk.one, Sk.one, Sk.one, Sk.one, Sk.one],
      Sk.st [Sk.one, Sk.one, Sk.one, Sk.one, Sk.one, Sk.one, Sk.one, Sk.one, Sk.one, Sk.one, Sk.one, Sk.one, Sk.one, Sk.one, Sk.one, Sk.one, Sk.one, Sk.one, Sk.one]] =
      Sk.st
      [Sk.st [Sk.one, Sk.one, Sk.one, Sk.one, Sk.one, Sk.one, Sk.one, Sk.one, Sk.one, Sk.one, Sk.one, Sk.one, Sk.one, Sk.one, Sk.one, Sk.one, Sk.one, Sk.one, Sk.one],
      Sk.st [Sk.one, Sk.one, Sk.one, Sk.one, Sk.one, Sk.one, Sk.one, Sk.one, Sk.one, Sk.one, Sk.one, Sk.one, Sk.one, Sk.one, Sk.one, Sk.one, Sk.one, Sk.one, Sk.one]] ∧
      (38 : Nat) ≠ (0 : Nat) ∧ (38 : Nat) = (38 : Nat) ∧ false = false) ∧
      True ∧
      (((38 : Nat) ≠ (0 : Nat) ∧ (38 : Nat) = (38 : Nat) ∧ true = true) ∧ false = false ∧ True) ∧
      D.tup
      [D.st
      [D.st
      [D.val (Value.bool false), D.val (Value.bool false), D.val (Value.bool false), D.val (Value.bool false), D.val (Value.bool false), D.val (Value.bool false), D.val (Value.bool false), D.val (Value.bool false), D.val (Value.bool false), D.val (Value.bool false), D.val (Value.bool false),
      D.val (Value.bool false), D.val (Value.bool false), D.val (Value.bool false), D.val (Value.bool false), D.val (Value.bool false), D.val (Value.bool false), D.val (Value.bool false), D.val (Value.bool false)],
      D.st [D.str [], D.str [], D.str [], D.str [], D.str [], D.str [], D.str [], D.str [], D.str [], D.str [], D.str [], D.str [], D.str [], D.str [], D.str [], D.str [], D.str [], D.str [], D.str []]],
      D.val (Value.int IntKind.i64 (4 : Int))] =
      F
     | false =>
      (True ∧ (38 : Nat) ≠ (0 : Nat)) ∧
      True ∧
      (((AV.d (D.val (Value.int IntKind.i64 (1 : Int))) = AV.d (D.val (Value.int IntKind.i64 (↑(1 : Nat) : Int))) ∧ True) ∧
      (sm
      (some
      (Blk.fix
      (D.st
      [D.st
      [D.val (Value.bool false), D.val (Value.bool false), D.val (Value.bool false), D.val (Value.bool false), D.val (Value.bool false), D.val (Value.bool false), D.val (Value.bool false), D.val (Value.bool false), D.val (Value.bool false), D.val (Value.bool false), D.val (Value.bool false),
      D.val (Value.bool false), D.val (Value.bool false), D.val (Value.bool false), D.val (Value.bool false), D.val (Value.bool false), D.val (Value.bool false), D.val (Value.bool false), D.val (Value.bool false)],
      D.st [D.str [], D.str [], D.str [], D.str [], D.str [], D.str [], D.str [], D.str [], D.str [], D.str [], D.str [], D.str [], D.str [], D.str [], D.str [], D.str [], D.str [], D.str [], D.str []]]))) ∧
      sm (some (Blk.fix (D.st [D.st (hL (cH t)), D.st (vL (cV t))]))) ∧
      some
      (Blk.fix
      (D.st
      [D.st
      [D.val (Value.bool false), D.val (Value.bool false), D.val (Value.bool false), D.val (Value.bool false), D.val (Value.bool false), D.val (Value.bool false), D.val (Value.bool false), D.val (Value.bool false), D.val (Value.bool false), D.val (Value.bool false), D.val (Value.bool false),
      D.val (Value.bool false), D.val (Value.bool false), D.val (Value.bool false), D.val (Value.bool false), D.val (Value.bool false), D.val (Value.bool false), D.val (Value.bool false), D.val (Value.bool false)],
      D.st [D.str [], D.str [], D.str [], D.str [], D.str [], D.str [], D.str [], D.str [], D.str [], D.str [], D.str [], D.str [], D.str [], D.str [], D.str [], D.str [], D.str [], D.str [], D.str []]])) =
      some (Blk.fix (D.st [D.st (hL (dHi (clP t) ((1 : Nat) - (1 : Nat)))), D.st (vL (d0Vi (clP t) ((1 : Nat) - (1 : Nat))))])) ∧
      True) ∧
      true = true) ∧
      (1 : Nat) - (1 : Nat) ≤ (18 : Nat)) ∧
      ∀ (x : Nat),
      x ≤ (18 : Nat) →
      true = true ∧
      True ∧
      True ∧
      match decide ((↑(x + (1 : Nat)) : Int) ≤ (18 : Int)) with
      | true =>
       True ∧
       True ∧
       (∃ (c : Int), ∃ (k : Int), [D.val (Value.int IntKind.i64 (clX (vL (cV t)))), D.val (Value.int IntKind.i64 (↑(x + (1 : Nat)) : Int))] = [D.val (Value.int IntKind.i64 c), D.val (Value.int IntKind.i64 k)]) ∧
       match belB (clX (vL (cV t))) (↑(x + (1 : Nat)) : Int) with
       | true =>
        True ∧
        (sm (sk (tg c13.tab (40 : Nat)).zero) ∧ (0 : Nat) < (2 : Nat)) ∧
        ((0 : Int) ≤ (↑(x + (1 : Nat)) : Int) ∧ (↑(x + (1 : Nat)) : Int) < (↑(19 : Nat) : Int) ∧ (hL (dHi (clP t) x)).length = (19 : Nat) ∧ ones (hL (dHi (clP t) x)) ∧ (1 : Nat) = (1 : Nat)) ∧
        (((0 : Nat) < (2 : Nat) ∧ (↑(x + (1 : Nat)) : Int).toNat < (hL (dHi (clP t) x)).length ∧ Sk.one = sk ((hL (dHi (clP t) x)).getD (↑(x + (1 : Nat)) : Int).toNat (D.val (Value.bool false)))) ∧ (1 : Nat) ≠ (0 : Nat) ∧ (1 : Nat) = (1 : Nat) ∧ false = false) ∧
        True ∧
        True ∧
        match decide ((↑(x + (1 : Nat)) : Int) > (4 : Int)) with
        | true =>
         True ∧
         True ∧
         True ∧
         True ∧
         match (↑(x + (1 : Nat)) : Int) == (7 : Int) with
         | true =>
          True ∧
          True ∧
          True ∧
          (∃ (b : Bool), [D.val (Value.bool true)] = [D.val (Value.bool b)]) ∧
          (Sk.st
          [Sk.st
          (Sk.one ::
          sks
          ([D.val (Value.bool (dHi (clP t) x (1 : Nat))), D.val (Value.bool (dHi (clP t) x (2 : Nat))), D.val (Value.bool (dHi (clP t) x (3 : Nat))), D.val (Value.bool (dHi (clP t) x (4 : Nat))), D.val (Value.bool (dHi (clP t) x (5 : Nat))),
          D.val (Value.bool (dHi (clP t) x (6 : Nat))), D.val (Value.bool (dHi (clP t) x (7 : Nat))), D.val (Value.bool (dHi (clP t) x (8 : Nat))), D.val (Value.bool (dHi (clP t) x (9 : Nat))), D.val (Value.bool (dHi (clP t) x (10 : Nat))),
          D.val (Value.bool (dHi (clP t) x (11 : Nat))), D.val (Value.bool (dHi (clP t) x (12 : Nat))), D.val (Value.bool (dHi (clP t) x (13 : Nat))), D.val (Value.bool (dHi (clP t) x (14 : Nat))), D.val (Value.bool (dHi (clP t) x (15 : Nat))),
          D.val (Value.bool (dHi (clP t) x (16 : Nat))), D.val (Value.bool (dHi (clP t) x (17 : Nat))), D.val (Value.bool (dHi (clP t) x (18 : Nat)))].set
          x (D.val (Value.bool true)))),
          Sk.st [Sk.one, Sk.one, Sk.one, Sk.one, Sk.one, Sk.one, Sk.one, Sk.one, Sk.one, Sk.one, Sk.one, Sk.one, Sk.one, Sk.one, Sk.one, Sk.one, Sk.one, Sk.one, Sk.one]] =
          Sk.st
          [Sk.st [Sk.one, Sk.one, Sk.one, Sk.one, Sk.one, Sk.one, Sk.one, Sk.one, Sk.one, Sk.one, Sk.one, Sk.one, Sk.one, Sk.one, Sk.one, Sk.one, Sk.one, Sk.one, Sk.one],
          Sk.st [Sk.one, Sk.one, Sk.one, Sk.one, Sk.one, Sk.one, Sk.one, Sk.one, Sk.one, Sk.one, Sk.one, Sk.one, Sk.one, Sk.one, Sk.one, Sk.one, Sk.one, Sk.one, Sk.one]] ∧
          (1 : Nat) < (2 : Nat)) ∧
          ((0 : Int) ≤ (↑(x + (1 : Nat)) : Int) ∧ (↑(x + (1 : Nat)) : Int) < (↑(19 : Nat) : Int) ∧ (vL (d0Vi (clP t) x)).length = (19 : Nat) ∧ ones (vL (d0Vi (clP t) x)) ∧ (1 : Nat) = (1 : Nat)) ∧
          (((1 : Nat) < (2 : Nat) ∧ (↑(x + (1 : Nat)) : Int).toNat < (vL (d0Vi (clP t) x)).length ∧ Sk.one = sk ((vL (d0Vi (clP t) x)).getD (↑(x + (1 : Nat)) : Int).toNat (D.val (Value.bool false)))) ∧ (1 : Nat) ≠ (0 : Nat) ∧ (1 : Nat) = (1 : Nat) ∧ false = false) ∧
          True ∧
          True ∧
          True ∧
          ((AV.d (D.val (Value.int IntKind.i64 (IntKind.i64.wrap ((↑(x + (1 : Nat)) : Int) + (1 : Int))))) = AV.d (D.val (Value.int IntKind.i64 (↑((IntKind.i64.wrap ((↑(x + (1 : Nat)) : Int) + (1 : Int))).toNat - (1 : Nat) + (1 : Nat)) : Int))) ∧ True) ∧
          (sm
          (some
          (Blk.fix
          (D.st
          [D.st
          [D.val (Value.bool false), D.val (Value.bool false), D.val (Value.bool false), D.val (Value.bool false), D.val (Value.bool false), D.val (Value.bool false), D.val (Value.bool false), D.val (Value.bool false),
          D.val (Value.bool false), D.val (Value.bool false), D.val (Value.bool false), D.val (Value.bool false), D.val (Value.bool false), D.val (Value.bool false), D.val (Value.bool false), D.val (Value.bool false),
          D.val (Value.bool false), D.val (Value.bool false), D.val (Value.bool false)],
          D.st [D.str [], D.str [], D.str [], D.str [], D.str [], D.str [], D.str [], D.str [], D.str [], D.str [], D.str [], D.str [], D.str [], D.str [], D.str [], D.str [], D.str [], D.str [], D.str []]]))) ∧
          sm (some (Blk.fix (D.st [D.st (hL (cH t)), D.st (vL (cV t))]))) ∧
          some (Blk.fix (D.st [D.st ((hL (dHi (clP t) x)).set (↑(x + (1 : Nat)) : Int).toNat (D.val (Value.bool true))), D.st ((vL (d0Vi (clP t) x)).set (↑(x + (1 : Nat)) : Int).toNat (D.str [(1 : Int)]))])) =
          some (Blk.fix (D.st [D.st (hL (dHi (clP t) ((IntKind.i64.wrap ((↑(x + (1 : Nat)) : Int) + (1 : Int))).toNat - (1 : Nat)))), D.st (vL (d0Vi (clP t) ((IntKind.i64.wrap ((↑(x + (1 : Nat)) : Int) + (1 : Int))).toNat - (1 : Nat))))])) ∧
          True) ∧
          true = true) ∧
          (IntKind.i64.wrap ((↑(x + (1 : Nat)) : Int) + (1 : Int))).toNat - (1 : Nat) ≤ (18 : Nat) ∧ (18 : Nat) - ((IntKind.i64.wrap ((↑(x + (1 : Nat)) : Int) + (1 : Int))).toNat - (1 : Nat)) < (18 : Nat) - x
         | false =>
          True ∧
          True ∧
          True ∧
          True ∧
          match (↑(x + (1 : Nat)) : Int) == (9 : Int) with
          | true =>
           True ∧
           (∃ (b : Bool), [D.val (Value.bool true)] = [D.val (Value.bool b)]) ∧
           (Sk.st
           [Sk.st
           (Sk.one ::
           sks
           ([D.val (Value.bool (dHi (clP t) x (1 : Nat))), D.val (Value.bool (dHi (clP t) x (2 : Nat))), D.val (Value.bool (dHi (clP t) x (3 : Nat))), D.val (Value.bool (dHi (clP t) x (4 : Nat))), D.val (Value.bool (dHi (clP t) x (5 : Nat))),
           D.val (Value.bool (dHi (clP t) x (6 : Nat))), D.val (Value.bool (dHi (clP t) x (7 : Nat))), D.val (Value.bool (dHi (clP t) x (8 : Nat))), D.val (Value.bool (dHi (clP t) x (9 : Nat))), D.val (Value.bool (dHi (clP t) x (10 : Nat))),
           D.val (Value.bool (dHi (clP t) x (11 : Nat))), D.val (Value.bool (dHi (clP t) x (12 : Nat))), D.val (Value.bool (dHi (clP t) x (13 : Nat))), D.val (Value.bool (dHi (clP t) x (14 : Nat))),
           D.val (Value.bool (dHi (clP t) x (15 : Nat))), D.val (Value.bool (dHi (clP t) x (16 : Nat))), D.val (Value.bool (dHi (clP t) x (17 : Nat))), D.val (Value.bool (dHi (clP t) x (18 : Nat)))].set
           x (D.val (Value.bool true)))),
           Sk.st [Sk.one, Sk.one, Sk.one, Sk.one, Sk.one, Sk.one, Sk.one, Sk.one, Sk.one, Sk.one, Sk.one, Sk.one, Sk.one, Sk.one, Sk.one, Sk.one, Sk.one, Sk.one, Sk.one]] =
           Sk.st
           [Sk.st [Sk.one, Sk.one, Sk.one, Sk.one, Sk.one, Sk.one, Sk.one, Sk.one, Sk.one, Sk.one, Sk.one, Sk.one, Sk.one, Sk.one, Sk.one, Sk.one, Sk.one, Sk.one, Sk.one],
           Sk.st [Sk.one, Sk.one, Sk.one, Sk.one, Sk.one, Sk.one, Sk.one, Sk.one, Sk.one, Sk.one, Sk.one, Sk.one, Sk.one, Sk.one, Sk.one, Sk.one, Sk.one, Sk.one, Sk.one]] ∧
           (1 : Nat) < (2 : Nat)) ∧
           ((0 : Int) ≤ (↑(x + (1 : Nat)) : Int) ∧ (↑(x + (1 : Nat)) : Int) < (↑(19 : Nat) : Int) ∧ (vL (d0Vi (clP t) x)).length = (19 : Nat) ∧ ones (vL (d0Vi (clP t) x)) ∧ (1 : Nat) = (1 : Nat)) ∧
           (((1 : Nat) < (2 : Nat) ∧ (↑(x + (1 : Nat)) : Int).toNat < (vL (d0Vi (clP t) x)).length ∧ Sk.one = sk ((vL (d0Vi (clP t) x)).getD (↑(x + (1 : Nat)) : Int).toNat (D.val (Value.bool false)))) ∧
           (1 : Nat) ≠ (0 : Nat) ∧ (1 : Nat) = (1 : Nat) ∧ false = false) ∧
           True ∧
           True ∧
           True ∧
           ((AV.d (D.val (Value.int IntKind.i64 (IntKind.i64.wrap ((↑(x + (1 : Nat)) : Int) + (1 : Int))))) = AV.d (D.val (Value.int IntKind.i64 (↑((IntKind.i64.wrap ((↑(x + (1 : Nat)) : Int) + (1 : Int))).toNat - (1 : Nat) + (1 : Nat)) : Int))) ∧
           True) ∧
           (sm
           (some
           (Blk.fix
           (D.st
           [D.st
           [D.val (Value.bool false), D.val (Value.bool false), D.val (Value.bool false), D.val (Value.bool false), D.val (Value.bool false), D.val (Value.bool false), D.val (Value.bool false), D.val (Value.bool false),
           D.val (Value.bool false), D.val (Value.bool false), D.val (Value.bool false), D.val (Value.bool false), D.val (Value.bool false), D.val (Value.bool false), D.val (Value.bool false), D.val (Value.bool false),
           D.val (Value.bool false), D.val (Value.bool false), D.val (Value.bool false)],
           D.st [D.str [], D.str [], D.str [], D.str [], D.str [], D.str [], D.str [], D.str [], D.str [], D.str [], D.str [], D.str [], D.str [], D.str [], D.str [], D.str [], D.str [], D.str [], D.str []]]))) ∧
           sm (some (Blk.fix (D.st [D.st (hL (cH t)), D.st (vL (cV t))]))) ∧
           some (Blk.fix (D.st [D.st ((hL (dHi (clP t) x)).set (↑(x + (1 : Nat)) : Int).toNat (D.val (Value.bool true))), D.st ((vL (d0Vi (clP t) x)).set (↑(x + (1 : Nat)) : Int).toNat (D.str [(1 : Int)]))])) =
           some
           (Blk.fix (D.st [D.st (hL (dHi (clP t) ((IntKind.i64.wrap ((↑(x + (1 : Nat)) : Int) + (1 : Int))).toNat - (1 : Nat)))), D.st (vL (d0Vi (clP t) ((IntKind.i64.wrap ((↑(x + (1 : Nat)) : Int) + (1 : Int))).toNat - (1 : Nat))))])) ∧
           True) ∧
           true = true) ∧
           (IntKind.i64.wrap ((↑(x + (1 : Nat)) : Int) + (1 : Int))).toNat - (1 : Nat) ≤ (18 : Nat) ∧ (18 : Nat) - ((IntKind.i64.wrap ((↑(x + (1 : Nat)) : Int) + (1 : Int))).toNat - (1 : Nat)) < (18 : Nat) - x
          | false =>
           True ∧
           True ∧
           True ∧
           match (↑(x + (1 : Nat)) : Int) == (6 : Int) with
           | true =>
            True ∧
            (2 : Int) ≠ (0 : Int) ∧
            True ∧
            True ∧
            True ∧
            (∃ (b : Bool), [D.val (Value.bool ((clX (vL (cV t))).tmod (2 : Int) == (0 : Int)))] = [D.val (Value.bool b)]) ∧
            (Sk.st
            [Sk.st
            (Sk.one ::
            sks
            ([D.val (Value.bool (dHi (clP t) x (1 : Nat))), D.val (Value.bool (dHi (clP t) x (2 : Nat))), D.val (Value.bool (dHi (clP t) x (3 : Nat))), D.val (Value.bool (dHi (clP t) x (4 : Nat))),
            D.val (Value.bool (dHi (clP t) x (5 : Nat))), D.val (Value.bool (dHi (clP t) x (6 : Nat))), D.val (Value.bool (dHi (clP t) x (7 : Nat))), D.val (Value.bool (dHi (clP t) x (8 : Nat))),
            D.val (Value.bool (dHi (clP t) x (9 : Nat))), D.val (Value.bool (dHi (clP t) x (10 : Nat))), D.val (Value.bool (dHi (clP t) x (11 : Nat))), D.val (Value.bool (dHi (clP t) x (12 : Nat))),
            D.val (Value.bool (dHi (clP t) x (13 : Nat))), D.val (Value.bool (dHi (clP t) x (14 : Nat))), D.val (Value.bool (dHi (clP t) x (15 : Nat))), D.val (Value.bool (dHi (clP t) x (16 : Nat))),
            D.val (Value.bool (dHi (clP t) x (17 : Nat))), D.val (Value.bool (dHi (clP t) x (18 : Nat)))].set
            x (D.val (Value.bool true)))),
            Sk.st [Sk.one, Sk.one, Sk.one, Sk.one, Sk.one, Sk.one, Sk.one, Sk.one, Sk.one, Sk.one, Sk.one, Sk.one, Sk.one, Sk.one, Sk.one, Sk.one, Sk.one, Sk.one, Sk.one]] =
            Sk.st
            [Sk.st [Sk.one, Sk.one, Sk.one, Sk.one, Sk.one, Sk.one, Sk.one, Sk.one, Sk.one, Sk.one, Sk.one, Sk.one, Sk.one, Sk.one, Sk.one, Sk.one, Sk.one, Sk.one, Sk.one],
            Sk.st [Sk.one, Sk.one, Sk.one, Sk.one, Sk.one, Sk.one, Sk.one, Sk.one, Sk.one, Sk.one, Sk.one, Sk.one, Sk.one, Sk.one, Sk.one, Sk.one, Sk.one, Sk.one, Sk.one]] ∧
            (1 : Nat) < (2 : Nat)) ∧
            ((0 : Int) ≤ (↑(x + (1 : Nat)) : Int) ∧ (↑(x + (1 : Nat)) : Int) < (↑(19 : Nat) : Int) ∧ (vL (d0Vi (clP t) x)).length = (19 : Nat) ∧ ones (vL (d0Vi (clP t) x)) ∧ (1 : Nat) = (1 : Nat)) ∧
            (((1 : Nat) < (2 : Nat) ∧ (↑(x + (1 : Nat)) : Int).toNat < (vL (d0Vi (clP t) x)).length ∧ Sk.one = sk ((vL (d0Vi (clP t) x)).getD (↑(x + (1 : Nat)) : Int).toNat (D.val (Value.bool false)))) ∧
            (1 : Nat) ≠ (0 : Nat) ∧ (1 : Nat) = (1 : Nat) ∧ false = false) ∧
            True ∧
            True ∧
            True ∧
            ((AV.d (D.val (Value.int IntKind.i64 (IntKind.i64.wrap ((↑(x + (1 : Nat)) : Int) + (1 : Int))))) =
            AV.d (D.val (Value.int IntKind.i64 (↑((IntKind.i64.wrap ((↑(x + (1 : Nat)) : Int) + (1 : Int))).toNat - (1 : Nat) + (1 : Nat)) : Int))) ∧
            True) ∧
            (sm
            (some
            (Blk.fix
            (D.st
            [D.st
            [D.val (Value.bool false), D.val (Value.bool false), D.val (Value.bool false), D.val (Value.bool false), D.val (Value.bool false), D.val (Value.bool false), D.val (Value.bool false),
            D.val (Value.bool false), D.val (Value.bool false), D.val (Value.bool false), D.val (Value.bool false), D.val (Value.bool false), D.val (Value.bool false), D.val (Value.bool false),
            D.val (Value.bool false), D.val (Value.bool false), D.val (Value.bool false), D.val (Value.bool false), D.val (Value.bool false)],
            D.st [D.str [], D.str [], D.str [], D.str [], D.str [], D.str [], D.str [], D.str [], D.str [], D.str [], D.str [], D.str [], D.str [], D.str [], D.str [], D.str [], D.str [], D.str [], D.str []]]))) ∧
            sm (some (Blk.fix (D.st [D.st (hL (cH t)), D.st (vL (cV t))]))) ∧
            some
            (Blk.fix
            (D.st
            [D.st ((hL (dHi (clP t) x)).set (↑(x + (1 : Nat)) : Int).toNat (D.val (Value.bool true))),
            D.st ((vL (d0Vi (clP t) x)).set (↑(x + (1 : Nat)) : Int).toNat (D.str [bif (clX (vL (cV t))).tmod (2 : Int) == (0 : Int) then (1 : Int) else (0 : Int)]))])) =
            some
            (Blk.fix
            (D.st
            [D.st (hL (dHi (clP t) ((IntKind.i64.wrap ((↑(x + (1 : Nat)) : Int) + (1 : Int))).toNat - (1 : Nat)))),
            D.st (vL (d0Vi (clP t) ((IntKind.i64.wrap ((↑(x + (1 : Nat)) : Int) + (1 : Int))).toNat - (1 : Nat))))])) ∧
            True) ∧
            true = true) ∧
            (IntKind.i64.wrap ((↑(x + (1 : Nat)) : Int) + (1 : Int))).toNat - (1 : Nat) ≤ (18 : Nat) ∧ (18 : Nat) - ((IntKind.i64.wrap ((↑(x + (1 : Nat)) : Int) + (1 : Int))).toNat - (1 : Nat)) < (18 : Nat) - x
           | false =>
            True ∧
            True ∧
            (∃ (b : Bool), [D.val (Value.bool false)] = [D.val (Value.bool b)]) ∧
            (Sk.st
            [Sk.st
            (Sk.one ::
            sks
            ([D.val (Value.bool (dHi (clP t) x (1 : Nat))), D.val (Value.bool (dHi (clP t) x (2 : Nat))), D.val (Value.bool (dHi (clP t) x (3 : Nat))), D.val (Value.bool (dHi (clP t) x (4 : Nat))),
            D.val (Value.bool (dHi (clP t) x (5 : Nat))), D.val (Value.bool (dHi (clP t) x (6 : Nat))), D.val (Value.bool (dHi (clP t) x (7 : Nat))), D.val (Value.bool (dHi (clP t) x (8 : Nat))),
            D.val (Value.bool (dHi (clP t) x (9 : Nat))), D.val (Value.bool (dHi (clP t) x (10 : Nat))), D.val (Value.bool (dHi (clP t) x (11 : Nat))), D.val (Value.bool (dHi (clP t) x (12 : Nat))),
            D.val (Value.bool (dHi (clP t) x (13 : Nat))), D.val (Value.bool (dHi (clP t) x (14 : Nat))), D.val (Value.bool (dHi (clP t) x (15 : Nat))), D.val (Value.bool (dHi (clP t) x (16 : Nat))),
            D.val (Value.bool (dHi (clP t) x (17 : Nat))), D.val (Value.bool (dHi (clP t) x (18 : Nat)))].set
            x (D.val (Value.bool true)))),
            Sk.st [Sk.one, Sk.one, Sk.one, Sk.one, Sk.one, Sk.one, Sk.one, Sk.one, Sk.one, Sk.one, Sk.one, Sk.one, Sk.one, Sk.one, Sk.one, Sk.one, Sk.one, Sk.one, Sk.one]] =
            Sk.st
            [Sk.st [Sk.one, Sk.one, Sk.one, Sk.one, Sk.one, Sk.one, Sk.one, Sk.one, Sk.one, Sk.one, Sk.one, Sk.one, Sk.one, Sk.one, Sk.one, Sk.one, Sk.one, Sk.one, Sk.one],
            Sk.st [Sk.one, Sk.one, Sk.one, Sk.one, Sk.one, Sk.one, Sk.one, Sk.one, Sk.one, Sk.one, Sk.one, Sk.one, Sk.one, Sk.one, Sk.one, Sk.one, Sk.one, Sk.one, Sk.one]] ∧
            (1 : Nat) < (2 : Nat)) ∧
            ((0 : Int) ≤ (↑(x + (1 : Nat)) : Int) ∧ (↑(x + (1 : Nat)) : Int) < (↑(19 : Nat) : Int) ∧ (vL (d0Vi (clP t) x)).length = (19 : Nat) ∧ ones (vL (d0Vi (clP t) x)) ∧ (1 : Nat) = (1 : Nat)) ∧
            (((1 : Nat) < (2 : Nat) ∧ (↑(x + (1 : Nat)) : Int).toNat < (vL (d0Vi (clP t) x)).length ∧ Sk.one = sk ((vL (d0Vi (clP t) x)).getD (↑(x + (1 : Nat)) : Int).toNat (D.val (Value.bool false)))) ∧
            (1 : Nat) ≠ (0 : Nat) ∧ (1 : Nat) = (1 : Nat) ∧ false = false) ∧
            True ∧
            True ∧
            True ∧
            ((AV.d (D.val (Value.int IntKind.i64 (IntKind.i64.wrap ((↑(x + (1 : Nat)) : Int) + (1 : Int))))) =
            AV.d (D.val (Value.int IntKind.i64 (↑((IntKind.i64.wrap ((↑(x + (1 : Nat)) : Int) + (1 : Int))).toNat - (1 : Nat) + (1 : Nat)) : Int))) ∧
            True) ∧
            (sm
            (some
            (Blk.fix
            (D.st
            [D.st
            [D.val (Value.bool false), D.val (Value.bool false), D.val (Value.bool false), D.val (Value.bool false), D.val (Value.bool false), D.val (Value.bool false), D.val (Value.bool false), D.val (Value.bool false),
            D.val (Value.bool false), D.val (Value.bool false), D.val (Value.bool false), D.val (Value.bool false), D.val (Value.bool false), D.val (Value.bool false), D.val (Value.bool false), D.val (Value.bool false),
            D.val (Value.bool false), D.val (Value.bool false), D.val (Value.bool false)],
            D.st [D.str [], D.str [], D.str [], D.str [], D.str [], D.str [], D.str [], D.str [], D.str [], D.str [], D.str [], D.str [], D.str [], D.str [], D.str [], D.str [], D.str [], D.str [], D.str []]]))) ∧
            sm (some (Blk.fix (D.st [D.st (hL (cH t)), D.st (vL (cV t))]))) ∧
            some (Blk.fix (D.st [D.st ((hL (dHi (clP t) x)).set (↑(x + (1 : Nat)) : Int).toNat (D.val (Value.bool true))), D.st ((vL (d0Vi (clP t) x)).set (↑(x + (1 : Nat)) : Int).toNat (D.str [(0 : Int)]))])) =
            some
            (Blk.fix
            (D.st
            [D.st (hL (dHi (clP t) ((IntKind.i64.wrap ((↑(x + (1 : Nat)) : Int) + (1 : Int))).toNat - (1 : Nat)))), D.st (vL (d0Vi (clP t) ((IntKind.i64.wrap ((↑(x + (1 : Nat)) : Int) + (1 : Int))).toNat - (1 : Nat))))])) ∧
            True) ∧
            true = true) ∧
            (IntKind.i64.wrap ((↑(x + (1 : Nat)) : Int) + (1 : Int))).toNat - (1 : Nat) ≤ (18 : Nat) ∧ (18 : Nat) - ((IntKind.i64.wrap ((↑(x + (1 : Nat)) : Int) + (1 : Int))).toNat - (1 : Nat)) < (18 : Nat) - x
        | false =>
         True ∧
         True ∧
         True ∧
         ((AV.d (D.val (Value.int IntKind.i64 (IntKind.i64.wrap ((↑(x + (1 : Nat)) : Int) + (1 : Int))))) = AV.d (D.val (Value.int IntKind.i64 (↑((IntKind.i64.wrap ((↑(x + (1 : Nat)) : Int) + (1 : Int))).toNat - (1 : Nat) + (1 : Nat)) : Int))) ∧ True) ∧
         (sm
         (some
         (Blk.fix
         (D.st
         [D.st
         [D.val (Value.bool false), D.val (Value.bool false), D.val (Value.bool false), D.val (Value.bool false), D.val (Value.bool false), D.val (Value.bool false), D.val (Value.bool false), D.val (Value.bool false), D.val (Value.bool false),
         D.val (Value.bool false), D.val (Value.bool false), D.val (Value.bool false), D.val (Value.bool false), D.val (Value.bool false), D.val (Value.bool false), D.val (Value.bool false), D.val (Value.bool false), D.val (Value.bool false),
         D.val (Value.bool false)],
         D.st [D.str [], D.str [], D.str [], D.str [], D.str [], D.str [], D.str [], D.str [], D.str [], D.str [], D.str [], D.str [], D.str [], D.str [], D.str [], D.str [], D.str [], D.str [], D.str []]]))) ∧
         sm (some (Blk.fix (D.st [D.st (hL (cH t)), D.st (vL (cV t))]))) ∧
         some (Blk.fix (D.st [D.st ((hL (dHi (clP t) x)).set (↑(x + (1 : Nat)) : Int).toNat (D.val (Value.bool true))), D.st (vL (d0Vi (clP t) x))])) =
         some (Blk.fix (D.st [D.st (hL (dHi (clP t) ((IntKind.i64.wrap ((↑(x + (1 : Nat)) : Int) + (1 : Int))).toNat - (1 : Nat)))), D.st (vL (d0Vi (clP t) ((IntKind.i64.wrap ((↑(x + (1 : Nat)) : Int) + (1 : Int))).toNat - (1 : Nat))))])) ∧
         True) ∧
         true = true) ∧
         (IntKind.i64.wrap ((↑(x + (1 : Nat)) : Int) + (1 : Int))).toNat - (1 : Nat) ≤ (18 : Nat) ∧ (18 : Nat) - ((IntKind.i64.wrap ((↑(x + (1 : Nat)) : Int) + (1 : Int))).toNat - (1 : Nat)) < (18 : Nat) - x
       | false =>
        True ∧
        True ∧
        True ∧
        ((AV.d (D.val (Value.int IntKind.i64 (IntKind.i64.wrap ((↑(x + (1 : Nat)) : Int) + (1 : Int))))) = AV.d (D.val (Value.int IntKind.i64 (↑((IntKind.i64.wrap ((↑(x + (1 : Nat)) : Int) + (1 : Int))).toNat - (1 : Nat) + (1 : Nat)) : Int))) ∧ True) ∧
        (sm
        (some
        (Blk.fix
        (D.st
        [D.st
        [D.val (Value.bool false), D.val (Value.bool false), D.val (Value.bool false), D.val (Value.bool false), D.val (Value.bool false), D.val (Value.bool false), D.val (Value.bool false), D.val (Value.bool false), D.val (Value.bool false), D.val (Value.bool false),
        D.val (Value.bool false), D.val (Value.bool false), D.val (Value.bool false), D.val (Value.bool false), D.val (Value.bool false), D.val (Value.bool false), D.val (Value.bool false), D.val (Value.bool false), D.val (Value.bool false)],
        D.st [D.str [], D.str [], D.str [], D.str [], D.str [], D.str [], D.str [], D.str [], D.str [], D.str [], D.str [], D.str [], D.str [], D.str [], D.str [], D.str [], D.str [], D.str [], D.str []]]))) ∧
        sm (some (Blk.fix (D.st [D.st (hL (cH t)), D.st (vL (cV t))]))) ∧
        some (Blk.fix (D.st [D.st (hL (dHi (clP t) x)), D.st (vL (d0Vi (clP t) x))])) =
        some (Blk.fix (D.st [D.st (hL (dHi (clP t) ((IntKind.i64.wrap ((↑(x + (1 : Nat)) : Int) + (1 : Int))).toNat - (1 : Nat)))), D.st (vL (d0Vi (clP t) ((IntKind.i64.wrap ((↑(x + (1 : Nat)) : Int) + (1 : Int))).toNat - (1 : Nat))))])) ∧
        True) ∧
        true = true) ∧
        (IntKind.i64.wrap ((↑(x + (1 : Nat)) : Int) + (1 : Int))).toNat - (1 : Nat) ≤ (18 : Nat) ∧ (18 : Nat) - ((IntKind.i64.wrap ((↑(x + (1 : Nat)) : Int) + (1 : Int))).toNat - (1 : Nat)) < (18 : Nat) - x
      | false =>
       ((38 : Nat) ≠ (0 : Nat) ∧ (38 : Nat) = (38 : Nat) ∧ true = true) ∧
       ((38 : Nat) ≠ (0 : Nat) ∧ (38 : Nat) = (38 : Nat) ∧ true = true) ∧
       (∃ (h : Nat → Bool), ∃ (v : Nat → List Int), ∃ (g : Nat → Bool), ∃ (w : Nat → List Int), [D.st [D.st (hL (dHi (clP t) x)), D.st (vL (d0Vi (clP t) x))], D.st [D.st (hL (cH t)), D.st (vL (cV t))]] = [D.st [D.st (hL h), D.st (vL v)], D.st [D.st (hL g), D.st (vL w)]]) ∧
       (sm (sk (D.st [D.st (hL (dHi (clP t) x)), D.st (vL (d0Vi (clP t) x))])) ∧ (38 : Nat) ≠ (0 : Nat) ∧ (38 : Nat) = (38 : Nat) ∧ false = false) ∧
       True ∧
       (2 : Int) ≠ (0 : Int) ∧
       True ∧
       match (clX (vL (cV t))).tmod (2 : Int) == (0 : Int) with
       | true =>
        True ∧
        (∃ (b_1 : Bool), [D.val (Value.bool b)] = [D.val (Value.bool b_1)]) ∧
        (sm (sk (tg c13.tab (40 : Nat)).zero) ∧ (1 : Nat) < (2 : Nat)) ∧
        ((0 : Int) ≤ (12 : Int) ∧ (12 : Int) < (↑(19 : Nat) : Int) ∧ (uVX (hL (cH t)) (vL (d0Vi (clP t) x)) (vL (cV t))).length = (19 : Nat) ∧ ones (uVX (hL (cH t)) (vL (d0Vi (clP t) x)) (vL (cV t))) ∧ (1 : Nat) = (1 : Nat)) ∧
        (((1 : Nat) < (2 : Nat) ∧ (12 : Nat) < (uVX (hL (cH t)) (vL (d0Vi (clP t) x)) (vL (cV t))).length ∧ sm (sk ((uVX (hL (cH t)) (vL (d0Vi (clP t) x)) (vL (cV t))).getD (nat_lit 12) default))) ∧ (1 : Nat) ≠ (0 : Nat) ∧ (1 : Nat) = (1 : Nat) ∧ false = false) ∧
        True ∧
        True ∧
        match b with
        | true =>
         ((38 : Nat) ≠ (0 : Nat) ∧ (38 : Nat) = (38 : Nat) ∧ true = true) ∧
         (∃ (h : Nat → Bool),
         ∃ (v : Nat → List Int),
         ∃ (k : Int),
         [D.st [D.st (uHX (hL (dHi (clP t) x)) (hL (cH t))), D.st ((uVX (hL (cH t)) (vL (d0Vi (clP t) x)) (vL (cV t))).set (12 : Nat) (D.str [bif b then (1 : Int) else (0 : Int)]))], D.val (Value.int IntKind.i64 (8 : Int))] =
         [D.st [D.st (hL h), D.st (vL v)], D.val (Value.int IntKind.i64 k)] ∧
         (0 : Int) ≤ k ∧ k < (19 : Int)) ∧
         True ∧
         (∃ (b_1 : Bool), [D.val (Value.bool (oneX ((uVX (hL (cH t)) (vL (d0Vi (clP t) x)) (vL (cV t))).set (12 : Nat) (D.str [bif b then (1 : Int) else (0 : Int)])) (8 : Int)))] = [D.val (Value.bool b_1)]) ∧
         (sm (sk (tg c13.tab (40 : Nat)).zero) ∧ (1 : Nat) < (2 : Nat)) ∧
         ((0 : Int) ≤ (10 : Int) ∧
         (10 : Int) < (↑(19 : Nat) : Int) ∧
         ((uVX (hL (cH t)) (vL (d0Vi (clP t) x)) (vL (cV t))).set (12 : Nat) (D.str [bif b then (1 : Int) else (0 : Int)])).length = (19 : Nat) ∧
         ones ((uVX (hL (cH t)) (vL (d0Vi (clP t) x)) (vL (cV t))).set (12 : Nat) (D.str [bif b then (1 : Int) else (0 : Int)])) ∧ (1 : Nat) = (1 : Nat)) ∧
         (((1 : Nat) < (2 : Nat) ∧
         (10 : Nat) < ((uVX (hL (cH t)) (vL (d0Vi (clP t) x)) (vL (cV t))).set (12 : Nat) (D.str [bif b then (1 : Int) else (0 : Int)])).length ∧
         sm (sk (((uVX (hL (cH t)) (vL (d0Vi (clP t) x)) (vL (cV t))).set (12 : Nat) (D.str [bif b then (1 : Int) else (0 : Int)])).getD (nat_lit 10) default))) ∧
         (1 : Nat) ≠ (0 : Nat) ∧ (1 : Nat) = (1 : Nat) ∧ false = false) ∧
         True ∧
         True ∧
         match b with
         | true =>
          ((38 : Nat) ≠ (0 : Nat) ∧ (38 : Nat) = (38 : Nat) ∧ true = true) ∧
          (∃ (h : Nat → Bool),
          ∃ (v : Nat → List Int),
          ∃ (k : Int),
          [D.st
          [D.st (uHX (hL (dHi (clP t) x)) (hL (cH t))),
          D.st
          (((uVX (hL (cH t)) (vL (d0Vi (clP t) x)) (vL (cV t))).set (12 : Nat) (D.str [bif b then (1 : Int) else (0 : Int)])).set (10 : Nat)
          (D.str [bif oneX ((uVX (hL (cH t)) (vL (d0Vi (clP t) x)) (vL (cV t))).set (12 : Nat) (D.str [bif b then (1 : Int) else (0 : Int)])) (8 : Int) then (1 : Int) else (0 : Int)]))],
          D.val (Value.int IntKind.i64 (9 : Int))] =
          [D.st [D.st (hL h), D.st (vL v)], D.val (Value.int IntKind.i64 k)] ∧
          (0 : Int) ≤ k ∧ k < (19 : Int)) ∧
          True ∧
          True ∧
          (∃ (b_1 : Bool),
          [D.val
          (Value.bool
          !oneX
          (((uVX (hL (cH t)) (vL (d0Vi (clP t) x)) (vL (cV t))).set (12 : Nat) (D.str [bif b then (1 : Int) else (0 : Int)])).set (10 : Nat)
          (D.str [bif oneX ((uVX (hL (cH t)) (vL (d0Vi (clP t) x)) (vL (cV t))).set (12 : Nat) (D.str [bif b then (1 : Int) else (0 : Int)])) (8 : Int) then (1 : Int) else (0 : Int)]))
          (9 : Int))] =
          [D.val (Value.bool b_1)]) ∧
          (sm (sk (tg c13.tab (40 : Nat)).zero) ∧ (1 : Nat) < (2 : Nat)) ∧
          ((0 : Int) ≤ (11 : Int) ∧
          (11 : Int) < (↑(19 : Nat) : Int) ∧
          (((uVX (hL (cH t)) (vL (d0Vi (clP t) x)) (vL (cV t))).set (12 : Nat) (D.str [bif b then (1 : Int) else (0 : Int)])).set (10 : Nat)
          (D.str [bif oneX ((uVX (hL (cH t)) (vL (d0Vi (clP t) x)) (vL (cV t))).set (12 : Nat) (D.str [bif b then (1 : Int) else (0 : Int)])) (8 : Int) then (1 : Int) else (0 : Int)])).length =
          (19 : Nat) ∧
          ones
          (((uVX (hL (cH t)) (vL (d0Vi (clP t) x)) (vL (cV t))).set (12 : Nat) (D.str [bif b then (1 : Int) else (0 : Int)])).set (10 : Nat)
          (D.str [bif oneX ((uVX (hL (cH t)) (vL (d0Vi (clP t) x)) (vL (cV t))).set (12 : Nat) (D.str [bif b then (1 : Int) else (0 : Int)])) (8 : Int) then (1 : Int) else (0 : Int)])) ∧
          (1 : Nat) = (1 : Nat)) ∧
          (((1 : Nat) < (2 : Nat) ∧
          (11 : Nat) <
          (((uVX (hL (cH t)) (vL (d0Vi (clP t) x)) (vL (cV t))).set (12 : Nat) (D.str [bif b then (1 : Int) else (0 : Int)])).set (10 : Nat)
          (D.str [bif oneX ((uVX (hL (cH t)) (vL (d0Vi (clP t) x)) (vL (cV t))).set (12 : Nat) (D.str [bif b then (1 : Int) else (0 : Int)])) (8 : Int) then (1 : Int) else (0 : Int)])).length ∧
          sm
          (sk
          ((((uVX (hL (cH t)) (vL (d0Vi (clP t) x)) (vL (cV t))).set (12 : Nat) (D.str [bif b then (1 : Int) else (0 : Int)])).set (10 : Nat)
          (D.str [bif oneX ((uVX (hL (cH t)) (vL (d0Vi (clP t) x)) (vL (cV t))).set (12 : Nat) (D.str [bif b then (1 : Int) else (0 : Int)])) (8 : Int) then (1 : Int) else (0 : Int)])).getD
          (nat_lit 11) default))) ∧
          (1 : Nat) ≠ (0 : Nat) ∧ (1 : Nat) = (1 : Nat) ∧ false = false) ∧
          ((38 : Nat) ≠ (0 : Nat) ∧ (38 : Nat) = (38 : Nat) ∧ true = true) ∧
          (∃ (h : Nat → Bool),
          ∃ (v : Nat → List Int),
          [D.st
          [D.st (uHX (hL (dHi (clP t) x)) (hL (cH t))),
          D.st
          ((((uVX (hL (cH t)) (vL (d0Vi (clP t) x)) (vL (cV t))).set (12 : Nat) (D.str [bif b then (1 : Int) else (0 : Int)])).set (10 : Nat)
          (D.str [bif oneX ((uVX (hL (cH t)) (vL (d0Vi (clP t) x)) (vL (cV t))).set (12 : Nat) (D.str [bif b then (1 : Int) else (0 : Int)])) (8 : Int) then (1 : Int) else (0 : Int)])).set
          (11 : Nat)
          (D.str
          [bif
          !oneX
          (((uVX (hL (cH t)) (vL (d0Vi (clP t) x)) (vL (cV t))).set (12 : Nat) (D.str [bif b then (1 : Int) else (0 : Int)])).set (10 : Nat)
          (D.str [bif oneX ((uVX (hL (cH t)) (vL (d0Vi (clP t) x)) (vL (cV t))).set (12 : Nat) (D.str [bif b then (1 : Int) else (0 : Int)])) (8 : Int) then (1 : Int) else (0 : Int)]))
          (9 : Int) then
          (1 : Int)
          else (0 : Int)]))]] =
          [D.st [D.st (hL h), D.st (vL v)]] ∧
          okc v) ∧
          True ∧
          match
          !objX (uHX (hL (dHi (clP t) x)) (hL (cH t)))
          ((((uVX (hL (cH t)) (vL (d0Vi (clP t) x)) (vL (cV t))).set (12 : Nat) (D.str [bif b then (1 : Int) else (0 : Int)])).set (10 : Nat)
          (D.str [bif oneX ((uVX (hL (cH t)) (vL (d0Vi (clP t) x)) (vL (cV t))).set (12 : Nat) (D.str [bif b then (1 : Int) else (0 : Int)])) (8 : Int) then (1 : Int) else (0 : Int)])).set
          (11 : Nat)
          (D.str
          [bif
          !oneX
          (((uVX (hL (cH t)) (vL (d0Vi (clP t) x)) (vL (cV t))).set (12 : Nat) (D.str [bif b then (1 : Int) else (0 : Int)])).set (10 : Nat)
          (D.str [bif oneX ((uVX (hL (cH t)) (vL (d0Vi (clP t) x)) (vL (cV t))).set (12 : Nat) (D.str [bif b then (1 : Int) else (0 : Int)])) (8 : Int) then (1 : Int) else (0 : Int)]))
          (9 : Int) then
          (1 : Int)
          else (0 : Int)])) with
          | true =>
           True ∧
           (Sk.st
           [Sk.st [Sk.one, Sk.one, Sk.one, Sk.one, Sk.one, Sk.one, Sk.one, Sk.one, Sk.one, Sk.one, Sk.one, Sk.one, Sk.one, Sk.one, Sk.one, Sk.one, Sk.one, Sk.one, Sk.one],
           Sk.st [Sk.one, Sk.one, Sk.one, Sk.one, Sk.one, Sk.one, Sk.one, Sk.one, Sk.one, Sk.one, Sk.one, Sk.one, Sk.one, Sk.one, Sk.one, Sk.one, Sk.one, Sk.one, Sk.one]] =
           Sk.st
           [Sk.st [Sk.one, Sk.one, Sk.one, Sk.one, Sk.one, Sk.one, Sk.one, Sk.one, Sk.one, Sk.one, Sk.one, Sk.one, Sk.one, Sk.one, Sk.one, Sk.one, Sk.one, Sk.one, Sk.one],
           Sk.st [Sk.one, Sk.one, Sk.one, Sk.one, Sk.one, Sk.one, Sk.one, Sk.one, Sk.one, Sk.one, Sk.one, Sk.one, Sk.one, Sk.one, Sk.one, Sk.one, Sk.one, Sk.one, Sk.one]] ∧
           (38 : Nat) ≠ (0 : Nat) ∧ (38 : Nat) = (38 : Nat) ∧ false = false) ∧
           True ∧
           (((38 : Nat) ≠ (0 : Nat) ∧ (38 : Nat) = (38 : Nat) ∧ true = true) ∧ false = false ∧ True) ∧
           D.tup
           [D.st
           [D.st
           [D.val (Value.bool false), D.val (Value.bool false), D.val (Value.bool false), D.val (Value.bool false), D.val (Value.bool false), D.val (Value.bool false), D.val (Value.bool false),
           D.val (Value.bool false), D.val (Value.bool false), D.val (Value.bool false), D.val (Value.bool false), D.val (Value.bool false), D.val (Value.bool false), D.val (Value.bool false),
           D.val (Value.bool false), D.val (Value.bool false), D.val (Value.bool false), D.val (Value.bool false), D.val (Value.bool false)],
           D.st [D.str [], D.str [], D.str [], D.str [], D.str [], D.str [], D.str [], D.str [], D.str [], D.str [], D.str [], D.str [], D.str [], D.str [], D.str [], D.str [], D.str [], D.str [], D.str []]],
           D.val (Value.int IntKind.i64 (12 : Int))] =
           F
          | false =>
           ((38 : Nat) ≠ (0 : Nat) ∧ (38 : Nat) = (38 : Nat) ∧ true = true) ∧
           (sm
           (sk
           (D.st
           [D.st
           [D.val (Value.bool false), D.val (Value.bool false), D.val (Value.bool false), D.val (Value.bool false), D.val (Value.bool false), D.val (Value.bool false), D.val (Value.bool false), D.val (Value.bool false),
           D.val (Value.bool false), D.val (Value.bool false), D.val (Value.bool false), D.val (Value.bool false), D.val (Value.bool false), D.val (Value.bool false), D.val (Value.bool false),
           D.val (Value.bool false), D.val (Value.bool false), D.val (Value.bool false), D.val (Value.bool false)],
           D.st [D.str [], D.str [], D.str [], D.str [], D.str [], D.str [], D.str [], D.str [], D.str [], D.str [], D.str [], D.str [], D.str [], D.str [], D.str [], D.str [], D.str [], D.str [], D.str []]])) ∧
           (38 : Nat) ≠ (0 : Nat) ∧ (38 : Nat) = (38 : Nat) ∧ false = false) ∧
           True ∧
           (((38 : Nat) ≠ (0 : Nat) ∧ (38 : Nat) = (38 : Nat) ∧ true = true) ∧ false = false ∧ True) ∧
           D.tup
           [D.st
           [D.st (uHX (hL (dHi (clP t) x)) (hL (cH t))),
           D.st
           ((((uVX (hL (cH t)) (vL (d0Vi (clP t) x)) (vL (cV t))).set (12 : Nat) (D.str [bif b then (1 : Int) else (0 : Int)])).set (10 : Nat)
           (D.str [bif oneX ((uVX (hL (cH t)) (vL (d0Vi (clP t) x)) (vL (cV t))).set (12 : Nat) (D.str [bif b then (1 : Int) else (0 : Int)])) (8 : Int) then (1 : Int) else (0 : Int)])).set
           (11 : Nat)
           (D.str
           [bif
           !oneX
           (((uVX (hL (cH t)) (vL (d0Vi (clP t) x)) (vL (cV t))).set (12 : Nat) (D.str [bif b then (1 : Int) else (0 : Int)])).set (10 : Nat)
           (D.str [bif oneX ((uVX (hL (cH t)) (vL (d0Vi (clP t) x)) (vL (cV t))).set (12 : Nat) (D.str [bif b then (1 : Int) else (0 : Int)])) (8 : Int) then (1 : Int) else (0 : Int)]))
           (9 : Int) then
           (1 : Int)
           else (0 : Int)]))],
           D.val (Value.int IntKind.i64 (0 : Int))] =
           F
         | false =>
          True ∧
          (∃ (b : Bool), [D.val (Value.bool false)] = [D.val (Value.bool b)]) ∧
          (sm (sk (tg c13.tab (40 : Nat)).zero) ∧ (1 : Nat) < (2 : Nat)) ∧
          ((0 : Int) ≤ (11 : Int) ∧
          (11 : Int) < (↑(19 : Nat) : Int) ∧
          (((uVX (hL (cH t)) (vL (d0Vi (clP t) x)) (vL (cV t))).set (12 : Nat) (D.str [bif b then (1 : Int) else (0 : Int)])).set (10 : Nat)
          (D.str [bif oneX ((uVX (hL (cH t)) (vL (d0Vi (clP t) x)) (vL (cV t))).set (12 : Nat) (D.str [bif b then (1 : Int) else (0 : Int)])) (8 : Int) then (1 : Int) else (0 : Int)])).length =
          (19 : Nat) ∧
          ones
          (((uVX (hL (cH t)) (vL (d0Vi (clP t) x)) (vL (cV t))).set (12 : Nat) (D.str [bif b then (1 : Int) else (0 : Int)])).set (10 : Nat)
          (D.str [bif oneX ((uVX (hL (cH t)) (vL (d0Vi (clP t) x)) (vL (cV t))).set (12 : Nat) (D.str [bif b then (1 : Int) else (0 : Int)])) (8 : Int) then (1 : Int) else (0 : Int)])) ∧
          (1 : Nat) = (1 : Nat)) ∧
          (((1 : Nat) < (2 : Nat) ∧
          (11 : Nat) <
          (((uVX (hL (cH t)) (vL (d0Vi (clP t) x)) (vL (cV t))).set (12 : Nat) (D.str [bif b then (1 : Int) else (0 : Int)])).set (10 : Nat)
          (D.str [bif oneX ((uVX (hL (cH t)) (vL (d0Vi (clP t) x)) (vL (cV t))).set (12 : Nat) (D.str [bif b then (1 : Int) else (0 : Int)])) (8 : Int) then (1 : Int) else (0 : Int)])).length ∧
          sm
          (sk
          ((((uVX (hL (cH t)) (vL (d0Vi (clP t) x)) (vL (cV t))).set (12 : Nat) (D.str [bif b then (1 : Int) else (0 : Int)])).set (10 : Nat)
          (D.str [bif oneX ((uVX (hL (cH t)) (vL (d0Vi (clP t) x)) (vL (cV t))).set (12 : Nat) (D.str [bif b then (1 : Int) else (0 : Int)])) (8 : Int) then (1 : Int) else (0 : Int)])).getD
          (nat_lit 11) default))) ∧
          (1 : Nat) ≠ (0 : Nat) ∧ (1 : Nat) = (1 : Nat) ∧ false = false) ∧
          ((38 : Nat) ≠ (0 : Nat) ∧ (38 : Nat) = (38 : Nat) ∧ true = true) ∧
          (∃ (h : Nat → Bool),
          ∃ (v : Nat → List Int),
          [D.st
          [D.st (uHX (hL (dHi (clP t) x)) (hL (cH t))),
          D.st
          ((((uVX (hL (cH t)) (vL (d0Vi (clP t) x)) (vL (cV t))).set (12 : Nat) (D.str [bif b then (1 : Int) else (0 : Int)])).set (10 : Nat)
          (D.str [bif oneX ((uVX (hL (cH t)) (vL (d0Vi (clP t) x)) (vL (cV t))).set (12 : Nat) (D.str [bif b then (1 : Int) else (0 : Int)])) (8 : Int) then (1 : Int) else (0 : Int)])).set
          (11 : Nat) (D.str [(0 : Int)]))]] =
          [D.st [D.st (hL h), D.st (vL v)]] ∧
          okc v) ∧
          True ∧
          match
          !objX (uHX (hL (dHi (clP t) x)) (hL (cH t)))
          ((((uVX (hL (cH t)) (vL (d0Vi (clP t) x)) (vL (cV t))).set (12 : Nat) (D.str [bif b then (1 : Int) else (0 : Int)])).set (10 : Nat)
          (D.str [bif oneX ((uVX (hL (cH t)) (vL (d0Vi (clP t) x)) (vL (cV t))).set (12 : Nat) (D.str [bif b then (1 : Int) else (0 : Int)])) (8 : Int) then (1 : Int) else (0 : Int)])).set
          (11 : Nat) (D.str [(0 : Int)])) with
          | true =>
           True ∧
           (Sk.st
           [Sk.st [Sk.one, Sk.one, Sk.one, Sk.one, Sk.one, Sk.one, Sk.one, Sk.one, Sk.one, Sk.one, Sk.one, Sk.one, Sk.one, Sk.one, Sk.one, Sk.one, Sk.one, Sk.one, Sk.one],
           Sk.st [Sk.one, Sk.one, Sk.one, Sk.one, Sk.one, Sk.one, Sk.one, Sk.one, Sk.one, Sk.one, Sk.one, Sk.one, Sk.one, Sk.one, Sk.one, Sk.one, Sk.one, Sk.one, Sk.one]] =
           Sk.st
           [Sk.st [Sk.one, Sk.one, Sk.one, Sk.one, Sk.one, Sk.one, Sk.one, Sk.one, Sk.one, Sk.one, Sk.one, Sk.one, Sk.one, Sk.one, Sk.one, Sk.one, Sk.one, Sk.one, Sk.one],
           Sk.st [Sk.one, Sk.one, Sk.one, Sk.one, Sk.one, Sk.one, Sk.one, Sk.one, Sk.one, Sk.one, Sk.one, Sk.one, Sk.one, Sk.one, Sk.one, Sk.one, Sk.one, Sk.one, Sk.one]] ∧
           (38 : Nat) ≠ (0 : Nat) ∧ (38 : Nat) = (38 : Nat) ∧ false = false) ∧
           True ∧
           (((38 : Nat) ≠ (0 : Nat) ∧ (38 : Nat) = (38 : Nat) ∧ true = true) ∧ false = false ∧ True) ∧
           D.tup
           [D.st
           [D.st
           [D.val (Value.bool false), D.val (Value.bool false), D.val (Value.bool false), D.val (Value.bool false), D.val (Value.bool false), D.val (Value.bool false), D.val (Value.bool false), D.val (Value.bool false),
           D.val (Value.bool false), D.val (Value.bool false), D.val (Value.bool false), D.val (Value.bool false), D.val (Value.bool false), D.val (Value.bool false), D.val (Value.bool false), D.val (Value.bool false),
           D.val (Value.bool false), D.val (Value.bool false), D.val (Value.bool false)],
           D.st [D.str [], D.str [], D.str [], D.str [], D.str [], D.str [], D.str [], D.str [], D.str [], D.str [], D.str [], D.str [], D.str [], D.str [], D.str [], D.str [], D.str [], D.str [], D.str []]],
           D.val (Value.int IntKind.i64 (12 : Int))] =
           F
          | false =>
           ((38 : Nat) ≠ (0 : Nat) ∧ (38 : Nat) = (38 : Nat) ∧ true = true) ∧
           (sm
           (sk
           (D.st
           [D.st
           [D.val (Value.bool false), D.val (Value.bool false), D.val (Value.bool false), D.val (Value.bool false), D.val (Value.bool false), D.val (Value.bool false), D.val (Value.bool false), D.val (Value.bool false),
           D.val (Value.bool false), D.val (Value.bool false), D.val (Value.bool false), D.val (Value.bool false), D.val (Value.bool false), D.val (Value.bool false), D.val (Value.bool false), D.val (Value.bool false),
           D.val (Value.bool false), D.val (Value.bool false), D.val (Value.bool false)],
           D.st [D.str [], D.str [], D.str [], D.str [], D.str [], D.str [], D.str [], D.str [], D.str [], D.str [], D.str [], D.str [], D.str [], D.str [], D.str [], D.str [], D.str [], D.str [], D.str []]])) ∧
           (38 : Nat) ≠ (0 : Nat) ∧ (38 : Nat) = (38 : Nat) ∧ false = false) ∧
           True ∧
           (((38 : Nat) ≠ (0 : Nat) ∧ (38 : Nat) = (38 : Nat) ∧ true = true) ∧ false = false ∧ True) ∧
           D.tup
           [D.st
           [D.st (uHX (hL (dHi (clP t) x)) (hL (cH t))),
           D.st
           ((((uVX (hL (cH t)) (vL (d0Vi (clP t) x)) (vL (cV t))).set (12 : Nat) (D.str [bif b then (1 : Int) else (0 : Int)])).set (10 : Nat)
           (D.str [bif oneX ((uVX (hL (cH t)) (vL (d0Vi (clP t) x)) (vL (cV t))).set (12 : Nat) (D.str [bif b then (1 : Int) else (0 : Int)])) (8 : Int) then (1 : Int) else (0 : Int)])).set
           (11 : Nat) (D.str [(0 : Int)]))],
           D.val (Value.int IntKind.i64 (0 : Int))] =
           F
        | false =>
         True ∧
         (∃ (b : Bool), [D.val (Value.bool false)] = [D.val (Value.bool b)]) ∧
         (sm (sk (tg c13.tab (40 : Nat)).zero) ∧ (1 : Nat) < (2 : Nat)) ∧
         ((0 : Int) ≤ (10 : Int) ∧
         (10 : Int) < (↑(19 : Nat) : Int) ∧
         ((uVX (hL (cH t)) (vL (d0Vi (clP t) x)) (vL (cV t))).set (12 : Nat) (D.str [bif b then (1 : Int) else (0 : Int)])).length = (19 : Nat) ∧
         ones ((uVX (hL (cH t)) (vL (d0Vi (clP t) x)) (vL (cV t))).set (12 : Nat) (D.str [bif b then (1 : Int) else (0 : Int)])) ∧ (1 : Nat) = (1 : Nat)) ∧
         (((1 : Nat) < (2 : Nat) ∧
         (10 : Nat) < ((uVX (hL (cH t)) (vL (d0Vi (clP t) x)) (vL (cV t))).set (12 : Nat) (D.str [bif b then (1 : Int) else (0 : Int)])).length ∧
         sm (sk (((uVX (hL (cH t)) (vL (d0Vi (clP t) x)) (vL (cV t))).set (12 : Nat) (D.str [bif b then (1 : Int) else (0 : Int)])).getD (nat_lit 10) default))) ∧
         (1 : Nat) ≠ (0 : Nat) ∧ (1 : Nat) = (1 : Nat) ∧ false = false) ∧
         True ∧
         True ∧
         match b with
         | true =>
          ((38 : Nat) ≠ (0 : Nat) ∧ (38 : Nat) = (38 : Nat) ∧ true = true) ∧
          (∃ (h : Nat → Bool),
          ∃ (v : Nat → List Int),
          ∃ (k : Int),
          [D.st [D.st (uHX (hL (dHi (clP t) x)) (hL (cH t))), D.st (((uVX (hL (cH t)) (vL (d0Vi (clP t) x)) (vL (cV t))).set (12 : Nat) (D.str [bif b then (1 : Int) else (0 : Int)])).set (10 : Nat) (D.str [(0 : Int)]))],
          D.val (Value.int IntKind.i64 (9 : Int))] =
          [D.st [D.st (hL h), D.st (vL v)], D.val (Value.int IntKind.i64 k)] ∧
          (0 : Int) ≤ k ∧ k < (19 : Int)) ∧
          True ∧
          True ∧
          (∃ (b_1 : Bool), [D.val (Value.bool !oneX (((uVX (hL (cH t)) (vL (d0Vi (clP t) x)) (vL (cV t))).set (12 : Nat) (D.str [bif b then (1 : Int) else (0 : Int)])).set (10 : Nat) (D.str [(0 : Int)])) (9 : Int))] = [D.val (Value.bool b_1)]) ∧
          (sm (sk (tg c13.tab (40 : Nat)).zero) ∧ (1 : Nat) < (2 : Nat)) ∧
          ((0 : Int) ≤ (11 : Int) ∧
          (11 : Int) < (↑(19 : Nat) : Int) ∧
          (((uVX (hL (cH t)) (vL (d0Vi (clP t) x)) (vL (cV t))).set (12 : Nat) (D.str [bif b then (1 : Int) else (0 : Int)])).set (10 : Nat) (D.str [(0 : Int)])).length = (19 : Nat) ∧
          ones (((uVX (hL (cH t)) (vL (d0Vi (clP t) x)) (vL (cV t))).set (12 : Nat) (D.str [bif b then (1 : Int) else (0 : Int)])).set (10 : Nat) (D.str [(0 : Int)])) ∧ (1 : Nat) = (1 : Nat)) ∧
          (((1 : Nat) < (2 : Nat) ∧
          (11 : Nat) < (((uVX (hL (cH t)) (vL (d0Vi (clP t) x)) (vL (cV t))).set (12 : Nat) (D.str [bif b then (1 : Int) else (0 : Int)])).set (10 : Nat) (D.str [(0 : Int)])).length ∧
          sm (sk ((((uVX (hL (cH t)) (vL (d0Vi (clP t) x)) (vL (cV t))).set (12 : Nat) (D.str [bif b then (1 : Int) else (0 : Int)])).set (10 : Nat) (D.str [(0 : Int)])).getD (nat_lit 11) default))) ∧
          (1 : Nat) ≠ (0 : Nat) ∧ (1 : Nat) = (1 : Nat) ∧ false = false) ∧
          ((38 : Nat) ≠ (0 : Nat) ∧ (38 : Nat) = (38 : Nat) ∧ true = true) ∧
          (∃ (h : Nat → Bool),
          ∃ (v : Nat → List Int),
          [D.st
          [D.st (uHX (hL (dHi (clP t) x)) (hL (cH t))),
          D.st
          ((((uVX (hL (cH t)) (vL (d0Vi (clP t) x)) (vL (cV t))).set (12 : Nat) (D.str [bif b then (1 : Int) else (0 : Int)])).set (10 : Nat) (D.str [(0 : Int)])).set (11 : Nat)
          (D.str
          [bif !oneX (((uVX (hL (cH t)) (vL (d0Vi (clP t) x)) (vL (cV t))).set (12 : Nat) (D.str [bif b then (1 : Int) else (0 : Int)])).set (10 : Nat) (D.str [(0 : Int)])) (9 : Int) then (1 : Int) else (0 : Int)]))]] =
          [D.st [D.st (hL h), D.st (vL v)]] ∧
          okc v) ∧
          True ∧
          match
          !objX (uHX (hL (dHi (clP t) x)) (hL (cH t)))
          ((((uVX (hL (cH t)) (vL (d0Vi (clP t) x)) (vL (cV t))).set (12 : Nat) (D.str [bif b then (1 : Int) else (0 : Int)])).set (10 : Nat) (D.str [(0 : Int)])).set (11 : Nat)
          (D.str [bif !oneX (((uVX (hL (cH t)) (vL (d0Vi (clP t) x)) (vL (cV t))).set (12 : Nat) (D.str [bif b then (1 : Int) else (0 : Int)])).set (10 : Nat) (D.str [(0 : Int)])) (9 : Int) then (1 : Int) else (0 : Int)])) with
          | true =>
           True ∧
           (Sk.st
           [Sk.st [Sk.one, Sk.one, Sk.one, Sk.one, Sk.one, Sk.one, Sk.one, Sk.one, Sk.one, Sk.one, Sk.one, Sk.one, Sk.one, Sk.one, Sk.one, Sk.one, Sk.one, Sk.one, Sk.one],
           Sk.st [Sk.one, Sk.one, Sk.one, Sk.one, Sk.one, Sk.one, Sk.one, Sk.one, Sk.one, Sk.one, Sk.one, Sk.one, Sk.one, Sk.one, Sk.one, Sk.one, Sk.one, Sk.one, Sk.one]] =
           Sk.st
           [Sk.st [Sk.one, Sk.one, Sk.one, Sk.one, Sk.one, Sk.one, Sk.one, Sk.one, Sk.one, Sk.one, Sk.one, Sk.one, Sk.one, Sk.one, Sk.one, Sk.one, Sk.one, Sk.one, Sk.one],
           Sk.st [Sk.one, Sk.one, Sk.one, Sk.one, Sk.one, Sk.one, Sk.one, Sk.one, Sk.one, Sk.one, Sk.one, Sk.one, Sk.one, Sk.one, Sk.one, Sk.one, Sk.one, Sk.one, Sk.one]] ∧
           (38 : Nat) ≠ (0 : Nat) ∧ (38 : Nat) = (38 : Nat) ∧ false = false) ∧
           True ∧
           (((38 : Nat) ≠ (0 : Nat) ∧ (38 : Nat) = (38 : Nat) ∧ true = true) ∧ false = false ∧ True) ∧
           D.tup
           [D.st
           [D.st
           [D.val (Value.bool false), D.val (Value.bool false), D.val (Value.bool false), D.val (Value.bool false), D.val (Value.bool false), D.val (Value.bool false), D.val (Value.bool false), D.val (Value.bool false),
           D.val (Value.bool false), D.val (Value.bool false), D.val (Value.bool false), D.val (Value.bool false), D.val (Value.bool false), D.val (Value.bool false), D.val (Value.bool false),
           D.val (Value.bool false), D.val (Value.bool false), D.val (Value.bool false), D.val (Value.bool false)],
           D.st [D.str [], D.str [], D.str [], D.str [], D.str [], D.str [], D.str [], D.str [], D.str [], D.str [], D.str [], D.str [], D.str [], D.str [], D.str [], D.str [], D.str [], D.str [], D.str []]],
           D.val (Value.int IntKind.i64 (12 : Int))] =
           F
          | false =>
           ((38 : Nat) ≠ (0 : Nat) ∧ (38 : Nat) = (38 : Nat) ∧ true = true) ∧
           (sm
           (sk
           (D.st
           [D.st
           [D.val (Value.bool false), D.val (Value.bool false), D.val (Value.bool false), D.val (Value.bool false), D.val (Value.bool false), D.val (Value.bool false), D.val (Value.bool false), D.val (Value.bool false),
           D.val (Value.bool false), D.val (Value.bool false), D.val (Value.bool false), D.val (Value.bool false), D.val (Value.bool false), D.val (Value.bool false), D.val (Value.bool false), D.val (Value.bool false),
           D.val (Value.bool false), D.val (Value.bool false), D.val (Value.bool false)],
           D.st [D.str [], D.str [], D.str [], D.str [], D.str [], D.str [], D.str [], D.str [], D.str [], D.str [], D.str [], D.str [], D.str [], D.str [], D.str [], D.str [], D.str [], D.str [], D.str []]])) ∧
           (38 : Nat) ≠ (0 : Nat) ∧ (38 : Nat) = (38 : Nat) ∧ false = false) ∧
           True ∧
           (((38 : Nat) ≠ (0 : Nat) ∧ (38 : Nat) = (38 : Nat) ∧ true = true) ∧ false = false ∧ True) ∧
           D.tup
           [D.st
           [D.st (uHX (hL (dHi (clP t) x)) (hL (cH t))),
           D.st
           ((((uVX (hL (cH t)) (vL (d0Vi (clP t) x)) (vL (cV t))).set (12 : Nat) (D.str [bif b then (1 : Int) else (0 : Int)])).set (10 : Nat) (D.str [(0 : Int)])).set (11 : Nat)
           (D.str
           [bif !oneX (((uVX (hL (cH t)) (vL (d0Vi (clP t) x)) (vL (cV t))).set (12 : Nat) (D.str [bif b then (1 : Int) else (0 : Int)])).set (10 : Nat) (D.str [(0 : Int)])) (9 : Int) then (1 : Int)
           else (0 : Int)]))],
           D.val (Value.int IntKind.i64 (0 : Int))] =
           F
         | false =>
          True ∧
          (∃ (b : Bool), [D.val (Value.bool false)] = [D.val (Value.bool b)]) ∧
          (sm (sk (tg c13.tab (40 : Nat)).zero) ∧ (1 : Nat) < (2 : Nat)) ∧
          ((0 : Int) ≤ (11 : Int) ∧
          (11 : Int) < (↑(19 : Nat) : Int) ∧
          (((uVX (hL (cH t)) (vL (d0Vi (clP t) x)) (vL (cV t))).set (12 : Nat) (D.str [bif b then (1 : Int) else (0 : Int)])).set (10 : Nat) (D.str [(0 : Int)])).length = (19 : Nat) ∧
          ones (((uVX (hL (cH t)) (vL (d0Vi (clP t) x)) (vL (cV t))).set (12 : Nat) (D.str [bif b then (1 : Int) else (0 : Int)])).set (10 : Nat) (D.str [(0 : Int)])) ∧ (1 : Nat) = (1 : Nat)) ∧
          (((1 : Nat) < (2 : Nat) ∧
          (11 : Nat) < (((uVX (hL (cH t)) (vL (d0Vi (clP t) x)) (vL (cV t))).set (12 : Nat) (D.str [bif b then (1 : Int) else (0 : Int)])).set (10 : Nat) (D.str [(0 : Int)])).length ∧
          sm (sk ((((uVX (hL (cH t)) (vL (d0Vi (clP t) x)) (vL (cV t))).set (12 : Nat) (D.str [bif b then (1 : Int) else (0 : Int)])).set (10 : Nat) (D.str [(0 : Int)])).getD (nat_lit 11) default))) ∧
          (1 : Nat) ≠ (0 : Nat) ∧ (1 : Nat) = (1 : Nat) ∧ false = false) ∧
          ((38 : Nat) ≠ (0 : Nat) ∧ (38 : Nat) = (38 : Nat) ∧ true = true) ∧
          (∃ (h : Nat → Bool),
          ∃ (v : Nat → List Int),
          [D.st
          [D.st (uHX (hL (dHi (clP t) x)) (hL (cH t))),
          D.st ((((uVX (hL (cH t)) (vL (d0Vi (clP t) x)) (vL (cV t))).set (12 : Nat) (D.str [bif b then (1 : Int) else (0 : Int)])).set (10 : Nat) (D.str [(0 : Int)])).set (11 : Nat) (D.str [(0 : Int)]))]] =
          [D.st [D.st (hL h), D.st (vL v)]] ∧
          okc v) ∧
          True ∧
          match
          !objX (uHX (hL (dHi (clP t) x)) (hL (cH t)))
          ((((uVX (hL (cH t)) (vL (d0Vi (clP t) x)) (vL (cV t))).set (12 : Nat) (D.str [bif b then (1 : Int) else (0 : Int)])).set (10 : Nat) (D.str [(0 : Int)])).set (11 : Nat) (D.str [(0 : Int)])) with
          | true =>
           True ∧
           (Sk.st
           [Sk.st [Sk.one, Sk.one, Sk.one, Sk.one, Sk.one, Sk.one, Sk.one, Sk.one, Sk.one, Sk.one, Sk.one, Sk.one, Sk.one, Sk.one, Sk.one, Sk.one, Sk.one, Sk.one, Sk.one],
           Sk.st [Sk.one, Sk.one, Sk.one, Sk.one, Sk.one, Sk.one, Sk.one, Sk.one, Sk.one, Sk.one, Sk.one, Sk.one, Sk.one, Sk.one, Sk.one, Sk.one, Sk.one, Sk.one, Sk.one]] =
           Sk.st
           [Sk.st [Sk.one, Sk.one, Sk.one, Sk.one, Sk.one, Sk.one, Sk.one, Sk.one, Sk.one, Sk.one, Sk.one, Sk.one, Sk.one, Sk.one, Sk.one, Sk.one, Sk.one, Sk.one, Sk.one],
           Sk.st [Sk.one, Sk.one, Sk.one, Sk.one, Sk.one, Sk.one, Sk.one, Sk.one, Sk.one, Sk.one, Sk.one, Sk.one, Sk.one, Sk.one, Sk.one, Sk.one, Sk.one, Sk.one, Sk.one]] ∧
           (38 : Nat) ≠ (0 : Nat) ∧ (38 : Nat) = (38 : Nat) ∧ false = false) ∧
           True ∧
           (((38 : Nat) ≠ (0 : Nat) ∧ (38 : Nat) = (38 : Nat) ∧ true = true) ∧ false = false ∧ True) ∧
           D.tup
           [D.st
           [D.st
           [D.val (Value.bool false), D.val (Value.bool false), D.val (Value.bool false), D.val (Value.bool false), D.val (Value.bool false), D.val (Value.bool false), D.val (Value.bool false), D.val (Value.bool false),
           D.val (Value.bool false), D.val (Value.bool false), D.val (Value.bool false), D.val (Value.bool false), D.val (Value.bool false), D.val (Value.bool false), D.val (Value.bool false), D.val (Value.bool false),
           D.val (Value.bool false), D.val (Value.bool false), D.val (Value.bool false)],
           D.st [D.str [], D.str [], D.str [], D.str [], D.str [], D.str [], D.str [], D.str [], D.str [], D.str [], D.str [], D.str [], D.str [], D.str [], D.str [], D.str [], D.str [], D.str [], D.str []]],
           D.val (Value.int IntKind.i64 (12 : Int))] =
           F
          | false =>
           ((38 : Nat) ≠ (0 : Nat) ∧ (38 : Nat) = (38 : Nat) ∧ true = true) ∧
           (sm
           (sk
           (D.st
           [D.st
           [D.val (Value.bool false), D.val (Value.bool false), D.val (Value.bool false), D.val (Value.bool false), D.val (Value.bool false), D.val (Value.bool false), D.val (Value.bool false), D.val (Value.bool false),
           D.val (Value.bool false), D.val (Value.bool false), D.val (Value.bool false), D.val (Value.bool false), D.val (Value.bool false), D.val (Value.bool false), D.val (Value.bool false), D.val (Value.bool false),
           D.val (Value.bool false), D.val (Value.bool false), D.val (Value.bool false)],
           D.st [D.str [], D.str [], D.str [], D.str [], D.str [], D.str [], D.str [], D.str [], D.str [], D.str [], D.str [], D.str [], D.str [], D.str [], D.str [], D.str [], D.str [], D.str [], D.str []]])) ∧
           (38 : Nat) ≠ (0 : Nat) ∧ (38 : Nat) = (38 : Nat) ∧ false = false) ∧
           True ∧
           (((38 : Nat) ≠ (0 : Nat) ∧ (38 : Nat) = (38 : Nat) ∧ true = true) ∧ false = false ∧ True) ∧
           D.tup
           [D.st
           [D.st (uHX (hL (dHi (clP t) x)) (hL (cH t))),
           D.st ((((uVX (hL (cH t)) (vL (d0Vi (clP t) x)) (vL (cV t))).set (12 : Nat) (D.str [bif b then (1 : Int) else (0 : Int)])).set (10 : Nat) (D.str [(0 : Int)])).set (11 : Nat) (D.str [(0 : Int)]))],
           D.val (Value.int IntKind.i64 (0 : Int))] =
           F
       | false =>
        ((38 : Nat) ≠ (0 : Nat) ∧ (38 : Nat) = (38 : Nat) ∧ true = true) ∧
        (∃ (h : Nat → Bool), ∃ (v : Nat → List Int), [D.st [D.st (uHX (hL (dHi (clP t) x)) (hL (cH t))), D.st (uVX (hL (cH t)) (vL (d0Vi (clP t) x)) (vL (cV t)))]] = [D.st [D.st (hL h), D.st (vL v)]] ∧ okc v) ∧
        True ∧
        match !objX (uHX (hL (dHi (clP t) x)) (hL (cH t))) (uVX (hL (cH t)) (vL (d0Vi (clP t) x)) (vL (cV t))) with
        | true =>
         True ∧
         (Sk.st
         [Sk.st [Sk.one, Sk.one, Sk.one, Sk.one, Sk.one, Sk.one, Sk.one, Sk.one, Sk.one, Sk.one, Sk.one, Sk.one, Sk.one, Sk.one, Sk.one, Sk.one, Sk.one, Sk.one, Sk.one],
         Sk.st [Sk.one, Sk.one, Sk.one, Sk.one, Sk.one, Sk.one, Sk.one, Sk.one, Sk.one, Sk.one, Sk.one, Sk.one, Sk.one, Sk.one, Sk.one, Sk.one, Sk.one, Sk.one, Sk.one]] =
         Sk.st
         [Sk.st [Sk.one, Sk.one, Sk.one, Sk.one, Sk.one, Sk.one, Sk.one, Sk.one, Sk.one, Sk.one, Sk.one, Sk.one, Sk.one, Sk.one, Sk.one, Sk.one, Sk.one, Sk.one, Sk.one],
         Sk.st [Sk.one, Sk.one, Sk.one, Sk.one, Sk.one, Sk.one, Sk.one, Sk.one, Sk.one, Sk.one, Sk.one, Sk.one, Sk.one, Sk.one, Sk.one, Sk.one, Sk.one, Sk.one, Sk.one]] ∧
         (38 : Nat) ≠ (0 : Nat) ∧ (38 : Nat) = (38 : Nat) ∧ false = false) ∧
         True ∧
         (((38 : Nat) ≠ (0 : Nat) ∧ (38 : Nat) = (38 : Nat) ∧ true = true) ∧ false = false ∧ True) ∧
         D.tup
         [D.st
         [D.st
         [D.val (Value.bool false), D.val (Value.bool false), D.val (Value.bool false), D.val (Value.bool false), D.val (Value.bool false), D.val (Value.bool false), D.val (Value.bool false), D.val (Value.bool false), D.val (Value.bool false),
         D.val (Value.bool false), D.val (Value.bool false), D.val (Value.bool false), D.val (Value.bool false), D.val (Value.bool false), D.val (Value.bool false), D.val (Value.bool false), D.val (Value.bool false), D.val (Value.bool false),
         D.val (Value.bool false)],
         D.st [D.str [], D.str [], D.str [], D.str [], D.str [], D.str [], D.str [], D.str [], D.str [], D.str [], D.str [], D.str [], D.str [], D.str [], D.str [], D.str [], D.str [], D.str [], D.str []]],
         D.val (Value.int IntKind.i64 (12 : Int))] =
         F
        | false =>
         ((38 : Nat) ≠ (0 : Nat) ∧ (38 : Nat) = (38 : Nat) ∧ true = true) ∧
         (sm
         (sk
         (D.st
         [D.st
         [D.val (Value.bool false), D.val (Value.bool false), D.val (Value.bool false), D.val (Value.bool false), D.val (Value.bool false), D.val (Value.bool false), D.val (Value.bool false), D.val (Value.bool false), D.val (Value.bool false), D.val (Value.bool false),
         D.val (Value.bool false), D.val (Value.bool false), D.val (Value.bool false), D.val (Value.bool false), D.val (Value.bool false), D.val (Value.bool false), D.val (Value.bool false), D.val (Value.bool false), D.val (Value.bool false)],
         D.st [D.str [], D.str [], D.str [], D.str [], D.str [], D.str [], D.str [], D.str [], D.str [], D.str [], D.str [], D.str [], D.str [], D.str [], D.str [], D.str [], D.str [], D.str [], D.str []]])) ∧
         (38 : Nat) ≠ (0 : Nat) ∧ (38 : Nat) = (38 : Nat) ∧ false = false) ∧
         True ∧ (((38 : Nat) ≠ (0 : Nat) ∧ (38 : Nat) = (38 : Nat) ∧ true = true) ∧ false = false ∧ True) ∧ D.tup [D.st [D.st (uHX (hL (dHi (clP t) x)) (hL (cH t))), D.st (uVX (hL (cH t)) (vL (d0Vi (clP t) x)) (vL (cV t)))], D.val (Value.int IntKind.i64 (0 : Int))] = F) := by kernel_rfl
theorem mk_fail {t : List D} (b : Bool) {e : Int} (h : mkF t = e) (he : e ≠ 0) : D.tup [D.slc 2 [], i64 e] = D.tup [.slc 2 (mkL t b), i64 (mkE t b)] := by
 have h1 : mkE t b = e := by unfold mkE; rw [h, if_pos he]
 have h2 : mkL t b = [] := by unfold mkL; rw [h1, if_neg he]
 rw [h1, h2]
theorem tk_at {t : List D} {x : Nat} (hx : x < t.length) (h0 : tkN t x = 0) {e : Int} (hI : tkI t x = e) (he : e ≠ 0) : tkN t t.length = e := by
 have h1 : tkN t (x + 1) = e := by rw [tkN, if_pos h0]; exact hI
 rw [tkN_stop (n := x + 1) (by rw [h1]; exact he) t.length hx, h1]
theorem tk_step {t : List D} {x : Nat} (h0 : tkN t x = 0) (hI : tkI t x = 0) : tkN t (x + 1) = 0 := by rw [tkN, if_pos h0]; exact hI
theorem mkF_1 {t : List D} (h : afE t ≠ 0) : mkF t = afE t := by unfold mkF; rw [if_pos h]
theorem mkF_2 {t : List D} (h : ¬afE t ≠ 0) (h2 : clP t = 0) : mkF t = 1 := by unfold mkF; rw [if_neg h, if_pos h2]
theorem mkF_3 {t : List D} (h : ¬afE t ≠ 0) (h2 : clP t ≠ 0) {e : Int} (h3 : tkN t t.length = e) (he : e ≠ 0) : mkF t = e := by
 unfold mkF; rw [if_neg h, if_neg h2, h3, if_pos he]
theorem mkF_4 {t : List D} (h : ¬afE t ≠ 0) (h2 : clP t ≠ 0) (h3 : tkN t t.length = 0) (h4 : has 4 t = false) : mkF t = 3 := by
 unfold mkF; rw [if_neg h, if_neg h2, h3, if_neg (by decide), if_pos h4]
theorem mkF_5 {t : List D} (h : ¬afE t ≠ 0) (h2 : clP t ≠ 0) (h3 : tkN t t.length = 0) (h4 : has 4 t = true) (h5 : szR (clP t) (vl 4 t).length = false) : mkF t = 4 := by
 unfold mkF; rw [if_neg h, if_neg h2, h3, if_neg (by decide), if_neg (by rw [h4]; decide), if_pos h5]
theorem mkF_6 {t : List D} (h : ¬afE t ≠ 0) (h2 : clP t ≠ 0) (h3 : tkN t t.length = 0) (h4 : has 4 t = true) (h5 : szR (clP t) (vl 4 t).length = true) : mkF t = 0 := by
 unfold mkF; rw [if_neg h, if_neg h2, h3, if_neg (by decide), if_neg (by rw [h4]; decide), if_neg (by rw [h5]; decide)]
theorem mm_bel {c k : Int} (hc : 1 ≤ c ∧ c ≤ 4) (hk : 1 ≤ k ∧ k ≤ 18) : mmB k (kdL c) = belB c k := by
 obtain ⟨n, rfl⟩ : ∃ n : Nat, k = n := ⟨k.toNat, by omega⟩
 have := kd_mem hc (k := n) (by omega)
 unfold mmB
 rw [Bool.eq_iff_iff, decide_eq_true_iff, this]
 unfold dH
 rw [decide_eq_true (show 1 ≤ n by omega), Bool.true_and]
theorem kd_len (c : Int) : (kdL c).length ≤ 20 := by
 unfold kdL lastK
 rw [List.length_append, kdP_len]
 split
 ·split <;> first | (simp; done) | (split <;> simp)
 ·split
  ·split <;> first | (simp; done) | (split <;> simp)
  ·split
   ·split <;> first | (simp; done) | (split <;> simp)
   ·split <;> first | (simp; done) | (split <;> simp)
theorem ouL_len (t : List D) (b : Bool) : (ouL t b).length = (kdL (clP t)).length := by unfold ouL; rw [List.length_map]
theorem ou_take {t : List D} (b : Bool) {x : Nat} (hx : x < (kdL (clP t)).length) {v : List Int} (hv : v = ouV t b ((kdL (clP t)).getD x 0)) :
  (ouL t b).take x ++ [D.st [i64 ((kdL (clP t)).getD x 0), D.ints .u8 v]] = (ouL t b).take (x + 1) := by
 subst hv
 have hl : x < (ouL t b).length := by rw [ouL_len]; exact hx
 rw [take_snoc hl]
 congr 2
 unfold ouL
 simp only [List.getD_eq_getElem?_getD, List.getElem?_map, List.getElem?_eq_getElem hx]
 rfl
set_option maxRecDepth 100000 in
theorem m60 : Meets Try.prog 60 sp60 := by
 refine meets_of_owed (C := c60) ⟨tab_ok, lkS_ok ⟨m25, m94, m28, trivial⟩⟩ (by kernel_rfl) (by kernel_rfl : Try.prog.funcs[60]? = some Try.f60) (by kernel_rfl) (by kernel_rfl) (by kernel_rfl) _ ?_
 rintro _ ⟨t, k, c, b, rfl, ht⟩
 refine ⟨(fun h => by cases h), fun _ => none, ?_⟩
 show owed c60 (fun _ => none) Try.f60 [.slc 2 t, i64 k, u8i c, bl b] (.ints .u8 (msL t k c b))
 rw [vc60]
 have exb : ∀ X : Bool, (∃ b : Bool, [D.val (Value.bool X)] = [D.val (Value.bool b)]) = True := fun X => eq_true ⟨X, rfl⟩
 have exl : ∀ J : Int, (∃ (l : List D), ∃ (j : Int), [D.slc 2 t, D.val (Value.int IntKind.i64 J)] = [D.slc 2 l, D.val (Value.int IntKind.i64 j)] ∧ okl l) = True := fun J => eq_true ⟨_, _, rfl, ht⟩
 simp (decide := true) only [exb, exl, eq_self, true_and, and_true, ne_eq, not_false_eq_true]
 have nb : ∀ {b : Int}, k ≠ b → (k == b) = false := beq_eq_false_iff_ne.2
 by_cases k2 : k = 2
 ·subst k2; rfl
 by_cases k3 : k = 3
 ·subst k3; rfl
 by_cases k6 : k = 6
 ·subst k6
  show match c == 2 with | true => D.ints IntKind.u8 [1] = D.ints .u8 [cond (decide (c = 2 ∨ c = 4)) 1 0] | false => D.ints IntKind.u8 [bif c == 4 then 1 else 0] = D.ints .u8 [cond (decide (c = 2 ∨ c = 4)) 1 0]
  split
  ·rename_i h; rw [decide_eq_true (.inl (eq_of_beq h))]; rfl
  ·rename_i h
   have h : c ≠ 2 := fun e => by rw [e] at h; exact absurd h (by decide)
   congr 2
   by_cases h4 : c = 4
   ·subst h4; rfl
   ·rw [show (c == 4) = false from beq_eq_false_iff_ne.2 h4, decide_eq_false (by omega)]
 by_cases k7 : k = 7
 ·subst k7; rfl
 by_cases k9 : k = 9
 ·subst k9; rfl
 by_cases k12 : k = 12
 ·subst k12; rfl
 by_cases k10 : k = 10
 ·subst k10; cases b <;> rfl
 by_cases k11 : k = 11
 ·subst k11
  cases b
  ·rfl
  ·show match has 9 t with | true => D.ints IntKind.u8 [bif !isb 9 t then 1 else 0] = D.ints .u8 [cond (true && (has 9 t && !isb 9 t)) 1 0] | false => D.ints IntKind.u8 [0] = D.ints .u8 [cond (true && (has 9 t && !isb 9 t)) 1 0]
   cases has 9 t <;> rfl
 simp only [nb k2, nb k3, nb k6, nb k7, nb k9, nb k12, nb k10, nb k11]
 unfold msL
 rw [if_neg (by omega), if_neg k6, if_neg (by omega), if_neg k12, if_neg k10, if_neg k11]
set_option maxRecDepth 100000 in
theorem m12 : Meets Try.prog 12 sp12 := by
 refine meets_of_owed (C := c12) ⟨tab_ok, lkS_ok ⟨m27, m57, m15, m58, m25, m59, m60, m16, trivial⟩⟩ (by kernel_rfl) (by kernel_rfl : Try.prog.funcs[12]? = some Try.f12) (by kernel_rfl) (by kernel_rfl) (by kernel_rfl) _ ?_
 rintro _ ⟨t, b, rfl, ht⟩
 refine ⟨(fun h => by cases h), inv12 t b, ?_⟩
 show owed c12 (inv12 t b) Try.f12 [.slc 2 t, bl b] (.tup [.slc 2 (mkL t b), i64 (mkE t b)])
 rw [vc12]
 have ht2 := ht.2
 have hkl := kd_len (clP t)
 have ex1 : (∃ (l : List D), [D.slc 2 t] = [D.slc 2 l] ∧ okl l) = True := eq_true ⟨_, rfl, ht⟩
 have ex2 : (∃ (c : Int), [D.val (Value.int IntKind.u8 (clP t))] = [D.val (Value.int IntKind.u8 c)]) = True := eq_true ⟨_, rfl⟩
 have ex3 : ∀ J : Int, (∃ (l : List D), ∃ (j : Int), [D.slc 2 t, D.val (Value.int IntKind.i64 J)] = [D.slc 2 l, D.val (Value.int IntKind.i64 j)] ∧ okl l) = True := fun J => eq_true ⟨_, _, rfl, ht⟩
 have ex4 : ∀ N : Nat, (∃ (c : Int), ∃ (n : Nat), [D.val (Value.int IntKind.u8 (clP t)), D.val (Value.int IntKind.i64 (N : Int))] = [D.val (Value.int IntKind.u8 c), D.val (Value.int IntKind.i64 (n : Int))]) = True := fun N => eq_true ⟨_, _, rfl⟩
 have ex5 : ∀ K : Int, (∃ (ks : List Int), ∃ (k : Int), [D.ints IntKind.i64 (kdL (clP t)), D.val (Value.int IntKind.i64 K)] = [D.ints IntKind.i64 ks, D.val (Value.int IntKind.i64 k)] ∧ okn ks.length) = True := fun K => eq_true ⟨_, _, rfl, by unfold okn; omega⟩
 have ex6 : ∀ K : Int, (∃ (t_1 : List D), ∃ (k : Int), ∃ (c : Int), ∃ (b_1 : Bool), [D.slc 2 t, D.val (Value.int IntKind.i64 K), D.val (Value.int IntKind.u8 (clP t)), D.val (Value.bool b)] = [D.slc 2 t_1, D.val (Value.int IntKind.i64 k), D.val (Value.int IntKind.u8 c), D.val (Value.bool b_1)] ∧ okl t_1) = True := fun K => eq_true ⟨_, _, _, _, rfl, ht⟩
 simp (decide := true) only [ex1, ex2, ex3, ex4, ex5, ex6, eq_self, true_and, and_true, ne_eq, not_false_eq_true, Int.toNat_natCast]
 split
 ·rename_i h
  exact mk_fail b (mkF_1 (bne_iff_ne.1 h)) (bne_iff_ne.1 h)
 rename_i h
 have f1 : ¬afE t ≠ 0 := fun e => e (bne_eq_false_iff_eq.1 h)
 have hf := fine_of (bne_eq_false_iff_eq.1 h)
 split
 ·rename_i h2
  exact mk_fail b (mkF_2 f1 (eq_of_beq h2)) (by decide)
 rename_i h2
 have f2 : clP t ≠ 0 := fun e => by rw [e] at h2; exact absurd h2 (by decide)
 have hc := fine_class hf (class_has f2)
 refine ⟨?_, ?_⟩
 ·and_intros <;> first | rfl | exact Nat.zero_le _
 rintro x ⟨hx, h0⟩
 split
 ·rename_i h
  have h : x < t.length := by have := of_decide_eq_true h; omega
  obtain ⟨k, v, e, h1, h2⟩ := el ht h
  have ek : kOf (t.getD x default) = k := by rw [show t.getD x default = at_ k v from e]; rfl
  have hk := hf.kind x h
  rw [ek] at hk
  simp only [e, f0_at, f1_at, ex5, wS h ht2, mm_bel hc hk, true_and, Int.toNat_natCast]
  refine ⟨⟨by omega, by omega, trivial⟩, ?_⟩
  split
  ·rename_i hb
   exact mk_fail b (mkF_3 f1 f2 (tk_at h h0 (e := 13) (by unfold tkI; rw [ek, if_pos (by simpa using hb)]) (by decide)) (by decide)) (by decide)
  rename_i hb
  have hb : ¬ belB (clP t) k = false := by simpa using hb
  have t12 : 10 ≤ k ∧ k ≤ 12 → tkI t x = 12 := fun a => by unfold tkI; rw [ek, if_neg hb, if_pos a]
  split
  ·rename_i a
   have a := eq_of_beq a
   exact mk_fail b (mkF_3 f1 f2 (tk_at h h0 (t12 (by omega)) (by decide)) (by decide)) (by decide)
  rename_i a1
  split
  ·rename_i a
   have a := eq_of_beq a
   exact mk_fail b (mkF_3 f1 f2 (tk_at h h0 (t12 (by omega)) (by decide)) (by decide)) (by decide)
  rename_i a2
  split
  ·rename_i a
   have a := eq_of_beq a
   exact mk_fail b (mkF_3 f1 f2 (tk_at h h0 (t12 (by omega)) (by decide)) (by decide)) (by decide)
  rename_i a3
  have a1 : k ≠ 10 := fun e => by rw [e] at a1; exact absurd a1 (by decide)
  have a2 : k ≠ 11 := fun e => by rw [e] at a2; exact absurd a2 (by decide)
  have a3 : k ≠ 12 := fun e => by rw [e] at a3; exact absurd a3 (by decide)
  exact ⟨⟨h, tk_step h0 (by unfold tkI; rw [ek, if_neg hb, if_neg (by omega)])⟩, by omega⟩
 rename_i h
 have h := of_decide_eq_false h
 obtain rfl : x = t.length := by omega
 cases f4 : has 4 t
 ·exact mk_fail b (mkF_4 f1 f2 h0 f4) (by decide)
 simp only [Bool.not_true]
 rw [szPR hc]
 cases f5 : szR (clP t) (vl 4 t).length
 ·exact mk_fail b (mkF_5 f1 f2 h0 f4 f5) (by decide)
 simp only [Bool.not_true]
 have f6 := mkF_6 f1 f2 h0 f4 f5
 refine ⟨?_, fun x hx => ?_⟩
 ·and_intros <;> first | rfl | exact Nat.zero_le _
 split
 ·rename_i h
  have h : x < (kdL (clP t)).length := by have := of_decide_eq_true h; omega
  have hL1 : ((ouL t b).take (x + 1)).length ≤ 20 := by rw [List.length_take, ouL_len]; omega
  simp only [wS h (show (kdL (clP t)).length ≤ 140737488351232 by omega), Int.toNat_natCast]
  refine ⟨⟨by omega, by omega⟩, ?_⟩
  cases hh : has ((kdL (clP t)).getD x 0) t
  ·have e := ou_take b h (v := msL t ((kdL (clP t)).getD x 0) (clP t) b) (by unfold ouV; rw [hh, if_neg (by decide)])
   simp only [Bool.not_false, e]
   and_intros <;> first | rfl | omega | trivial
  ·have e := ou_take b h (v := vl ((kdL (clP t)).getD x 0) t) (by unfold ouV; rw [hh, if_pos rfl])
   simp only [Bool.not_true, e]
   and_intros <;> first | rfl | omega | trivial
 ·rename_i h
  have h := of_decide_eq_false h
  obtain rfl : x = (kdL (clP t)).length := by omega
  have e : (ouL t b).take (kdL (clP t)).length = ouL t b := by rw [← ouL_len t b, List.take_length]
  simp only [e]
  refine ⟨⟨_, rfl, ouL_ok ht b⟩, ?_⟩
  cases hv : valB (ouL t b)
  ·simp only [Bool.not_false]
   have h1 : mkE t b = 12 := by unfold mkE; rw [f6, if_neg (by decide), if_pos hv]
   have h2 : mkL t b = [] := by unfold mkL; rw [h1, if_neg (by decide)]
   rw [h1, h2]
  ·simp only [Bool.not_true]
   have h1 : mkE t b = 0 := by unfold mkE; rw [f6, if_neg (by decide), if_neg (by rw [hv]; decide)]
   have h2 : mkL t b = ouL t b := by unfold mkL; rw [h1, if_pos rfl]
   rw [h1, h2]
end Go.Proofs.Ytfbaghocbipbiaa
namespace Go.Proofs.Ytfbaghocbipbiaa
open Go Go.Vg
theorem md_fail {t : List D} (b : Bool) {e : Int} (h : mkF t = e) (he : e ≠ 0) : D.tup [cdL (fun _ => false) (fun _ => []), i64 e] = D.tup [cdL (mdH t b) (mdV t b), i64 (mdE t b)] := by
 have h1 : mdE t b = e := by unfold mdE; rw [h, if_pos he]
 have h2 : hL (mdH t b) = hL fun _ => false := hL_congr fun k _ => by unfold mdH; rw [h1, decide_eq_false he, Bool.false_and]
 have h3 : vL (mdV t b) = vL fun _ => [] := vL_congr fun k _ => by unfold mdV; rw [h1, if_neg he]
 show D.tup [D.st [D.st (hL fun _ => false), D.st (vL fun _ => [])], i64 e] = D.tup [D.st [D.st (hL (mdH t b)), D.st (vL (mdV t b))], i64 (mdE t b)]
 rw [h1, h2, h3]
theorem set_one : ∀ (l : List Sk) (x : Nat), (∀ e ∈ l, e = .one) → l.set x .one = l
 | [], _, _ => rfl
 | a :: l, 0, h => by rw [List.set_cons_zero, h a (List.mem_cons_self ..)]
 | a :: l, x + 1, h => by rw [List.set_cons_succ, set_one l x fun e he => h e (List.mem_cons_of_mem _ he)]
theorem sks_map : ∀ l : List D, sks l = l.map sk
 | [] => rfl
 | d :: l => by rw [sks, sks_map l]; rfl
theorem sks_set18 (f : Nat → Bool) (x : Nat) : sks ([bl (f 1), bl (f 2), bl (f 3), bl (f 4), bl (f 5), bl (f 6), bl (f 7), bl (f 8), bl (f 9), bl (f 10), bl (f 11), bl (f 12), bl (f 13), bl (f 14), bl (f 15), bl (f 16), bl (f 17), bl (f 18)].set x (bl true)) = List.replicate 18 .one := by
 rw [sks_map, List.map_set]
 exact set_one _ x (by intro e he; simp [sk] at he; exact he)
theorem dHi_step {c : Int} {x : Nat} (h : belB c ((x + 1 : Nat) : Int) = true) : (hL fun j => if j = x + 1 then true else dHi c x j) = hL (dHi c (x + 1)) := by
 refine hL_congr fun j _ => ?_
 unfold dHi
 by_cases e : j = x + 1
 ·subst e
  rw [if_pos rfl, decide_eq_true (Nat.le_refl _), Bool.true_and]
  unfold dH
  rw [h, decide_eq_true (by omega)]; rfl
 ·rw [if_neg e]
  by_cases e2 : j ≤ x
  ·rw [decide_eq_true e2, decide_eq_true (by omega)]
  ·rw [decide_eq_false e2, decide_eq_false (by omega)]
theorem dHi_keep {c : Int} {x : Nat} (h : belB c ((x + 1 : Nat) : Int) = false) : hL (dHi c x) = hL (dHi c (x + 1)) ∧ vL (d0Vi c x) = vL (d0Vi c (x + 1)) := by
 constructor
 ·refine hL_congr fun j _ => ?_
  unfold dHi
  by_cases e : j = x + 1
  ·subst e
   unfold dH
   rw [h, Bool.and_false, Bool.and_false, Bool.and_false]
  ·by_cases e2 : j ≤ x
   ·rw [decide_eq_true e2, decide_eq_true (by omega)]
   ·rw [decide_eq_false e2, decide_eq_false (by omega)]
 ·refine vL_congr fun j _ => ?_
  unfold d0Vi
  by_cases e : j = x + 1
  ·subst e
   rw [if_neg (by omega), if_pos (Nat.le_refl _)]
   unfold d0V
   rw [if_neg (by rw [h]; rintro ⟨a, _⟩; cases a)]
  ·by_cases e2 : j ≤ x
   ·rw [if_pos e2, if_pos (by omega)]
   ·rw [if_neg e2, if_neg (by omega)]
theorem d0Vi_low {c : Int} {x : Nat} (h : ¬ 4 < x + 1) : vL (d0Vi c x) = vL (d0Vi c (x + 1)) := by
 refine vL_congr fun j _ => ?_
 unfold d0Vi
 by_cases e : j = x + 1
 ·subst e
  rw [if_neg (by omega), if_pos (Nat.le_refl _)]
  unfold d0V
  rw [if_neg (by rintro ⟨_, a⟩; exact h a)]
 ·by_cases e2 : j ≤ x
  ·rw [if_pos e2, if_pos (by omega)]
  ·rw [if_neg e2, if_neg (by omega)]
theorem d0Vi_step {c : Int} {x : Nat} {v : List Int} (hv : v = d0V c (x + 1)) : vL (setV (d0Vi c x) (x + 1) v) = vL (d0Vi c (x + 1)) := by
 subst hv
 refine vL_congr fun j _ => ?_
 unfold setV d0Vi
 by_cases e : j = x + 1
 ·subst e
  rw [if_pos rfl, if_pos (Nat.le_refl _)]
 ·rw [if_neg e]
  by_cases e2 : j ≤ x
  ·rw [if_pos e2, if_pos (by omega)]
  ·rw [if_neg e2, if_neg (by omega)]
theorem dHi_end (c : Int) : hL (dHi c 18) = hL (dH c) ∧ vL (d0Vi c 18) = vL (d0V c) :=
 ⟨hL_congr fun j hj => by unfold dHi; rw [decide_eq_true (show j ≤ 18 by omega), Bool.true_and], vL_congr fun j hj => by unfold d0Vi; rw [if_pos (show j ≤ 18 by omega)]⟩
theorem zero_card (c : Int) : hL (dHi c 0) = hL (fun _ => false) ∧ vL (d0Vi c 0) = vL (fun _ => []) := by
 refine ⟨hL_congr fun j _ => ?_, vL_congr fun j _ => ?_⟩
 ·unfold dHi dH
  cases j with
  | zero => rfl
  | succ j => rfl
 ·unfold d0Vi
  split
  ·unfold d0V
   rw [if_neg (by omega)]
  ·rfl
theorem okc_flg {v : Nat → List Int} (h : okc v) (j : Nat) (b : Bool) : okc (setV v j [cond b 1 0]) := by
 intro k hk
 unfold setV
 split
 ·exact flg_ok b
 ·exact h k hk
theorem okc_d1 {t : List D} (ht : okl t) : okc (d1V t) := by
 intro k hk
 unfold d1V upV
 split
 ·exact cV_ok ht k
 ·unfold d0V
  split
  ·exact flg_ok _
  ·exact ⟨by decide, fun x hx => by cases hx⟩
theorem vL_set12 (v : Nat → List Int) (x : List Int) : (vL v).set 12 (D.str x) = vL (setV v 12 x) := vL_set v 12 x
theorem vL_set10 (v : Nat → List Int) (x : List Int) : (vL v).set 10 (D.str x) = vL (setV v 10 x) := vL_set v 10 x
theorem vL_set11 (v : Nat → List Int) (x : List Int) : (vL v).set 11 (D.str x) = vL (setV v 11 x) := vL_set v 11 x
set_option maxHeartbeats 2000000 in
set_option maxRecDepth 100000 in
theorem m13 : Meets Try.prog 13 sp13 := by
  refine meets_of_owed (C := c13) ⟨tab_ok, lkS_ok ⟨m22, m24, m61, m11, m62, m63, m36, m64, m65, trivial⟩⟩ (by kernel_rfl) (by kernel_rfl : Try.prog.funcs[13]? = some Try.f13) (by kernel_rfl) (by kernel_rfl) (by kernel_rfl) _ ?_
  rintro _ ⟨t, b, rfl, ht⟩
  refine ⟨fun _ => rfl, inv13 t, ?_⟩
  show owed c13 (inv13 t) Try.f13 [.slc 2 t, bl b] (.tup [.st [.st (hL (mdH t b)), .st (vL (mdV t b))], i64 (mdE t b)])
  rw [vc13]
  have ht2 := ht.2
  have hcc : okc (cV t) := fun k _ => cV_ok ht k
  have ex1 : (∃ (l : List D), [D.slc 2 t] = [D.slc 2 l] ∧ okl l) = True := eq_true ⟨_, rfl, ht⟩
  have ex2 : (∃ (h : Nat → Bool), ∃ (v : Nat → List Int), [D.st [D.st (hL (cH t)), D.st (vL (cV t))]] = [D.st [D.st (hL h), D.st (vL v)]] ∧ okc v) = True := eq_true ⟨_, _, rfl, hcc⟩
  have ex3 : ∀ C K : Int, (∃ (c : Int), ∃ (k : Int), [D.val (Value.int IntKind.i64 C), D.val (Value.int IntKind.i64 K)] = [D.val (Value.int IntKind.i64 c), D.val (Value.int IntKind.i64 k)]) = True := fun C K => eq_true ⟨C, K, rfl⟩
  have ex4 : ∀ (C : Int) (N : Nat), (∃ (c : Int), ∃ (n : Nat), [D.val (Value.int IntKind.i64 C), D.val (Value.int IntKind.i64 (N : Int))] = [D.val (Value.int IntKind.i64 c), D.val (Value.int IntKind.i64 (n : Int))]) = True := fun C N => eq_true ⟨C, N, rfl⟩
  have exb : ∀ X : Bool, (∃ b : Bool, [D.val (Value.bool X)] = [D.val (Value.bool b)]) = True := fun X => eq_true ⟨X, rfl⟩
  have ex5 : ∀ h v g w, (∃ (h_1 : Nat → Bool), ∃ (v_1 : Nat → List Int), ∃ (g_1 : Nat → Bool), ∃ (w_1 : Nat → List Int), [D.st [D.st (hL h), D.st (vL v)], D.st [D.st (hL g), D.st (vL w)]] = [D.st [D.st (hL h_1), D.st (vL v_1)], D.st [D.st (hL g_1), D.st (vL w_1)]]) = True := fun h v g w => eq_true ⟨h, v, g, w, rfl⟩
  have g4 : (hL (cH t)).getD 4 (D.val (Value.bool false)) = bl (cH t 4) := hL_get _ (by decide) _
  have g5 : (vL (cV t)).getD 4 (D.val (Value.bool false)) = .str (cV t 4) := vL_get _ (by decide) _
  simp (decide := true) only [clX_eq, cl_cV, ex1, ex2, ex3, ex4, ex5, exb, g4, g5, hL_len, vL_len, eq_true (hL_ones _), eq_true (vL_ones _), eq_self, true_and, and_true, ne_eq, not_false_eq_true, Int.toNat_natCast]
  split
  · rename_i h
    exact md_fail b (mkF_1 (bne_iff_ne.1 h)) (bne_iff_ne.1 h)
  rename_i h
  have f1 : ¬afE t ≠ 0 := fun e => e (bne_eq_false_iff_eq.1 h)
  have hf := fine_of (bne_eq_false_iff_eq.1 h)
  split
  · rename_i h2
    exact md_fail b (mkF_2 f1 (eq_of_beq h2)) (by decide)
  rename_i h2
  have f2 : clP t ≠ 0 := fun e => by rw [e] at h2; exact absurd h2 (by decide)
  have hc := fine_class hf (class_has f2)
  refine ⟨?_, ?_⟩
  · and_intros <;> first | rfl | exact Nat.zero_le _
  rintro x ⟨hx, h0⟩
  split
  · rename_i h
    have h : x < t.length := by have := of_decide_eq_true h; omega
    obtain ⟨k, v, e, h1, h2⟩ := el ht h
    have ek : kOf (t.getD x default) = k := by rw [show t.getD x default = at_ k v from e]; rfl
    simp only [e, f0_at, f1_at, ex3, wS h ht2, true_and, Int.toNat_natCast]
    refine ⟨⟨by omega, by omega, trivial⟩, ?_⟩
    split
    · rename_i hb
      exact md_fail b (mkF_3 f1 f2 (tk_at h h0 (e := 13) (by unfold tkI; rw [ek, if_pos (by simpa using hb)]) (by decide)) (by decide)) (by decide)
    rename_i hb
    have hb : ¬ belB (clP t) k = false := by simpa using hb
    split
    · rename_i a1
      have a1 := of_decide_eq_true a1
      split
      · rename_i a2
        have a2 := of_decide_eq_true a2
        exact md_fail b (mkF_3 f1 f2 (tk_at h h0 (e := 12) (by unfold tkI; rw [ek, if_neg hb, if_pos ⟨a1, a2⟩]) (by decide)) (by decide)) (by decide)
      · rename_i a2
        have a2 := of_decide_eq_false a2
        exact ⟨⟨h, tk_step h0 (by unfold tkI; rw [ek, if_neg hb, if_neg (by omega)])⟩, by omega⟩
    · rename_i a1
      have a1 := of_decide_eq_false a1
      exact ⟨⟨h, tk_step h0 (by unfold tkI; rw [ek, if_neg hb, if_neg (by omega)])⟩, by omega⟩
  rename_i h
  have h := of_decide_eq_false h
  obtain rfl : x = t.length := by omega
  have e4 : cH t 4 = has 4 t := cH_has t (by decide)
  have e4v : cV t 4 = vl 4 t := cV_eq t (by decide)
  rw [e4, e4v]
  cases f4 : has 4 t
  · exact md_fail b (mkF_4 f1 f2 h0 f4) (by decide)
  simp only [Bool.not_true]
  cases f5 : szR (clP t) (vl 4 t).length
  · exact md_fail b (mkF_5 f1 f2 h0 f4 f5) (by decide)
  simp only [Bool.not_true]
  have f6 := mkF_6 f1 f2 h0 f4 f5
  obtain ⟨z1, z2⟩ := zero_card (clP t)
  refine ⟨?_, fun x hx => ?_⟩
  · have hz : some (Blk.fix (D.st [D.st (hL fun _ => false), D.st (vL fun _ => [])])) = some (Blk.fix (D.st [D.st (hL (dHi (clP t) 0)), D.st (vL (d0Vi (clP t) 0))])) := by rw [z1, z2]
    and_intros <;> first | exact hz | rfl | omega
  split
  · rename_i h
    have h : x + 1 < 19 := by have := of_decide_eq_true h; omega
    have et : ((x : Int) + 1) = ((x + 1 : Nat) : Int) := by omega
    have hw : IntKind.i64.wrap (((x + 1 : Nat) : Int) + 1) = ((x + 2 : Nat) : Int) := by rw [wS h (by omega)]
    have a1 : (0 : Int) ≤ ((x + 1 : Nat) : Int) ∧ ((x + 1 : Nat) : Int) < ((19 : Nat) : Int) := by omega
    have e1 : x + 2 - 1 = x + 1 := rfl
    have hsk := sks_set18 (dHi (clP t) x) x
    simp only [et, ex3, Int.toNat_natCast, hL_get _ h, vL_get _ h, sk_bl, sk_str, sk1, ag_bl, ag_str, boolOf_bl, strOf_str, hw, e1, hL_set, vL_set, hsk, true_and, and_true]
    cases hb : belB (clP t) ((x + 1 : Nat) : Int)
    · obtain ⟨q1, q2⟩ := dHi_keep hb
      simp only [q1, q2]
      and_intros <;> first | rfl | omega | trivial
    · simp only [dHi_step hb]
      refine ⟨a1, h, ?_⟩
      have hd : ∀ v, v = d0V (clP t) (x + 1) → vL (setV (d0Vi (clP t) x) (x + 1) v) = vL (d0Vi (clP t) (x + 1)) := fun v hv => d0Vi_step hv
      split
      · rename_i h4
        have h4 : 4 < x + 1 := by have := of_decide_eq_true h4; omega
        have hdv : d0V (clP t) (x + 1) = flg (decide (x + 1 = 7) || (decide (x + 1 = 9) || (decide (x + 1 = 6) && decide (clP t % 2 = 0)))) := by
          unfold d0V; rw [if_pos ⟨hb, h4⟩]
        split
        · rename_i h7
          have h7 : x + 1 = 7 := by have := eq_of_beq h7; omega
          have := hd [1] (by rw [hdv, decide_eq_true h7]; rfl)
          simp only [this]
          and_intros <;> first | rfl | omega | trivial | exact a1.1 | exact a1.2
        rename_i h7
        have h7 : x + 1 ≠ 7 := fun e => by rw [e] at h7; exact absurd h7 (by decide)
        split
        · rename_i h9
          have h9 : x + 1 = 9 := by have := eq_of_beq h9; omega
          have := hd [1] (by rw [hdv, decide_eq_true h9, Bool.true_or, Bool.or_true]; rfl)
          simp only [this]
          and_intros <;> first | rfl | omega | trivial | exact a1.1 | exact a1.2
        rename_i h9
        have h9 : x + 1 ≠ 9 := fun e => by rw [e] at h9; exact absurd h9 (by decide)
        split
        · rename_i h6
          have h6 : x + 1 = 6 := by have := eq_of_beq h6; omega
          have hm : ((clP t).tmod 2 == 0) = decide (clP t % 2 = 0) := by
            rcases c14 hc with e | e | e | e <;> rw [e] <;> rfl
          have := hd [bif (clP t).tmod 2 == 0 then 1 else 0] (by rw [hdv, decide_eq_false h7, decide_eq_false h9, decide_eq_true h6, Bool.true_and, Bool.false_or, Bool.false_or, hm]; rfl)
          simp only [this]
          and_intros <;> first | rfl | omega | trivial | exact a1.1 | exact a1.2
        · rename_i h6
          have h6 : x + 1 ≠ 6 := fun e => by rw [e] at h6; exact absurd h6 (by decide)
          have := hd [0] (by rw [hdv, decide_eq_false h7, decide_eq_false h9, decide_eq_false h6]; rfl)
          simp only [this]
          and_intros <;> first | rfl | omega | trivial | exact a1.1 | exact a1.2
      · rename_i h4
        have h4 : ¬ 4 < x + 1 := by have := of_decide_eq_false h4; omega
        simp only [d0Vi_low (c := clP t) h4]
        and_intros <;> first | rfl | omega | trivial
  rename_i h
  have h := of_decide_eq_false h
  obtain rfl : x = 18 := by omega
  obtain ⟨q1, q2⟩ := dHi_end (clP t)
  have u1 : uHX (hL (dH (clP t))) (hL (cH t)) = hL (d1H t) := uHX_eq _ _
  have u2 : uVX (hL (cH t)) (vL (d0V (clP t))) (vL (cV t)) = vL (d1V t) := uVX_eq _ _ _
  have hm : ((clP t).tmod 2 == 0) = decide (clP t % 2 = 0) := by
    rcases c14 hc with e | e | e | e <;> rw [e] <;> rfl
  have ok1 := okc_d1 ht
  have ex6 : ∀ h v, okc v → (∃ (h_1 : Nat → Bool), ∃ (v_1 : Nat → List Int), [D.st [D.st (hL h), D.st (vL v)]] = [D.st [D.st (hL h_1), D.st (vL v_1)]] ∧ okc v_1) = True := fun h v hv => eq_true ⟨_, _, rfl, hv⟩
  have ex8 : ∀ h v, (∃ (h_1 : Nat → Bool), ∃ (v_1 : Nat → List Int), ∃ (k : Int), [D.st [D.st (hL h), D.st (vL v)], D.val (Value.int IntKind.i64 8)] = [D.st [D.st (hL h_1), D.st (vL v_1)], D.val (Value.int IntKind.i64 k)] ∧ 0 ≤ k ∧ k < 19) = True := fun h v => eq_true ⟨_, _, _, rfl, by decide⟩
  have ex9 : ∀ h v, (∃ (h_1 : Nat → Bool), ∃ (v_1 : Nat → List Int), ∃ (k : Int), [D.st [D.st (hL h), D.st (vL v)], D.val (Value.int IntKind.i64 9)] = [D.st [D.st (hL h_1), D.st (vL v_1)], D.val (Value.int IntKind.i64 k)] ∧ 0 ≤ k ∧ k < 19) = True := fun h v => eq_true ⟨_, _, _, rfl, by decide⟩
  have o8 : ∀ v : Nat → List Int, oneX (vL v) 8 = oneV v 8 := fun v => oneX_eq v (k := 8) (by decide)
  have o9 : ∀ v : Nat → List Int, oneX (vL v) 9 = oneV v 9 := fun v => oneX_eq v (k := 9) (by decide)
  simp only [q1, q2, ex5, u1, u2, hm, vL_set12, vL_set10, vL_set11, vL_len, eq_true (vL_ones _), o8, o9, ex8, ex9, exb, objX_eq, true_and, and_true]
  have fin : ∀ v, okc v → d2V t b = v → (match (generalizing := false) !objB (d1H t) v with
      | true => D.tup [cdL (fun _ => false) (fun _ => []), i64 12] = D.tup [cdL (mdH t b) (mdV t b), i64 (mdE t b)]
      | false => D.tup [cdL (d1H t) v, i64 0] = D.tup [cdL (mdH t b) (mdV t b), i64 (mdE t b)]) := by
    intro v hv hd
    cases ho : objB (d1H t) v
    · have h1 : mdE t b = 12 := by unfold mdE; rw [f6, if_neg (by decide), hd, if_pos ho]
      have h2 : hL (mdH t b) = hL fun _ => false := hL_congr fun k _ => by unfold mdH; rw [h1]; rfl
      have h3 : vL (mdV t b) = vL fun _ => [] := vL_congr fun k _ => by unfold mdV; rw [h1]; rfl
      show D.tup [D.st [D.st (hL fun _ => false), D.st (vL fun _ => [])], i64 12] = D.tup [D.st [D.st (hL (mdH t b)), D.st (vL (mdV t b))], i64 (mdE t b)]
      rw [h1, h2, h3]
    · have h1 : mdE t b = 0 := by unfold mdE; rw [f6, if_neg (by decide), hd, if_neg (by rw [ho]; decide)]
      have h2 : hL (mdH t b) = hL (d1H t) := hL_congr fun k _ => by unfold mdH; rw [h1]; rfl
      have h3 : vL (mdV t b) = vL v := vL_congr fun k _ => by unfold mdV; rw [h1, if_pos rfl, hd]
      show D.tup [D.st [D.st (hL (d1H t)), D.st (vL v)], i64 0] = D.tup [D.st [D.st (hL (mdH t b)), D.st (vL (mdV t b))], i64 (mdE t b)]
      rw [h1, h2, h3]
  by_cases he : clP t % 2 = 0
  · have hd : d2V t b = setV (setV (setV (d1V t) 12 (flg b)) 10 (flg (b && oneV (setV (d1V t) 12 (flg b)) 8))) 11
        (flg (b && !oneV (setV (setV (d1V t) 12 (flg b)) 10 (flg (b && oneV (setV (d1V t) 12 (flg b)) 8))) 9)) := by
      unfold d2V; rw [if_pos he]
    have hok := okc_flg (okc_flg (okc_flg ok1 12 b) 10 (b && oneV (setV (d1V t) 12 (flg b)) 8)) 11 (b && !oneV (setV (setV (d1V t) 12 (flg b)) 10 (flg (b && oneV (setV (d1V t) 12 (flg b)) 8))) 9)
    simp only [decide_eq_true he]
    cases b
    · simp only
      exact ⟨by decide, by decide, by decide, ⟨_, _, rfl, hok⟩, fin _ hok hd⟩
    · simp only
      exact ⟨by decide, by decide, by decide, ⟨_, _, rfl, hok⟩, fin _ hok hd⟩
  · simp only [decide_eq_false he]
    exact ⟨⟨_, _, rfl, ok1⟩, fin _ ok1 (by unfold d2V; rw [if_neg he])⟩
end Go.Proofs.Ytfbaghocbipbiaa
namespace Go.Proofs.Ytfbaghocbipbiaa
open Go Go.Vg
def bkP (c : Int) (i : Nat) : List Int := ((List.range (i + 1)).filter (dH c)).map fun n : Nat => (n : Int)
def c4 : Ctx := ⟨tab, lkS [(11, sp11), (12, sp12), (13, sp13), (15, sp15), (14, sp14), (16, sp16), (17, sp17), (18, sp18), (19, sp19), (20, sp20), (21, sp21)], [7], [40]⟩
def inv4 (c : Int) : Nat → Option Inv
 | 3 => some ⟨Nat, fun i => [(8, .d (i64 (i + 1 : Nat))), (7, .row 7)], fun i => [(7, .row 3 (.ints .i64 (bkP c i)))], fun s => (slotN s 8).toNat - 1, fun _ i => i ≤ 18, fun i => 18 - i⟩
 | _ => none
--KEEP List.set Go.Vg.eqB isAt okl fi fx kOf vOf vl has isb hid fitB afI afN afE hL vL cH cV atP atL sameB clV clP belB szR oneV flgB belN objB valB kdP lastK kdL szP sndB msL ouV ouL tkI tkN mkF mkE mkL flg d0V dH upH upV d1H d1V setV d2V mdE mdH mdV okv Go.Vg.ones okc atX oneX clX objX uHX uVX upHi upVi anB fiI fxI mmB ixN ixI okn eqI dHi d0Vi bkP
set_option maxRecDepth 100000 in
theorem vc4  (c : Int) (l : List D) (b : Bool) (F : D)  :
    (owed c4 (inv4 c) Try.f4 [u8i c, .slc 2 l, bl b] F) = (
 True ∧
 (1 : Nat) ≠ (0 : Nat) ∧
 True ∧
 (((AV.d (D.val (Value.int IntKind.i64 (1 : Int))) = AV.d (D.val (Value.int IntKind.i64 (↑(1 : Nat) : Int))) ∧ sm (AV.row (7 : Nat)) ∧ True) ∧ (some (Blk.row (3 : TypeId) (D.ints IntKind.i64 [])) = some (Blk.row (3 : TypeId) (D.ints IntKind.i64 (bkP c ((1 : Nat) - (1 : Nat))))) ∧ True) ∧ true = true) ∧ (1 : Nat) - (1 : Nat) ≤ (18 : Nat)) ∧
 ∀ (x : Nat),
 x ≤ (18 : Nat) →
 true = true ∧
 True ∧
 True ∧
 match decide ((↑(x + (1 : Nat)) : Int) ≤ (18 : Int)) with
 | true =>
  True ∧
  True ∧
  True ∧
  (∃ (c_1 : Int), ∃ (k : Int), [D.val (Value.int IntKind.i64 (IntKind.i64.wrap c)), D.val (Value.int IntKind.i64 (↑(x + (1 : Nat)) : Int))] = [D.val (Value.int IntKind.i64 c_1), D.val (Value.int IntKind.i64 k)]) ∧
  match belB (IntKind.i64.wrap c) (↑(x + (1 : Nat)) : Int) with
  | true =>
   True ∧
   True ∧
   ((1 : Nat) = (1 : Nat) ∧ (1 : Nat) ≤ (4096 : Nat)) ∧
   ((3 : TypeId) = (3 : TypeId) ∧ (33 : Nat) = (33 : Nat) ∧ true = true ∧ (bkP c x ++ [(↑(x + (1 : Nat)) : Int)]).length ≤ (140737488355328 : Nat) ∧ (bkP c x ++ [(↑(x + (1 : Nat)) : Int)]).length * (8 : Nat) ≤ (140737488355328 : Nat) ∧ (1 : Nat) ≠ (0 : Nat) ∧ (1 : Nat) = (1 : Nat)) ∧
   True ∧
   True ∧
   True ∧
   True ∧
   ((AV.d (D.val (Value.int IntKind.i64 (IntKind.i64.wrap ((↑(x + (1 : Nat)) : Int) + (1 : Int))))) = AV.d (D.val (Value.int IntKind.i64 (↑((IntKind.i64.wrap ((↑(x + (1 : Nat)) : Int) + (1 : Int))).toNat - (1 : Nat) + (1 : Nat)) : Int))) ∧ sm (AV.row (7 : Nat)) ∧ True) ∧
   (some (Blk.row (3 : TypeId) (D.ints IntKind.i64 (bkP c x ++ [(↑(x + (1 : Nat)) : Int)]))) = some (Blk.row (3 : TypeId) (D.ints IntKind.i64 (bkP c ((IntKind.i64.wrap ((↑(x + (1 : Nat)) : Int) + (1 : Int))).toNat - (1 : Nat))))) ∧ True) ∧ true = true) ∧
   (IntKind.i64.wrap ((↑(x + (1 : Nat)) : Int) + (1 : Int))).toNat - (1 : Nat) ≤ (18 : Nat) ∧ (18 : Nat) - ((IntKind.i64.wrap ((↑(x + (1 : Nat)) : Int) + (1 : Int))).toNat - (1 : Nat)) < (18 : Nat) - x
  | false =>
   True ∧
   True ∧
   True ∧
   ((AV.d (D.val (Value.int IntKind.i64 (IntKind.i64.wrap ((↑(x + (1 : Nat)) : Int) + (1 : Int))))) = AV.d (D.val (Value.int IntKind.i64 (↑((IntKind.i64.wrap ((↑(x + (1 : Nat)) : Int) + (1 : Int))).toNat - (1 : Nat) + (1 : Nat)) : Int))) ∧ sm (AV.row (7 : Nat)) ∧ True) ∧
   (some (Blk.row (3 : TypeId) (D.ints IntKind.i64 (bkP c x))) = some (Blk.row (3 : TypeId) (D.ints IntKind.i64 (bkP c ((IntKind.i64.wrap ((↑(x + (1 : Nat)) : Int) + (1 : Int))).toNat - (1 : Nat))))) ∧ True) ∧ true = true) ∧
   (IntKind.i64.wrap ((↑(x + (1 : Nat)) : Int) + (1 : Int))).toNat - (1 : Nat) ≤ (18 : Nat) ∧ (18 : Nat) - ((IntKind.i64.wrap ((↑(x + (1 : Nat)) : Int) + (1 : Int))).toNat - (1 : Nat)) < (18 : Nat) - x
 | false =>
  True ∧
  True ∧
  (∃ (t : List D), ∃ (b_1 : Bool), [D.slc (2 : Nat) l, D.val (Value.bool b)] = [D.slc (2 : Nat) t, D.val (Value.bool b_1)] ∧ okl t) ∧
  True ∧
  ((0 : Nat) < (2 : Nat) ∧ false = false) ∧
  ((1 : Nat) < (2 : Nat) ∧ false = false) ∧
  True ∧
  True ∧
  True ∧
  True ∧
  (∃ (t : List D), ∃ (b_1 : Bool), [D.slc (2 : Nat) l, D.val (Value.bool b)] = [D.slc (2 : Nat) t, D.val (Value.bool b_1)] ∧ okl t) ∧
  True ∧
  ((0 : Nat) < (2 : Nat) ∧ false = false) ∧
  ((1 : Nat) < (2 : Nat) ∧ false = false) ∧
  (True ∧ (38 : Nat) ≠ (0 : Nat)) ∧
  (sm
  (sk
  (D.st
  [D.st
  [D.val (Value.bool false), D.val (Value.bool false), D.val (Value.bool false), D.val (Value.bool false), D.val (Value.bool false), D.val (Value.bool false), D.val (Value.bool false), D.val (Value.bool false), D.val (Value.bool false), D.val (Value.bool false), D.val (Value.bool false), D.val (Value.bool false),
  D.val (Value.bool false), D.val (Value.bool false), D.val (Value.bool false), D.val (Value.bool false), D.val (Value.bool false), D.val (Value.bool false), D.val (Value.bool false)],
  D.st [D.str [], D.str [], D.str [], D.str [], D.str [], D.str [], D.str [], D.str [], D.str [], D.str [], D.str [], D.str [], D.str [], D.str [], D.str [], D.str [], D.str [], D.str [], D.str []]])) ∧
  (38 : Nat) ≠ (0 : Nat) ∧ (38 : Nat) = (38 : Nat) ∧ false = false) ∧
  True ∧
  True ∧
  (∃ (c_1 : Int), [D.val (Value.int IntKind.u8 c)] = [D.val (Value.int IntKind.u8 c_1)]) ∧
  True ∧
  (∃ (a : List Int), ∃ (b : List Int), [D.ints IntKind.i64 (kdL c), D.ints IntKind.i64 (bkP c x)] = [D.ints IntKind.i64 a, D.ints IntKind.i64 b] ∧ okn a.length) ∧
  True ∧
  match eqI (kdL c) (bkP c x) with
  | true =>
   True ∧
   (∃ (l_1 : List D), [D.slc (2 : Nat) l] = [D.slc (2 : Nat) l_1] ∧ okl l_1) ∧
   True ∧
   (∃ (l_1 : List D), [D.slc (2 : Nat) l] = [D.slc (2 : Nat) l_1] ∧ okl l_1) ∧
   True ∧
   True ∧
   True ∧
   match valB l == valB l with
   | true =>
    True ∧
    (∃ (l_1 : List D), [D.slc (2 : Nat) l] = [D.slc (2 : Nat) l_1] ∧ okl l_1) ∧
    True ∧
    (∃ (l_1 : List D), [D.slc (2 : Nat) l] = [D.slc (2 : Nat) l_1] ∧ okl l_1) ∧
    True ∧
    True ∧
    True ∧
    match hid l == hid l with
    | true =>
     True ∧
     True ∧
     True ∧
     True ∧
     True ∧
     match mkE l b == mdE l b with
     | true =>
      True ∧
      ((38 : Nat) ≠ (0 : Nat) ∧ (38 : Nat) = (38 : Nat) ∧ true = true) ∧
      (∃ (h : Nat → Bool), ∃ (v : Nat → List Int), [D.st [D.st (hL (mdH l b)), D.st (vL (mdV l b))]] = [D.st [D.st (hL h), D.st (vL v)]] ∧ okc v) ∧
      (∃ (a : List D), ∃ (b_1 : List D), [D.slc (2 : Nat) (mkL l b), D.slc (2 : Nat) (atX (hL (mdH l b)) (vL (mdV l b)))] = [D.slc (2 : Nat) a, D.slc (2 : Nat) b_1] ∧ okl a ∧ okl b_1) ∧
      True ∧ True ∧ (false = false ∧ True) ∧ D.val (Value.bool (sameB (mkL l b) (atX (hL (mdH l b)) (vL (mdV l b))))) = F
     | false => True ∧ True ∧ (false = false ∧ True) ∧ D.val (Value.bool false) = F
    | false => True ∧ True ∧ True ∧ True ∧ (false = false ∧ True) ∧ D.val (Value.bool false) = F
   | false => True ∧ True ∧ True ∧ True ∧ True ∧ True ∧ (false = false ∧ True) ∧ D.val (Value.bool false) = F
  | false => True ∧ True ∧ True ∧ True ∧ True ∧ True ∧ True ∧ True ∧ (false = false ∧ True) ∧ D.val (Value.bool false) = F) := by kernel_rfl
set_option maxRecDepth 100000 in
theorem ok32  (d : D)  :
    (OkT tab 8 32 d) = (
 ∃ (xs : List D), d = D.slc (2 : Nat) xs ∧ (∀ (y : D), y ∈ xs → ∃ (ds : List D), y = D.st ds ∧ OkL (OkT tab (6 : Nat)) [((0 : Nat), (3 : TypeId)), ((1 : Nat), (52 : TypeId))] ds) ∧ xs.length ≤ (9223372036854775807 : Nat) ∧ xs.length * (32 : Nat) ≤ (140737488351232 : Nat)) := by kernel_rfl
set_option maxRecDepth 100000 in
theorem ok3  (d : D)  :
    (OkT tab 6 3 d) = (
 ∃ (z : Int), d = D.val (Value.int IntKind.i64 z) ∧ -(2 : Int) ^ (63 : Nat) ≤ z ∧ z ≤ IntKind.i64.max) := by kernel_rfl
set_option maxRecDepth 100000 in
theorem ok52  (d : D)  :
    (OkT tab 6 52 d) = (
 ∃ (l : List Int), d = D.ints IntKind.u8 l ∧ (∀ (z : Int), z ∈ l → (0 : Int) ≤ z ∧ z ≤ IntKind.u8.max) ∧ l.length ≤ (9223372036854775807 : Nat) ∧ l.length * (1 : Nat) ≤ (140737488351232 : Nat)) := by kernel_rfl
set_option maxRecDepth 100000 in
theorem ok5  (d : D)  :
    (OkT tab 8 5 d) = (
 ∃ (z : Int), d = D.val (Value.int IntKind.u8 z) ∧ (0 : Int) ≤ z ∧ z ≤ IntKind.u8.max) := by kernel_rfl
set_option maxRecDepth 100000 in
theorem ok4  (d : D)  :
    (OkT tab 8 4 d) = (
 ∃ (b : Bool), d = D.val (Value.bool b)) := by kernel_rfl
theorem okl_cons {f : TypeId → D → Prop} {i : Nat} {t : TypeId} {ts : List (Nat × TypeId)} {ds : List D} (h : OkL f ((i, t) :: ts) ds) : ∃ d ds', ds = d :: ds' ∧ f t d ∧ OkL f ts ds' := by
 cases ds with
 | nil => exact h.elim
 | cons d ds => exact ⟨d, ds, rfl, h.1, h.2⟩
theorem okl_nil {f : TypeId → D → Prop} {ds : List D} (h : OkL f [] ds) : ds = [] := by
 cases ds with
 | nil => rfl
 | cons d ds => exact h.elim
theorem list_of {d : D} (h : OkT tab 8 32 d) : ∃ l, d = .slc 2 l ∧ okl l := by
 rw [ok32] at h
 obtain ⟨xs, rfl, h1, _, h2⟩ := h
 refine ⟨xs, rfl, fun x hx => ?_, by omega⟩
 obtain ⟨ds, rfl, h⟩ := h1 x hx
 obtain ⟨a, ds, rfl, ha, h⟩ := okl_cons h
 obtain ⟨b, ds, rfl, hb, h⟩ := okl_cons h
 obtain rfl := okl_nil h
 rw [ok3] at ha
 rw [ok52] at hb
 obtain ⟨k, rfl, _⟩ := ha
 obtain ⟨v, rfl, hv, _, hl⟩ := hb
 refine ⟨k, v, rfl, by omega, fun x hx => ?_⟩
 obtain ⟨g1, g2⟩ := hv x hx
 exact ⟨g1, by have : x ≤ 255 := g2; omega⟩
theorem okAll3 {t : Tab} {n : Nat} {a b c : TypeId} : ∀ {ds : List D}, OkAll t n [a, b, c] ds → ∃ d e f, ds = [d, e, f] ∧ OkT t n a d ∧ OkT t n b e ∧ OkT t n c f
 | [], h => h.elim
 | [_], h => h.2.elim
 | [_, _], h => h.2.2.elim
 | [d, e, f], h => ⟨d, e, f, rfl, h.1, h.2.1, h.2.2.1⟩
 | _ :: _ :: _ :: _ :: _, h => h.2.2.2.elim
theorem bkP_step (c : Int) (x : Nat) : bkP c (x + 1) = if belB c ((x + 1 : Nat) : Int) = true then bkP c x ++ [((x + 1 : Nat) : Int)] else bkP c x := by
 unfold bkP
 rw [List.range_succ, List.filter_append, List.map_append]
 have e : dH c (x + 1) = belB c ((x + 1 : Nat) : Int) := by
  unfold dH
  rw [decide_eq_true (by omega), Bool.true_and]
 cases h : belB c ((x + 1 : Nat) : Int)
 ·rw [if_neg (by decide)]
  rw [h] at e
  rw [List.filter_cons_of_neg (by rw [e]; decide)]
  simp
 ·rw [if_pos rfl]
  rw [h] at e
  rw [List.filter_cons_of_pos e]
  simp
theorem bkP_len (c : Int) (x : Nat) : (bkP c x).length ≤ x + 1 := by
 unfold bkP
 rw [List.length_map]
 exact Nat.le_trans (List.length_filter_le _ _) (by rw [List.length_range]; exact Nat.le_refl _)
theorem kd_bk (c : Int) : eqI (kdL c) (bkP c 18) = true := by
 unfold eqI
 by_cases h : 1 ≤ c ∧ c ≤ 4
 ·rw [kd_filter h]
  exact decide_eq_true rfl
 ·rw [kd_none h]
  refine decide_eq_true ?_
  unfold bkP
  rw [List.filter_eq_nil_iff.2 (fun k _ => by
   unfold dH belB
   rw [if_neg (by omega), if_neg (by omega), if_neg (by omega), if_neg (by omega), Bool.and_false]; decide)]
  rfl
set_option maxRecDepth 100000 in
theorem m4 : Meets Try.prog 4 (lawSpec tab Try.f4.params.toList) := by
 refine meets_of_owed (C := c4) ⟨tab_ok, lkS_ok ⟨m11, m12, m13, m15, m14, m16, m17, m18, m19, m20, m21, trivial⟩⟩ (by kernel_rfl) (by kernel_rfl : Try.prog.funcs[4]? = some Try.f4) (by kernel_rfl) (by kernel_rfl) (by kernel_rfl) _ ?_
 intro ds hds
 obtain ⟨c, l, b, rfl, hc0, hc1, hl⟩ : ∃ c l b, ds = [u8i c, .slc 2 l, bl b] ∧ 0 ≤ c ∧ c ≤ 255 ∧ okl l := by
  have hds : OkAll tab 8 [5, 32, 4] ds := hds
  obtain ⟨d, e, f, rfl, h1, h2, h3⟩ := okAll3 hds
  obtain ⟨l, rfl, hl⟩ := list_of h2
  rw [ok5] at h1
  rw [ok4] at h3
  obtain ⟨c, rfl, hc0, hc1⟩ := h1
  obtain ⟨b, rfl⟩ := h3
  exact ⟨c, l, b, rfl, hc0, hc1, hl⟩
 refine ⟨fun _ => rfl, inv4 c, ?_⟩
 show owed c4 (inv4 c) Try.f4 [u8i c, .slc 2 l, bl b] (bl true)
 rw [vc4]
 have hw : IntKind.i64.wrap c = c := wi (by omega) (by omega)
 obtain ⟨m1, m2⟩ := make_eq hl b
 have hmd : okc (mdV l b) := by
  intro k hk
  unfold mdV
  split
  ·unfold d2V
   split
   ·exact okc_flg (okc_flg (okc_flg (okc_d1 hl) _ _) _ _) _ _ k hk
   ·exact okc_d1 hl k hk
  ·exact ⟨by decide, fun x hx => by cases hx⟩
 have hmk : okl (mkL l b) := by
  unfold mkL
  split
  ·exact ouL_ok hl b
  ·exact ⟨(fun x hx => by cases hx), by decide⟩
 have ex1 : (∃ (l_1 : List D), [D.slc 2 l] = [D.slc 2 l_1] ∧ okl l_1) = True := eq_true ⟨_, rfl, hl⟩
 have ex2 : (∃ (t : List D), ∃ (b_1 : Bool), [D.slc 2 l, D.val (Value.bool b)] = [D.slc 2 t, D.val (Value.bool b_1)] ∧ okl t) = True := eq_true ⟨_, _, rfl, hl⟩
 have ex3 : ∀ C K : Int, (∃ (c : Int), ∃ (k : Int), [D.val (Value.int IntKind.i64 C), D.val (Value.int IntKind.i64 K)] = [D.val (Value.int IntKind.i64 c), D.val (Value.int IntKind.i64 k)]) = True := fun C K => eq_true ⟨C, K, rfl⟩
 have ex4 : (∃ (c_1 : Int), [D.val (Value.int IntKind.u8 c)] = [D.val (Value.int IntKind.u8 c_1)]) = True := eq_true ⟨_, rfl⟩
 have ex5 : ∀ x : List Int, (∃ (a : List Int), ∃ (b : List Int), [D.ints IntKind.i64 (kdL c), D.ints IntKind.i64 x] = [D.ints IntKind.i64 a, D.ints IntKind.i64 b] ∧ okn a.length) = True := fun x => eq_true ⟨_, _, rfl, by have := kd_len c; unfold okn; omega⟩
 have ex6 : (∃ (h : Nat → Bool), ∃ (v : Nat → List Int), [D.st [D.st (hL (mdH l b)), D.st (vL (mdV l b))]] = [D.st [D.st (hL h), D.st (vL v)]] ∧ okc v) = True := eq_true ⟨_, _, rfl, hmd⟩
 have ex7 : (∃ (a : List D), ∃ (b_1 : List D), [D.slc 2 (mkL l b), D.slc 2 (atL (mdH l b) (mdV l b))] = [D.slc 2 a, D.slc 2 b_1] ∧ okl a ∧ okl b_1) = True := eq_true ⟨_, _, rfl, hmk, at_okl hmd⟩
 simp (decide := true) only [hw, atX_eq, ex1, ex2, ex3, ex4, ex5, ex6, ex7, m1, m2, beq_self_eq_true, eq_self, true_and, and_true, ne_eq, not_false_eq_true]
 refine ⟨?_, fun x hx => ?_⟩
 ·and_intros <;> first | rfl | omega
 split
 ·rename_i h
  have h : x + 1 < 19 := by have := of_decide_eq_true h; omega
  have et : ((x : Int) + 1) = ((x + 1 : Nat) : Int) := by omega
  have hw2 : IntKind.i64.wrap (((x + 1 : Nat) : Int) + 1) = ((x + 2 : Nat) : Int) := by rw [wS h (by omega)]
  have e1 : x + 2 - 1 = x + 1 := rfl
  have hs := bkP_step c x
  have hle := bkP_len c (x + 1)
  simp only [et, hw2, e1, Int.toNat_natCast]
  cases hb : belB c ((x + 1 : Nat) : Int)
  ·rw [hb, if_neg (by decide)] at hs
   simp only [hs]
   and_intros <;> first | rfl | omega | trivial
  ·rw [hb, if_pos rfl] at hs
   simp only [← hs]
   and_intros <;> first | rfl | omega | trivial
 ·rename_i h
  have h := of_decide_eq_false h
  obtain rfl : x = 18 := by omega
  simp only [kd_bk]
end Go.Proofs.Ytfbaghocbipbiaa
