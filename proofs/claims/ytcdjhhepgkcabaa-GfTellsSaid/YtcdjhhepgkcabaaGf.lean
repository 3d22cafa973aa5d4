import Derived.Test.YtcdjhhepgkcabaaVgV
import Derived.Test.YtcdjhhepgkcabaaTab
/- GfTells: what the functions of package gf compute, and the law. -/
namespace Go.Proofs.Ytcdjhhepgkcabaa
open Go Go.Vg

abbrev u8 (n : Nat) : D := .val (.int .u8 (n : Int))
abbrev u64n (n : Nat) : D := .val (.int .u64 (n : Int))
abbrev i64n (n : Nat) : D := .val (.int .i64 (n : Int))
abbrev b4 (l : List Int) : D := .arr .u8 4 l
abbrev b256 (l : List Int) : D := .arr .u8 256 l
def okb (l : List Int) : Prop := ∀ x ∈ l, 0 ≤ x ∧ x < 256
def nn (d : D) : Nat := (numOf d).toNat

def sp31 : Go.Vg.Spec := ⟨fun ds => ∃ a b, ds = [u8 a, u8 b] ∧ a < 256 ∧ b < 256, fun ds => u8 (gm (nn (ds.headD default)) (nn (ds.getD 1 default))), true, [5, 5]⟩
def sp33 : Go.Vg.Spec := ⟨fun ds => ∃ a n, ds = [u8 a, u64n n] ∧ a < 256 ∧ n < 18446744073709551616, fun ds => u8 (gpw (nn (ds.headD default)) (nn (ds.getD 1 default))), true, [5, 57]⟩
def sp35 : Go.Vg.Spec := ⟨fun ds => ∃ a, ds = [u8 a] ∧ a < 256, fun ds => u8 (giv (nn (ds.headD default))), true, [5]⟩
def sp64 : Go.Vg.Spec := ⟨fun ds => ∃ a n, ds = [u8 a, i64n n] ∧ a < 256 ∧ n < 8, fun ds => u8 (rl8 (nn (ds.headD default)) (nn (ds.getD 1 default))), true, [5, 3]⟩
def sp37 : Go.Vg.Spec := ⟨fun ds => ∃ a, ds = [u8 a] ∧ a < 256, fun ds => u8 (gbx (nn (ds.headD default))), true, [5]⟩
def sp38 : Go.Vg.Spec := ⟨fun ds => ∃ a, ds = [u8 a] ∧ a < 256, fun ds => u8 (gux (nn (ds.headD default))), true, [5]⟩
def sp65 : Go.Vg.Spec := ⟨fun ds => ∃ l m, ds = [b4 l, b4 m] ∧ (okb l ∧ l.length = 4) ∧ okb m ∧ m.length = 4, fun ds => b4 (gcl (arrOf (ds.headD default)) (arrOf (ds.getD 1 default)) 4), true, [58, 58]⟩
def sp40 : Go.Vg.Spec := ⟨fun ds => ∃ l, ds = [b4 l] ∧ (okb l ∧ l.length = 4), fun ds => b4 (gcl (arrOf (ds.headD default)) [2, 3, 1, 1] 4), true, [58]⟩
def sp42 : Go.Vg.Spec := ⟨fun ds => ∃ l, ds = [b4 l] ∧ (okb l ∧ l.length = 4), fun ds => b4 (gcl (arrOf (ds.headD default)) [14, 11, 13, 9] 4), true, [58]⟩
def sp39 : Go.Vg.Spec := ⟨fun ds => ∃ l, ds = [b256 l] ∧ (okb l ∧ l.length = 256), fun ds => b256 (gub (arrOf (ds.headD default)) 256), true, [59]⟩
noncomputable def boxP : List Int := opq boxL
noncomputable def sp30 : Go.Vg.Spec := ⟨fun ds => ds.length = 0, fun _ => b256 boxP, true, []⟩

def c0 : Ctx := ⟨tab, fun _ => none, [], []⟩
def inv31 (a b : Nat) : Nat → Option Inv
  | 2 => some ⟨Nat × Nat × Nat, fun x => [(0, .d (u8 x.1)), (1, .d (u8 x.2.1)), (5, .d (u8 x.2.2))], fun _ => [], fun s => ((slotN s 0).toNat, (slotN s 1).toNat, (slotN s 5).toNat),
      fun _ x => x.1 < 256 ∧ x.2.1 < 256 ∧ x.2.2 < 256 ∧ x.2.2 ^^^ gm x.1 x.2.1 = gm a b, fun x => x.2.1⟩
  | _ => none
def inv32 (a b : Nat) : Nat → Option Inv
  | 3 => some ⟨Nat, fun i => [(8, .d (i64n i)), (5, .d (i64n (clm a b i)))], fun _ => [], fun s => (slotN s 8).toNat, fun _ i => i ≤ 8, fun i => 8 - i⟩
  | 9 => some ⟨Nat × Nat, fun x => [(7, .d (.val (.int .i64 ((x.1 : Int) + 7)))), (5, .d (i64n x.2))], fun _ => [], fun s => ((slotN s 7 - 7).toNat, (slotN s 5).toNat),
      fun _ x => x.1 ≤ 7 ∧ x.2 < 32768 ∧ red x.1 x.2 = red 7 (clm a b 8), fun x => x.1⟩
  | _ => none
def c33 : Ctx := ⟨tab, lkS [(31, sp31)], [], []⟩
def inv33 (a n : Nat) : Nat → Option Inv
  | 2 => some ⟨Nat × Nat × Nat, fun x => [(0, .d (u8 x.1)), (1, .d (u64n x.2.1)), (5, .d (u8 x.2.2))], fun _ => [], fun s => ((slotN s 0).toNat, (slotN s 1).toNat, (slotN s 5).toNat),
      fun _ x => x.1 < 256 ∧ x.2.1 < 18446744073709551616 ∧ x.2.2 < 256 ∧ gm x.2.2 (gpw x.1 x.2.1) = gpw a n, fun x => x.2.1⟩
  | _ => none
def c34 : Ctx := ⟨tab, lkS [(32, sp31)], [], []⟩
def inv34 (a n : Nat) : Nat → Option Inv
  | 5 => some ⟨Nat, fun i => [(14, .d (u64n i)), (5, .d (u8 (gpw a i)))], fun _ => [], fun s => (slotN s 14).toNat, fun _ i => i ≤ n % 255, fun i => n % 255 - i⟩
  | _ => none
def c35 : Ctx := ⟨tab, lkS [(33, sp33)], [], []⟩
def inv36 (a : Nat) : Nat → Option Inv
  | 2 => some ⟨Nat, fun i => [(4, .d (i64n i))], fun _ => [], fun s => (slotN s 4).toNat, fun _ i => i ≤ 256 ∧ ∀ j, j < i → gm a j ≠ 1, fun i => 256 - i⟩
  | _ => none
def c37 : Ctx := ⟨tab, lkS [(35, sp35), (64, sp64)], [], []⟩
def inv37 (a : Nat) : Nat → Option Inv
  | 4 => some ⟨Nat, fun i => [(5, .d (.val (.int .i64 ((i : Int) + 1)))), (4, .d (u8 (gsb (giv a) i)))], fun _ => [], fun s => (slotN s 5 - 1).toNat, fun _ i => i ≤ 4, fun i => 4 - i⟩
  | _ => none
def inv65 (l m : List Int) : Nat → Option Inv
  | 3 => some ⟨Nat, fun i => [(9, .d (i64n i))], fun i => [(5, .fix (b4 (gcl l m i ++ List.replicate (4 - i) 0)))], fun s => (slotN s 9).toNat, fun _ i => i ≤ 4, fun i => 4 - i⟩
  | 6 => some ⟨Nat × Nat, fun x => [(13, .d (i64n x.2))], fun x => [(5, .fix (b4 (gcl l m x.1 ++ ((gce l m x.1 x.2 : Nat) : Int) :: List.replicate (3 - x.1) 0)))], fun s => ((slotN s 6).toNat, (slotN s 13).toNat),
      fun s x => (x.1 : Int) = slotN s 6 ∧ x.2 ≤ 4, fun x => 4 - x.2⟩
  | _ => none
def c41 : Ctx := ⟨tab, lkS [(32, sp31)], [], []⟩
def inv41 (l m : List Int) : Nat → Option Inv
  | 3 => some ⟨Nat, fun i => [(8, .d (i64n i))], fun i => [(5, .fix (b4 (gcl l m i ++ List.replicate (4 - i) 0)))], fun s => (slotN s 8).toNat, fun _ i => i ≤ 4, fun i => 4 - i⟩
  | 6 => some ⟨Nat × Nat, fun x => [(11, .d (i64n x.2))], fun x => [(5, .fix (b4 (gcl l m x.1 ++ ((gce l m x.1 x.2 : Nat) : Int) :: List.replicate (3 - x.1) 0)))], fun s => ((slotN s 6).toNat, (slotN s 11).toNat),
      fun s x => (x.1 : Int) = slotN s 6 ∧ x.2 ≤ 4, fun x => 4 - x.2⟩
  | _ => none
def c40 : Ctx := ⟨tab, lkS [(65, sp65)], [], []⟩
def inv39 (l : List Int) : Nat → Option Inv
  | 3 => some ⟨Nat, fun i => [(7, .d (i64n i))], fun i => [(3, .fix (b256 (gub l i)))], fun s => (slotN s 7).toNat, fun _ i => i ≤ 256, fun i => 256 - i⟩
  | _ => none
def pwL (i : Nat) : List Int := (List.range i).map fun j => ((gpw 3 j : Nat) : Int)
def inv30 : Nat → Option Inv
  | 5 => some ⟨Nat, fun i => [(15, .d (i64n i)), (3, .d (u8 (gpw 3 i)))], fun i => [(4, .fix (.arr .u8 255 (pwL i ++ List.replicate (255 - i) 0)))], fun s => (slotN s 15).toNat, fun _ i => i ≤ 255, fun i => 255 - i⟩
  | 11 => some ⟨Nat, fun i => [(25, .d (i64n i))], fun i => [(2, .fix (b256 (gia i)))], fun s => (slotN s 25).toNat, fun _ i => i ≤ 255, fun i => 255 - i⟩
  | 16 => some ⟨Nat, fun i => [(37, .d (i64n i))], fun i => [(1, .fix (b256 (boxL.take i ++ List.replicate (256 - i) 0)))], fun s => (slotN s 37).toNat, fun _ i => i ≤ 256, fun i => 256 - i⟩
  | 21 => some ⟨Nat × Nat, fun x => [(44, .d (i64n x.2)), (10, .d (i64n (gax x.1 x.2)))], fun _ => [], fun s => ((slotN s 9).toNat, (slotN s 44).toNat), fun s x => (x.1 : Int) = slotN s 9 ∧ x.2 ≤ 8, fun x => 8 - x.2⟩
  | 25 => some ⟨Nat × Nat × Nat, fun x => [(52, .d (i64n x.2.2)), (12, .d (i64n (gan x.1 x.2.1 x.2.2)))], fun _ => [], fun s => ((slotN s 9).toNat, (slotN s 11).toNat, (slotN s 52).toNat), fun s x => (x.1 : Int) = slotN s 9 ∧ (x.2.1 : Int) = slotN s 11 ∧ x.2.2 ≤ 5, fun x => 5 - x.2.2⟩
  | _ => none
noncomputable def c7 : Ctx := ⟨tab, lkS [(30, sp30), (31, sp31), (32, sp31), (33, sp33), (34, sp33), (35, sp35), (36, sp35), (37, sp37), (38, sp38), (39, sp39), (40, sp40), (41, sp65), (42, sp42)], [], []⟩

--KEEP List.replicate HXor.hXor Go.Vg.eqB Go.Vg.opq boxP Go.Vg.gm Go.Vg.gpw Go.Vg.giv Go.Vg.rl8 Go.Vg.gbx Go.Vg.gux Go.Vg.gcl Go.Vg.gce Go.Vg.gub Go.Vg.gia Go.Vg.boxL Go.Vg.gax Go.Vg.gan Go.Vg.gsb Go.Vg.clm Go.Vg.red pwL okb
set_option maxRecDepth 100000 in
theorem vc31  (a b : Nat) (F : D)  :
    (owed c0 (inv31 a b) Try.f31 [u8 a, u8 b] F) = (
 True ∧
   True ∧
    (((AV.d (D.val (Value.int IntKind.u8 (↑a : Int))) = AV.d (D.val (Value.int IntKind.u8 (↑(↑a : Int).toNat : Int))) ∧ AV.d (D.val (Value.int IntKind.u8 (↑b : Int))) = AV.d (D.val (Value.int IntKind.u8 (↑(↑b : Int).toNat : Int))) ∧ AV.d (D.val (Value.int IntKind.u8 (0 : Int))) = AV.d (D.val (Value.int IntKind.u8 (↑(0 : Nat) : Int))) ∧ True) ∧ True ∧ true = true) ∧
      (↑a : Int).toNat < (256 : Nat) ∧ (↑b : Int).toNat < (256 : Nat) ∧ (0 : Nat) < (256 : Nat) ∧ (0 : Nat) ^^^ gm (↑a : Int).toNat (↑b : Int).toNat = gm a b) ∧
     ∀ (x : Nat × Nat × Nat),
      x.fst < (256 : Nat) ∧ x.snd.fst < (256 : Nat) ∧ x.snd.snd < (256 : Nat) ∧ x.snd.snd ^^^ gm x.fst x.snd.fst = gm a b →
       true = true ∧
        True ∧
         True ∧
          match decide ((↑x.snd.fst : Int) > (0 : Int)) with
          | true =>
           True ∧
            True ∧
             True ∧
              match iand IntKind.u8 (↑x.snd.fst : Int) (1 : Int) == (1 : Int) with
              | true =>
               True ∧
                True ∧
                 True ∧
                  True ∧
                   True ∧
                    (0 : Int) ≤ (7 : Int) ∧
                     True ∧
                      True ∧
                       (0 : Int) ≤ (1 : Int) ∧
                        True ∧
                         True ∧
                          True ∧
                           True ∧
                            True ∧
                             (0 : Int) ≤ (1 : Int) ∧
                              True ∧
                               ((AV.d (D.val (Value.int IntKind.u8 (ixor IntKind.u8 (ishl IntKind.u8 (↑x.fst : Int) (1 : Int)) (IntKind.u8.wrap (ishr IntKind.u8 (↑x.fst : Int) (7 : Int) * (27 : Int)))))) =
                                   AV.d (D.val (Value.int IntKind.u8 (↑(ixor IntKind.u8 (ishl IntKind.u8 (↑x.fst : Int) (1 : Int)) (IntKind.u8.wrap (ishr IntKind.u8 (↑x.fst : Int) (7 : Int) * (27 : Int)))).toNat : Int))) ∧
                                  AV.d (D.val (Value.int IntKind.u8 (ishr IntKind.u8 (↑x.snd.fst : Int) (1 : Int)))) = AV.d (D.val (Value.int IntKind.u8 (↑(ishr IntKind.u8 (↑x.snd.fst : Int) (1 : Int)).toNat : Int))) ∧
                                   AV.d (D.val (Value.int IntKind.u8 (ixor IntKind.u8 (↑x.snd.snd : Int) (↑x.fst : Int)))) = AV.d (D.val (Value.int IntKind.u8 (↑(ixor IntKind.u8 (↑x.snd.snd : Int) (↑x.fst : Int)).toNat : Int))) ∧ True) ∧
                                 True ∧ true = true) ∧
                                ((ixor IntKind.u8 (ishl IntKind.u8 (↑x.fst : Int) (1 : Int)) (IntKind.u8.wrap (ishr IntKind.u8 (↑x.fst : Int) (7 : Int) * (27 : Int)))).toNat < (256 : Nat) ∧
                                  (ishr IntKind.u8 (↑x.snd.fst : Int) (1 : Int)).toNat < (256 : Nat) ∧
                                   (ixor IntKind.u8 (↑x.snd.snd : Int) (↑x.fst : Int)).toNat < (256 : Nat) ∧
                                    (ixor IntKind.u8 (↑x.snd.snd : Int) (↑x.fst : Int)).toNat ^^^ gm (ixor IntKind.u8 (ishl IntKind.u8 (↑x.fst : Int) (1 : Int)) (IntKind.u8.wrap (ishr IntKind.u8 (↑x.fst : Int) (7 : Int) * (27 : Int)))).toNat (ishr IntKind.u8 (↑x.snd.fst : Int) (1 : Int)).toNat = gm a b) ∧
                                 (ishr IntKind.u8 (↑x.snd.fst : Int) (1 : Int)).toNat < x.snd.fst
              | false =>
               True ∧
                (0 : Int) ≤ (7 : Int) ∧
                 True ∧
                  True ∧
                   (0 : Int) ≤ (1 : Int) ∧
                    True ∧
                     True ∧
                      True ∧
                       True ∧
                        True ∧
                         (0 : Int) ≤ (1 : Int) ∧
                          True ∧
                           ((AV.d (D.val (Value.int IntKind.u8 (ixor IntKind.u8 (ishl IntKind.u8 (↑x.fst : Int) (1 : Int)) (IntKind.u8.wrap (ishr IntKind.u8 (↑x.fst : Int) (7 : Int) * (27 : Int)))))) =
                               AV.d (D.val (Value.int IntKind.u8 (↑(ixor IntKind.u8 (ishl IntKind.u8 (↑x.fst : Int) (1 : Int)) (IntKind.u8.wrap (ishr IntKind.u8 (↑x.fst : Int) (7 : Int) * (27 : Int)))).toNat : Int))) ∧
                              AV.d (D.val (Value.int IntKind.u8 (ishr IntKind.u8 (↑x.snd.fst : Int) (1 : Int)))) = AV.d (D.val (Value.int IntKind.u8 (↑(ishr IntKind.u8 (↑x.snd.fst : Int) (1 : Int)).toNat : Int))) ∧ AV.d (D.val (Value.int IntKind.u8 (↑x.snd.snd : Int))) = AV.d (D.val (Value.int IntKind.u8 (↑(↑x.snd.snd : Int).toNat : Int))) ∧ True) ∧
                             True ∧ true = true) ∧
                            ((ixor IntKind.u8 (ishl IntKind.u8 (↑x.fst : Int) (1 : Int)) (IntKind.u8.wrap (ishr IntKind.u8 (↑x.fst : Int) (7 : Int) * (27 : Int)))).toNat < (256 : Nat) ∧
                              (ishr IntKind.u8 (↑x.snd.fst : Int) (1 : Int)).toNat < (256 : Nat) ∧
                               (↑x.snd.snd : Int).toNat < (256 : Nat) ∧ (↑x.snd.snd : Int).toNat ^^^ gm (ixor IntKind.u8 (ishl IntKind.u8 (↑x.fst : Int) (1 : Int)) (IntKind.u8.wrap (ishr IntKind.u8 (↑x.fst : Int) (7 : Int) * (27 : Int)))).toNat (ishr IntKind.u8 (↑x.snd.fst : Int) (1 : Int)).toNat = gm a b) ∧
                             (ishr IntKind.u8 (↑x.snd.fst : Int) (1 : Int)).toNat < x.snd.fst
          | false => True ∧ True ∧ (false = false ∧ True) ∧ D.val (Value.int IntKind.u8 (↑x.snd.snd : Int)) = F) := by kernel_rfl
set_option maxRecDepth 100000 in
theorem vc32  (a b : Nat) (F : D)  :
    (owed c0 (inv32 a b) Try.f32 [u8 a, u8 b] F) = (
 True ∧
   True ∧
    True ∧
     (((AV.d (D.val (Value.int IntKind.i64 (0 : Int))) = AV.d (D.val (Value.int IntKind.i64 (↑(Int.toNat (0 : Int)) : Int))) ∧ AV.d (D.val (Value.int IntKind.i64 (0 : Int))) = AV.d (D.val (Value.int IntKind.i64 (↑(clm a b (Int.toNat (0 : Int))) : Int))) ∧ True) ∧ True ∧ true = true) ∧ Int.toNat (0 : Int) ≤ (8 : Nat)) ∧
      ∀ (x : Nat),
       x ≤ (8 : Nat) →
        true = true ∧
         True ∧
          match decide ((↑x : Int) < (8 : Int)) with
          | true =>
           True ∧
            True ∧
             True ∧
              True ∧
               (0 : Int) ≤ (↑x : Int) ∧
                True ∧
                 True ∧
                  match iand IntKind.u8 (ishr IntKind.u8 (↑b : Int) (↑x : Int)) (1 : Int) == (1 : Int) with
                  | true =>
                   True ∧
                    True ∧
                     True ∧
                      True ∧
                       (0 : Int) ≤ (↑x : Int) ∧
                        True ∧
                         True ∧
                          True ∧
                           True ∧
                            ((AV.d (D.val (Value.int IntKind.i64 (IntKind.i64.wrap ((↑x : Int) + (1 : Int))))) = AV.d (D.val (Value.int IntKind.i64 (↑(IntKind.i64.wrap ((↑x : Int) + (1 : Int))).toNat : Int))) ∧
                               AV.d (D.val (Value.int IntKind.i64 (ixor IntKind.i64 (↑(clm a b x) : Int) (ishl IntKind.i64 (IntKind.i64.wrap (↑a : Int)) (↑x : Int))))) = AV.d (D.val (Value.int IntKind.i64 (↑(clm a b (IntKind.i64.wrap ((↑x : Int) + (1 : Int))).toNat) : Int))) ∧ True) ∧
                              True ∧ true = true) ∧
                             (IntKind.i64.wrap ((↑x : Int) + (1 : Int))).toNat ≤ (8 : Nat) ∧ (8 : Nat) - (IntKind.i64.wrap ((↑x : Int) + (1 : Int))).toNat < (8 : Nat) - x
                  | false =>
                   True ∧
                    True ∧
                     ((AV.d (D.val (Value.int IntKind.i64 (IntKind.i64.wrap ((↑x : Int) + (1 : Int))))) = AV.d (D.val (Value.int IntKind.i64 (↑(IntKind.i64.wrap ((↑x : Int) + (1 : Int))).toNat : Int))) ∧ AV.d (D.val (Value.int IntKind.i64 (↑(clm a b x) : Int))) = AV.d (D.val (Value.int IntKind.i64 (↑(clm a b (IntKind.i64.wrap ((↑x : Int) + (1 : Int))).toNat) : Int))) ∧ True) ∧
                       True ∧ true = true) ∧
                      (IntKind.i64.wrap ((↑x : Int) + (1 : Int))).toNat ≤ (8 : Nat) ∧ (8 : Nat) - (IntKind.i64.wrap ((↑x : Int) + (1 : Int))).toNat < (8 : Nat) - x
          | false =>
           True ∧
            (((AV.d (D.val (Value.int IntKind.i64 (14 : Int))) = AV.d (D.val (Value.int IntKind.i64 ((↑((14 : Int) - (7 : Int)).toNat : Int) + (7 : Int)))) ∧ AV.d (D.val (Value.int IntKind.i64 (↑(clm a b x) : Int))) = AV.d (D.val (Value.int IntKind.i64 (↑(↑(clm a b x) : Int).toNat : Int))) ∧ True) ∧ True ∧ true = true) ∧
              ((14 : Int) - (7 : Int)).toNat ≤ (7 : Nat) ∧ (↑(clm a b x) : Int).toNat < (32768 : Nat) ∧ red ((14 : Int) - (7 : Int)).toNat (↑(clm a b x) : Int).toNat = red (7 : Nat) (clm a b (8 : Nat))) ∧
             ∀ (x : Nat × Nat),
              x.fst ≤ (7 : Nat) ∧ x.snd < (32768 : Nat) ∧ red x.fst x.snd = red (7 : Nat) (clm a b (8 : Nat)) →
               true = true ∧
                True ∧
                 True ∧
                  match decide ((↑x.fst : Int) + (7 : Int) ≥ (8 : Int)) with
                  | true =>
                   True ∧
                    True ∧
                     (0 : Int) ≤ (↑x.fst : Int) + (7 : Int) ∧
                      True ∧
                       True ∧
                        match iand IntKind.i64 (ishr IntKind.i64 (↑x.snd : Int) ((↑x.fst : Int) + (7 : Int))) (1 : Int) == (1 : Int) with
                        | true =>
                         True ∧
                          True ∧
                           True ∧
                            (0 : Int) ≤ IntKind.i64.wrap ((↑x.fst : Int) + (7 : Int) - (8 : Int)) ∧
                             True ∧
                              True ∧
                               True ∧
                                True ∧
                                 True ∧
                                  ((AV.d (D.val (Value.int IntKind.i64 (IntKind.i64.wrap ((↑x.fst : Int) + (7 : Int) - (1 : Int))))) = AV.d (D.val (Value.int IntKind.i64 ((↑(IntKind.i64.wrap ((↑x.fst : Int) + (7 : Int) - (1 : Int)) - (7 : Int)).toNat : Int) + (7 : Int)))) ∧
                                     AV.d (D.val (Value.int IntKind.i64 (ixor IntKind.i64 (↑x.snd : Int) (ishl IntKind.i64 (283 : Int) (IntKind.i64.wrap ((↑x.fst : Int) + (7 : Int) - (8 : Int))))))) =
                                       AV.d (D.val (Value.int IntKind.i64 (↑(ixor IntKind.i64 (↑x.snd : Int) (ishl IntKind.i64 (283 : Int) (IntKind.i64.wrap ((↑x.fst : Int) + (7 : Int) - (8 : Int))))).toNat : Int))) ∧
                                      True) ∧
                                    True ∧ true = true) ∧
                                   ((IntKind.i64.wrap ((↑x.fst : Int) + (7 : Int) - (1 : Int)) - (7 : Int)).toNat ≤ (7 : Nat) ∧
                                     (ixor IntKind.i64 (↑x.snd : Int) (ishl IntKind.i64 (283 : Int) (IntKind.i64.wrap ((↑x.fst : Int) + (7 : Int) - (8 : Int))))).toNat < (32768 : Nat) ∧
                                      red (IntKind.i64.wrap ((↑x.fst : Int) + (7 : Int) - (1 : Int)) - (7 : Int)).toNat (ixor IntKind.i64 (↑x.snd : Int) (ishl IntKind.i64 (283 : Int) (IntKind.i64.wrap ((↑x.fst : Int) + (7 : Int) - (8 : Int))))).toNat = red (7 : Nat) (clm a b (8 : Nat))) ∧
                                    (IntKind.i64.wrap ((↑x.fst : Int) + (7 : Int) - (1 : Int)) - (7 : Int)).toNat < x.fst
                        | false =>
                         True ∧
                          True ∧
                           True ∧
                            ((AV.d (D.val (Value.int IntKind.i64 (IntKind.i64.wrap ((↑x.fst : Int) + (7 : Int) - (1 : Int))))) = AV.d (D.val (Value.int IntKind.i64 ((↑(IntKind.i64.wrap ((↑x.fst : Int) + (7 : Int) - (1 : Int)) - (7 : Int)).toNat : Int) + (7 : Int)))) ∧
                               AV.d (D.val (Value.int IntKind.i64 (↑x.snd : Int))) = AV.d (D.val (Value.int IntKind.i64 (↑(↑x.snd : Int).toNat : Int))) ∧ True) ∧
                              True ∧ true = true) ∧
                             ((IntKind.i64.wrap ((↑x.fst : Int) + (7 : Int) - (1 : Int)) - (7 : Int)).toNat ≤ (7 : Nat) ∧ (↑x.snd : Int).toNat < (32768 : Nat) ∧ red (IntKind.i64.wrap ((↑x.fst : Int) + (7 : Int) - (1 : Int)) - (7 : Int)).toNat (↑x.snd : Int).toNat = red (7 : Nat) (clm a b (8 : Nat))) ∧
                              (IntKind.i64.wrap ((↑x.fst : Int) + (7 : Int) - (1 : Int)) - (7 : Int)).toNat < x.fst
                  | false => True ∧ True ∧ True ∧ (false = false ∧ True) ∧ D.val (Value.int IntKind.u8 (IntKind.u8.wrap (↑x.snd : Int))) = F) := by kernel_rfl
set_option maxRecDepth 100000 in
theorem vc33  (a n : Nat) (F : D)  :
    (owed c33 (inv33 a n) Try.f33 [u8 a, u64n n] F) = (
 True ∧
   True ∧
    (((AV.d (D.val (Value.int IntKind.u8 (↑a : Int))) = AV.d (D.val (Value.int IntKind.u8 (↑(↑a : Int).toNat : Int))) ∧ AV.d (D.val (Value.int IntKind.u64 (↑n : Int))) = AV.d (D.val (Value.int IntKind.u64 (↑(↑n : Int).toNat : Int))) ∧ AV.d (D.val (Value.int IntKind.u8 (1 : Int))) = AV.d (D.val (Value.int IntKind.u8 (↑(1 : Nat) : Int))) ∧ True) ∧ True ∧ true = true) ∧
      (↑a : Int).toNat < (256 : Nat) ∧ (↑n : Int).toNat < (18446744073709551616 : Nat) ∧ (1 : Nat) < (256 : Nat) ∧ gm (1 : Nat) (gpw (↑a : Int).toNat (↑n : Int).toNat) = gpw a n) ∧
     ∀ (x : Nat × Nat × Nat),
      x.fst < (256 : Nat) ∧ x.snd.fst < (18446744073709551616 : Nat) ∧ x.snd.snd < (256 : Nat) ∧ gm x.snd.snd (gpw x.fst x.snd.fst) = gpw a n →
       true = true ∧
        True ∧
         True ∧
          match decide ((↑x.snd.fst : Int) > (0 : Int)) with
          | true =>
           True ∧
            True ∧
             True ∧
              match iand IntKind.u64 (↑x.snd.fst : Int) (1 : Int) == (1 : Int) with
              | true =>
               True ∧
                True ∧
                 (∃ (a : Nat), ∃ (b : Nat), [D.val (Value.int IntKind.u8 (↑x.snd.snd : Int)), D.val (Value.int IntKind.u8 (↑x.fst : Int))] = [D.val (Value.int IntKind.u8 (↑a : Int)), D.val (Value.int IntKind.u8 (↑b : Int))] ∧ a < (256 : Nat) ∧ b < (256 : Nat)) ∧
                  True ∧
                   True ∧
                    True ∧
                     (∃ (a : Nat), ∃ (b : Nat), [D.val (Value.int IntKind.u8 (↑x.fst : Int)), D.val (Value.int IntKind.u8 (↑x.fst : Int))] = [D.val (Value.int IntKind.u8 (↑a : Int)), D.val (Value.int IntKind.u8 (↑b : Int))] ∧ a < (256 : Nat) ∧ b < (256 : Nat)) ∧
                      True ∧
                       True ∧
                        (0 : Int) ≤ (1 : Int) ∧
                         True ∧
                          ((AV.d (D.val (Value.int IntKind.u8 (↑(gm (↑x.fst : Int).toNat (↑x.fst : Int).toNat) : Int))) = AV.d (D.val (Value.int IntKind.u8 (↑(↑(gm (↑x.fst : Int).toNat (↑x.fst : Int).toNat) : Int).toNat : Int))) ∧
                             AV.d (D.val (Value.int IntKind.u64 (ishr IntKind.u64 (↑x.snd.fst : Int) (1 : Int)))) = AV.d (D.val (Value.int IntKind.u64 (↑(ishr IntKind.u64 (↑x.snd.fst : Int) (1 : Int)).toNat : Int))) ∧
                              AV.d (D.val (Value.int IntKind.u8 (↑(gm (↑x.snd.snd : Int).toNat (↑x.fst : Int).toNat) : Int))) = AV.d (D.val (Value.int IntKind.u8 (↑(↑(gm (↑x.snd.snd : Int).toNat (↑x.fst : Int).toNat) : Int).toNat : Int))) ∧ True) ∧
                            True ∧ true = true) ∧
                           ((↑(gm (↑x.fst : Int).toNat (↑x.fst : Int).toNat) : Int).toNat < (256 : Nat) ∧
                             (ishr IntKind.u64 (↑x.snd.fst : Int) (1 : Int)).toNat < (18446744073709551616 : Nat) ∧
                              (↑(gm (↑x.snd.snd : Int).toNat (↑x.fst : Int).toNat) : Int).toNat < (256 : Nat) ∧ gm (↑(gm (↑x.snd.snd : Int).toNat (↑x.fst : Int).toNat) : Int).toNat (gpw (↑(gm (↑x.fst : Int).toNat (↑x.fst : Int).toNat) : Int).toNat (ishr IntKind.u64 (↑x.snd.fst : Int) (1 : Int)).toNat) = gpw a n) ∧
                            (ishr IntKind.u64 (↑x.snd.fst : Int) (1 : Int)).toNat < x.snd.fst
              | false =>
               True ∧
                True ∧
                 (∃ (a : Nat), ∃ (b : Nat), [D.val (Value.int IntKind.u8 (↑x.fst : Int)), D.val (Value.int IntKind.u8 (↑x.fst : Int))] = [D.val (Value.int IntKind.u8 (↑a : Int)), D.val (Value.int IntKind.u8 (↑b : Int))] ∧ a < (256 : Nat) ∧ b < (256 : Nat)) ∧
                  True ∧
                   True ∧
                    (0 : Int) ≤ (1 : Int) ∧
                     True ∧
                      ((AV.d (D.val (Value.int IntKind.u8 (↑(gm (↑x.fst : Int).toNat (↑x.fst : Int).toNat) : Int))) = AV.d (D.val (Value.int IntKind.u8 (↑(↑(gm (↑x.fst : Int).toNat (↑x.fst : Int).toNat) : Int).toNat : Int))) ∧
                         AV.d (D.val (Value.int IntKind.u64 (ishr IntKind.u64 (↑x.snd.fst : Int) (1 : Int)))) = AV.d (D.val (Value.int IntKind.u64 (↑(ishr IntKind.u64 (↑x.snd.fst : Int) (1 : Int)).toNat : Int))) ∧ AV.d (D.val (Value.int IntKind.u8 (↑x.snd.snd : Int))) = AV.d (D.val (Value.int IntKind.u8 (↑(↑x.snd.snd : Int).toNat : Int))) ∧ True) ∧
                        True ∧ true = true) ∧
                       ((↑(gm (↑x.fst : Int).toNat (↑x.fst : Int).toNat) : Int).toNat < (256 : Nat) ∧
                         (ishr IntKind.u64 (↑x.snd.fst : Int) (1 : Int)).toNat < (18446744073709551616 : Nat) ∧ (↑x.snd.snd : Int).toNat < (256 : Nat) ∧ gm (↑x.snd.snd : Int).toNat (gpw (↑(gm (↑x.fst : Int).toNat (↑x.fst : Int).toNat) : Int).toNat (ishr IntKind.u64 (↑x.snd.fst : Int) (1 : Int)).toNat) = gpw a n) ∧
                        (ishr IntKind.u64 (↑x.snd.fst : Int) (1 : Int)).toNat < x.snd.fst
          | false => True ∧ True ∧ (false = false ∧ True) ∧ D.val (Value.int IntKind.u8 (↑x.snd.snd : Int)) = F) := by kernel_rfl
set_option maxRecDepth 100000 in
theorem vc34  (a n : Nat) (F : D)  :
    (owed c34 (inv34 a n) Try.f34 [u8 a, u64n n] F) = (
 True ∧
   True ∧
    True ∧
     True ∧
      match (↑a : Int) == (0 : Int) with
      | true =>
       True ∧
        True ∧
         True ∧
          match decide ((↑n : Int) > (0 : Int)) with
          | true => True ∧ (false = false ∧ True) ∧ D.val (Value.int IntKind.u8 (0 : Int)) = F
          | false =>
           True ∧
            True ∧
             (255 : Int) ≠ (0 : Int) ∧
              True ∧
               (((AV.d (D.val (Value.int IntKind.u64 (0 : Int))) = AV.d (D.val (Value.int IntKind.u64 (↑(Int.toNat (0 : Int)) : Int))) ∧ AV.d (D.val (Value.int IntKind.u8 (1 : Int))) = AV.d (D.val (Value.int IntKind.u8 (↑(gpw a (Int.toNat (0 : Int))) : Int))) ∧ True) ∧ True ∧ true = true) ∧ Int.toNat (0 : Int) ≤ n % (255 : Nat)) ∧
                ∀ (x : Nat),
                 x ≤ n % (255 : Nat) →
                  true = true ∧
                   True ∧
                    match decide ((↑x : Int) < (↑n : Int).tmod (255 : Int)) with
                    | true =>
                     True ∧
                      True ∧
                       (∃ (a_2 : Nat), ∃ (b : Nat), [D.val (Value.int IntKind.u8 (↑(gpw a x) : Int)), D.val (Value.int IntKind.u8 (↑a : Int))] = [D.val (Value.int IntKind.u8 (↑a_2 : Int)), D.val (Value.int IntKind.u8 (↑b : Int))] ∧ a_2 < (256 : Nat) ∧ b < (256 : Nat)) ∧
                        True ∧
                         True ∧
                          True ∧
                           ((AV.d (D.val (Value.int IntKind.u64 (IntKind.u64.wrap ((↑x : Int) + (1 : Int))))) = AV.d (D.val (Value.int IntKind.u64 (↑(IntKind.u64.wrap ((↑x : Int) + (1 : Int))).toNat : Int))) ∧
                              AV.d (D.val (Value.int IntKind.u8 (↑(gm (↑(gpw a x) : Int).toNat (↑a : Int).toNat) : Int))) = AV.d (D.val (Value.int IntKind.u8 (↑(gpw a (IntKind.u64.wrap ((↑x : Int) + (1 : Int))).toNat) : Int))) ∧ True) ∧
                             True ∧ true = true) ∧
                            (IntKind.u64.wrap ((↑x : Int) + (1 : Int))).toNat ≤ n % (255 : Nat) ∧ n % (255 : Nat) - (IntKind.u64.wrap ((↑x : Int) + (1 : Int))).toNat < n % (255 : Nat) - x
                    | false => True ∧ True ∧ (false = false ∧ True) ∧ D.val (Value.int IntKind.u8 (↑(gpw a x) : Int)) = F
      | false =>
       True ∧
        True ∧
         True ∧
          (255 : Int) ≠ (0 : Int) ∧
           True ∧
            (((AV.d (D.val (Value.int IntKind.u64 (0 : Int))) = AV.d (D.val (Value.int IntKind.u64 (↑(Int.toNat (0 : Int)) : Int))) ∧ AV.d (D.val (Value.int IntKind.u8 (1 : Int))) = AV.d (D.val (Value.int IntKind.u8 (↑(gpw a (Int.toNat (0 : Int))) : Int))) ∧ True) ∧ True ∧ true = true) ∧ Int.toNat (0 : Int) ≤ n % (255 : Nat)) ∧
             ∀ (x : Nat),
              x ≤ n % (255 : Nat) →
               true = true ∧
                True ∧
                 match decide ((↑x : Int) < (↑n : Int).tmod (255 : Int)) with
                 | true =>
                  True ∧
                   True ∧
                    (∃ (a_2 : Nat), ∃ (b : Nat), [D.val (Value.int IntKind.u8 (↑(gpw a x) : Int)), D.val (Value.int IntKind.u8 (↑a : Int))] = [D.val (Value.int IntKind.u8 (↑a_2 : Int)), D.val (Value.int IntKind.u8 (↑b : Int))] ∧ a_2 < (256 : Nat) ∧ b < (256 : Nat)) ∧
                     True ∧
                      True ∧
                       True ∧
                        ((AV.d (D.val (Value.int IntKind.u64 (IntKind.u64.wrap ((↑x : Int) + (1 : Int))))) = AV.d (D.val (Value.int IntKind.u64 (↑(IntKind.u64.wrap ((↑x : Int) + (1 : Int))).toNat : Int))) ∧
                           AV.d (D.val (Value.int IntKind.u8 (↑(gm (↑(gpw a x) : Int).toNat (↑a : Int).toNat) : Int))) = AV.d (D.val (Value.int IntKind.u8 (↑(gpw a (IntKind.u64.wrap ((↑x : Int) + (1 : Int))).toNat) : Int))) ∧ True) ∧
                          True ∧ true = true) ∧
                         (IntKind.u64.wrap ((↑x : Int) + (1 : Int))).toNat ≤ n % (255 : Nat) ∧ n % (255 : Nat) - (IntKind.u64.wrap ((↑x : Int) + (1 : Int))).toNat < n % (255 : Nat) - x
                 | false => True ∧ True ∧ (false = false ∧ True) ∧ D.val (Value.int IntKind.u8 (↑(gpw a x) : Int)) = F) := by kernel_rfl
set_option maxRecDepth 100000 in
theorem vc35  (a : Nat) (F : D)  :
    (owed c35 (fun _ => none) Try.f35 [u8 a] F) = (
 True ∧ True ∧ (∃ (a_1 : Nat), ∃ (n : Nat), [D.val (Value.int IntKind.u8 (↑a : Int)), D.val (Value.int IntKind.u64 (254 : Int))] = [D.val (Value.int IntKind.u8 (↑a_1 : Int)), D.val (Value.int IntKind.u64 (↑n : Int))] ∧ a_1 < (256 : Nat) ∧ n < (18446744073709551616 : Nat)) ∧ True ∧ (false = false ∧ True) ∧ D.val (Value.int IntKind.u8 (↑(gpw (↑a : Int).toNat (254 : Nat)) : Int)) = F) := by kernel_rfl
set_option maxRecDepth 100000 in
theorem vc36  (a : Nat) (F : D)  :
    (owed c34 (inv36 a) Try.f36 [u8 a] F) = (
 True ∧
   True ∧
    (((AV.d (D.val (Value.int IntKind.i64 (0 : Int))) = AV.d (D.val (Value.int IntKind.i64 (↑(Int.toNat (0 : Int)) : Int))) ∧ True) ∧ True ∧ true = true) ∧ Int.toNat (0 : Int) ≤ (256 : Nat) ∧ ∀ (j : Nat), j < Int.toNat (0 : Int) → gm a j ≠ (1 : Nat)) ∧
     ∀ (x : Nat),
      (x ≤ (256 : Nat) ∧ ∀ (j : Nat), j < x → gm a j ≠ (1 : Nat)) →
       true = true ∧
        True ∧
         match decide ((↑x : Int) < (256 : Int)) with
         | true =>
          True ∧
           True ∧
            True ∧
             True ∧
              True ∧
               (∃ (a_2 : Nat), ∃ (b : Nat), [D.val (Value.int IntKind.u8 (↑a : Int)), D.val (Value.int IntKind.u8 (IntKind.u8.wrap (↑x : Int)))] = [D.val (Value.int IntKind.u8 (↑a_2 : Int)), D.val (Value.int IntKind.u8 (↑b : Int))] ∧ a_2 < (256 : Nat) ∧ b < (256 : Nat)) ∧
                True ∧
                 match (↑(gm (↑a : Int).toNat (IntKind.u8.wrap (↑x : Int)).toNat) : Int) == (1 : Int) with
                 | true => True ∧ True ∧ True ∧ (false = false ∧ True) ∧ D.val (Value.int IntKind.u8 (IntKind.u8.wrap (↑x : Int))) = F
                 | false =>
                  True ∧
                   True ∧
                    ((AV.d (D.val (Value.int IntKind.i64 (IntKind.i64.wrap ((↑x : Int) + (1 : Int))))) = AV.d (D.val (Value.int IntKind.i64 (↑(IntKind.i64.wrap ((↑x : Int) + (1 : Int))).toNat : Int))) ∧ True) ∧ True ∧ true = true) ∧
                     ((IntKind.i64.wrap ((↑x : Int) + (1 : Int))).toNat ≤ (256 : Nat) ∧ ∀ (j : Nat), j < (IntKind.i64.wrap ((↑x : Int) + (1 : Int))).toNat → gm a j ≠ (1 : Nat)) ∧ (256 : Nat) - (IntKind.i64.wrap ((↑x : Int) + (1 : Int))).toNat < (256 : Nat) - x
         | false => True ∧ (false = false ∧ True) ∧ D.val (Value.int IntKind.u8 (0 : Int)) = F) := by kernel_rfl
set_option maxRecDepth 100000 in
theorem vc64  (a n : Nat) (F : D)  :
    (owed c0 (fun _ => none) Try.f64 [u8 a, i64n n] F) = (
 True ∧
   True ∧
    True ∧
     True ∧
      True ∧
       True ∧
        True ∧
         (0 : Int) ≤ iand IntKind.u64 (IntKind.u64.wrap (↑n : Int)) (7 : Int) ∧
          True ∧
           True ∧
            True ∧
             (0 : Int) ≤ IntKind.u64.wrap ((8 : Int) - iand IntKind.u64 (IntKind.u64.wrap (↑n : Int)) (7 : Int)) ∧
              True ∧ True ∧ (false = false ∧ True) ∧ D.val (Value.int IntKind.u8 (ior IntKind.u8 (ishl IntKind.u8 (↑a : Int) (iand IntKind.u64 (IntKind.u64.wrap (↑n : Int)) (7 : Int))) (ishr IntKind.u8 (↑a : Int) (IntKind.u64.wrap ((8 : Int) - iand IntKind.u64 (IntKind.u64.wrap (↑n : Int)) (7 : Int)))))) = F) := by kernel_rfl
set_option maxRecDepth 100000 in
theorem vc37  (a : Nat) (F : D)  :
    (owed c37 (inv37 a) Try.f37 [u8 a] F) = (
 True ∧
   True ∧
    (∃ (a_1 : Nat), [D.val (Value.int IntKind.u8 (↑a : Int))] = [D.val (Value.int IntKind.u8 (↑a_1 : Int))] ∧ a_1 < (256 : Nat)) ∧
     True ∧
      True ∧
       True ∧
        True ∧
         True ∧
          (((AV.d (D.val (Value.int IntKind.i64 (1 : Int))) = AV.d (D.val (Value.int IntKind.i64 ((↑((1 : Int) - (1 : Int)).toNat : Int) + (1 : Int)))) ∧ AV.d (D.val (Value.int IntKind.u8 (ixor IntKind.u8 (99 : Int) (↑(giv (↑a : Int).toNat) : Int)))) = AV.d (D.val (Value.int IntKind.u8 (↑(gsb (giv a) ((1 : Int) - (1 : Int)).toNat) : Int))) ∧ True) ∧ True ∧ true = true) ∧
            ((1 : Int) - (1 : Int)).toNat ≤ (4 : Nat)) ∧
           ∀ (x : Nat),
            x ≤ (4 : Nat) →
             true = true ∧
              True ∧
               True ∧
                match decide ((↑x : Int) + (1 : Int) ≤ (4 : Int)) with
                | true =>
                 True ∧
                  True ∧
                   True ∧
                    (∃ (a_2 : Nat), ∃ (n : Nat), [D.val (Value.int IntKind.u8 (↑(giv (↑a : Int).toNat) : Int)), D.val (Value.int IntKind.i64 ((↑x : Int) + (1 : Int)))] = [D.val (Value.int IntKind.u8 (↑a_2 : Int)), D.val (Value.int IntKind.i64 (↑n : Int))] ∧ a_2 < (256 : Nat) ∧ n < (8 : Nat)) ∧
                     True ∧
                      True ∧
                       True ∧
                        True ∧
                         True ∧
                          ((AV.d (D.val (Value.int IntKind.i64 (IntKind.i64.wrap ((↑x : Int) + (1 : Int) + (1 : Int))))) = AV.d (D.val (Value.int IntKind.i64 ((↑(IntKind.i64.wrap ((↑x : Int) + (1 : Int) + (1 : Int)) - (1 : Int)).toNat : Int) + (1 : Int)))) ∧
                             AV.d (D.val (Value.int IntKind.u8 (ixor IntKind.u8 (↑(gsb (giv a) x) : Int) (↑(rl8 (↑(giv (↑a : Int).toNat) : Int).toNat ((↑x : Int) + (1 : Int)).toNat) : Int)))) = AV.d (D.val (Value.int IntKind.u8 (↑(gsb (giv a) (IntKind.i64.wrap ((↑x : Int) + (1 : Int) + (1 : Int)) - (1 : Int)).toNat) : Int))) ∧ True) ∧
                            True ∧ true = true) ∧
                           (IntKind.i64.wrap ((↑x : Int) + (1 : Int) + (1 : Int)) - (1 : Int)).toNat ≤ (4 : Nat) ∧ (4 : Nat) - (IntKind.i64.wrap ((↑x : Int) + (1 : Int) + (1 : Int)) - (1 : Int)).toNat < (4 : Nat) - x
                | false => True ∧ True ∧ (false = false ∧ True) ∧ D.val (Value.int IntKind.u8 (↑(gsb (giv a) x) : Int)) = F) := by kernel_rfl
set_option maxRecDepth 100000 in
theorem vc38  (a : Nat) (F : D)  :
    (owed c37 (fun _ => none) Try.f38 [u8 a] F) = (
 True ∧
   True ∧
    True ∧
     True ∧
      True ∧
       (∃ (a_1 : Nat), ∃ (n : Nat), [D.val (Value.int IntKind.u8 (ixor IntKind.u8 (↑a : Int) (99 : Int))), D.val (Value.int IntKind.i64 (1 : Int))] = [D.val (Value.int IntKind.u8 (↑a_1 : Int)), D.val (Value.int IntKind.i64 (↑n : Int))] ∧ a_1 < (256 : Nat) ∧ n < (8 : Nat)) ∧
        True ∧
         (∃ (a_1 : Nat), ∃ (n : Nat), [D.val (Value.int IntKind.u8 (ixor IntKind.u8 (↑a : Int) (99 : Int))), D.val (Value.int IntKind.i64 (3 : Int))] = [D.val (Value.int IntKind.u8 (↑a_1 : Int)), D.val (Value.int IntKind.i64 (↑n : Int))] ∧ a_1 < (256 : Nat) ∧ n < (8 : Nat)) ∧
          True ∧
           True ∧
            (∃ (a_1 : Nat), ∃ (n : Nat), [D.val (Value.int IntKind.u8 (ixor IntKind.u8 (↑a : Int) (99 : Int))), D.val (Value.int IntKind.i64 (6 : Int))] = [D.val (Value.int IntKind.u8 (↑a_1 : Int)), D.val (Value.int IntKind.i64 (↑n : Int))] ∧ a_1 < (256 : Nat) ∧ n < (8 : Nat)) ∧
             True ∧
              (∃ (a_1 : Nat), [D.val (Value.int IntKind.u8 (ixor IntKind.u8 (ixor IntKind.u8 (↑(rl8 (ixor IntKind.u8 (↑a : Int) (99 : Int)).toNat (1 : Nat)) : Int) (↑(rl8 (ixor IntKind.u8 (↑a : Int) (99 : Int)).toNat (3 : Nat)) : Int)) (↑(rl8 (ixor IntKind.u8 (↑a : Int) (99 : Int)).toNat (6 : Nat)) : Int)))] = [D.val (Value.int IntKind.u8 (↑a_1 : Int))] ∧ a_1 < (256 : Nat)) ∧
               True ∧ (false = false ∧ True) ∧ D.val (Value.int IntKind.u8 (↑(giv (ixor IntKind.u8 (ixor IntKind.u8 (↑(rl8 (ixor IntKind.u8 (↑a : Int) (99 : Int)).toNat (1 : Nat)) : Int) (↑(rl8 (ixor IntKind.u8 (↑a : Int) (99 : Int)).toNat (3 : Nat)) : Int)) (↑(rl8 (ixor IntKind.u8 (↑a : Int) (99 : Int)).toNat (6 : Nat)) : Int)).toNat) : Int)) = F) := by kernel_rfl
set_option maxRecDepth 100000 in
theorem vc65  (l m : List Int) (F : D)  :
    (owed c33 (inv65 l m) Try.f65 [b4 l, b4 m] F) = (
 (True ∧ false = false) ∧
   (True ∧ false = false) ∧
    (True ∧ (4 : Nat) ≠ (0 : Nat)) ∧
     (True ∧ (4 : Nat) ≠ (0 : Nat)) ∧
      True ∧
       (((AV.d (D.val (Value.int IntKind.i64 (0 : Int))) = AV.d (D.val (Value.int IntKind.i64 (↑(Int.toNat (0 : Int)) : Int))) ∧ True) ∧
          (some (Blk.fix (D.arr IntKind.u8 (4 : Nat) l)) = some (Blk.fix (D.arr IntKind.u8 (4 : Nat) l)) ∧
            some (Blk.fix (D.arr IntKind.u8 (4 : Nat) m)) = some (Blk.fix (D.arr IntKind.u8 (4 : Nat) m)) ∧
             some (Blk.fix (D.arr IntKind.u8 (4 : Nat) [(0 : Int), (0 : Int), (0 : Int), (0 : Int)])) = some (Blk.fix (D.arr IntKind.u8 (4 : Nat) [(0 : Int), (0 : Int), (0 : Int), (0 : Int)])) ∧
              some (Blk.fix (D.arr IntKind.u8 (4 : Nat) [(0 : Int), (0 : Int), (0 : Int), (0 : Int)])) = some (Blk.fix (D.arr IntKind.u8 (4 : Nat) (gcl l m (Int.toNat (0 : Int)) ++ [(0 : Int), (0 : Int), (0 : Int), (0 : Int)]))) ∧ True) ∧
           true = true) ∧
         Int.toNat (0 : Int) ≤ (4 : Nat)) ∧
        ∀ (x : Nat),
         x ≤ (4 : Nat) →
          true = true ∧
           True ∧
            match decide ((↑x : Int) < (4 : Int)) with
            | true =>
             True ∧
              True ∧
               ((4 : Nat) ≠ (0 : Nat) ∧ (4 : Nat) = (4 : Nat) ∧ true = true) ∧
                True ∧
                 (((AV.d (D.val (Value.int IntKind.i64 (0 : Int))) = AV.d (D.val (Value.int IntKind.i64 (↑(0 : Nat) : Int))) ∧ True) ∧
                    (some (Blk.fix (D.arr IntKind.u8 (4 : Nat) l)) = some (Blk.fix (D.arr IntKind.u8 (4 : Nat) l)) ∧
                      some (Blk.fix (D.arr IntKind.u8 (4 : Nat) m)) = some (Blk.fix (D.arr IntKind.u8 (4 : Nat) m)) ∧
                       some (Blk.fix (D.arr IntKind.u8 (4 : Nat) [(0 : Int), (0 : Int), (0 : Int), (0 : Int)])) = some (Blk.fix (D.arr IntKind.u8 (4 : Nat) [(0 : Int), (0 : Int), (0 : Int), (0 : Int)])) ∧
                        some (Blk.fix (D.arr IntKind.u8 (4 : Nat) (gcl l m x ++ List.replicate ((4 : Nat) - x) (0 : Int)))) = some (Blk.fix (D.arr IntKind.u8 (4 : Nat) (gcl l m (↑x : Int).toNat ++ (↑(gce l m (↑x : Int).toNat (0 : Nat)) : Int) :: List.replicate ((3 : Nat) - (↑x : Int).toNat) (0 : Int)))) ∧ True) ∧
                     true = true) ∧
                   (↑(↑x : Int).toNat : Int) = (↑x : Int) ∧ (0 : Nat) ≤ (4 : Nat)) ∧
                  ∀ (x_1 : Nat × Nat),
                   (↑x_1.fst : Int) = (↑x : Int) ∧ x_1.snd ≤ (4 : Nat) →
                    true = true ∧
                     True ∧
                      match decide ((↑x_1.snd : Int) < (4 : Int)) with
                      | true =>
                       True ∧
                        ((0 : Int) ≤ (↑x_1.snd : Int) ∧ (↑x_1.snd : Int) < (↑(4 : Nat) : Int) ∧ (4 : Nat) = (4 : Nat) ∧ Ty.int IntKind.u8 = Ty.int IntKind.u8 ∧ (1 : Nat) = (1 : Nat)) ∧
                         True ∧
                          True ∧
                           True ∧
                            ((0 : Int) ≤ (↑x : Int) ∧ (↑x : Int) < (↑(4 : Nat) : Int) ∧ (4 : Nat) = (4 : Nat) ∧ (1 : Nat) = (1 : Nat)) ∧
                             ((1 : Nat) ≠ (0 : Nat) ∧ (1 : Nat) = (1 : Nat) ∧ false = false) ∧
                              True ∧
                               True ∧
                                True ∧
                                 True ∧
                                  (4 : Int) ≠ (0 : Int) ∧
                                   ((0 : Int) ≤ (IntKind.i64.wrap ((↑x : Int) + (↑x_1.snd : Int))).tmod (4 : Int) ∧ (IntKind.i64.wrap ((↑x : Int) + (↑x_1.snd : Int))).tmod (4 : Int) < (↑(4 : Nat) : Int) ∧ (4 : Nat) = (4 : Nat) ∧ (1 : Nat) = (1 : Nat)) ∧
                                    ((1 : Nat) ≠ (0 : Nat) ∧ (1 : Nat) = (1 : Nat) ∧ false = false) ∧
                                     (∃ (a : Nat),
                                       ∃ (b : Nat),
                                        [D.val (Value.int IntKind.u8 (m.getD (↑x_1.snd : Int).toNat (0 : Int))), D.val (Value.int IntKind.u8 (l.getD ((IntKind.i64.wrap ((↑x : Int) + (↑x_1.snd : Int))).tmod (4 : Int)).toNat (0 : Int)))] = [D.val (Value.int IntKind.u8 (↑a : Int)), D.val (Value.int IntKind.u8 (↑b : Int))] ∧ a < (256 : Nat) ∧ b < (256 : Nat)) ∧
                                      True ∧
                                       ((0 : Int) ≤ (↑x : Int) ∧ (↑x : Int) < (↑(4 : Nat) : Int) ∧ (4 : Nat) = (4 : Nat) ∧ (1 : Nat) = (1 : Nat)) ∧
                                        (((↑x : Int).toNat < (4 : Nat) ∧ ([] : List Nat) = [] ∧ true = true) ∧ (1 : Nat) ≠ (0 : Nat) ∧ (1 : Nat) = (1 : Nat) ∧ false = false) ∧
                                         True ∧
                                          True ∧
                                           ((AV.d (D.val (Value.int IntKind.i64 (IntKind.i64.wrap ((↑x_1.snd : Int) + (1 : Int))))) = AV.d (D.val (Value.int IntKind.i64 (↑(IntKind.i64.wrap ((↑x_1.snd : Int) + (1 : Int))).toNat : Int))) ∧ True) ∧
                                             (some (Blk.fix (D.arr IntKind.u8 (4 : Nat) l)) = some (Blk.fix (D.arr IntKind.u8 (4 : Nat) l)) ∧
                                               some (Blk.fix (D.arr IntKind.u8 (4 : Nat) m)) = some (Blk.fix (D.arr IntKind.u8 (4 : Nat) m)) ∧
                                                some (Blk.fix (D.arr IntKind.u8 (4 : Nat) [(0 : Int), (0 : Int), (0 : Int), (0 : Int)])) = some (Blk.fix (D.arr IntKind.u8 (4 : Nat) [(0 : Int), (0 : Int), (0 : Int), (0 : Int)])) ∧
                                                 some
                                                    (Blk.fix
                                                     (D.arr IntKind.u8 (4 : Nat)
                                                      ((gcl l m x_1.fst ++ (↑(gce l m x_1.fst x_1.snd) : Int) :: List.replicate ((3 : Nat) - x_1.fst) (0 : Int)).set (↑x : Int).toNat
                                                       (ixor IntKind.u8 ((gcl l m x_1.fst ++ (↑(gce l m x_1.fst x_1.snd) : Int) :: List.replicate ((3 : Nat) - x_1.fst) (0 : Int)).getD (↑x : Int).toNat (0 : Int))
                                                        (↑(gm (m.getD (↑x_1.snd : Int).toNat (0 : Int)).toNat (l.getD ((IntKind.i64.wrap ((↑x : Int) + (↑x_1.snd : Int))).tmod (4 : Int)).toNat (0 : Int)).toNat) : Int))))) =
                                                   some (Blk.fix (D.arr IntKind.u8 (4 : Nat) (gcl l m (↑x : Int).toNat ++ (↑(gce l m (↑x : Int).toNat (IntKind.i64.wrap ((↑x_1.snd : Int) + (1 : Int))).toNat) : Int) :: List.replicate ((3 : Nat) - (↑x : Int).toNat) (0 : Int)))) ∧
                                                  True) ∧
                                              true = true) ∧
                                            ((↑(↑x : Int).toNat : Int) = (↑x : Int) ∧ (IntKind.i64.wrap ((↑x_1.snd : Int) + (1 : Int))).toNat ≤ (4 : Nat)) ∧ (4 : Nat) - (IntKind.i64.wrap ((↑x_1.snd : Int) + (1 : Int))).toNat < (4 : Nat) - x_1.snd
                      | false =>
                       True ∧
                        True ∧
                         ((AV.d (D.val (Value.int IntKind.i64 (IntKind.i64.wrap ((↑x : Int) + (1 : Int))))) = AV.d (D.val (Value.int IntKind.i64 (↑(IntKind.i64.wrap ((↑x : Int) + (1 : Int))).toNat : Int))) ∧ True) ∧
                           (some (Blk.fix (D.arr IntKind.u8 (4 : Nat) l)) = some (Blk.fix (D.arr IntKind.u8 (4 : Nat) l)) ∧
                             some (Blk.fix (D.arr IntKind.u8 (4 : Nat) m)) = some (Blk.fix (D.arr IntKind.u8 (4 : Nat) m)) ∧
                              some (Blk.fix (D.arr IntKind.u8 (4 : Nat) [(0 : Int), (0 : Int), (0 : Int), (0 : Int)])) = some (Blk.fix (D.arr IntKind.u8 (4 : Nat) [(0 : Int), (0 : Int), (0 : Int), (0 : Int)])) ∧
                               some (Blk.fix (D.arr IntKind.u8 (4 : Nat) (gcl l m x_1.fst ++ (↑(gce l m x_1.fst x_1.snd) : Int) :: List.replicate ((3 : Nat) - x_1.fst) (0 : Int)))) =
                                 some (Blk.fix (D.arr IntKind.u8 (4 : Nat) (gcl l m (IntKind.i64.wrap ((↑x : Int) + (1 : Int))).toNat ++ List.replicate ((4 : Nat) - (IntKind.i64.wrap ((↑x : Int) + (1 : Int))).toNat) (0 : Int)))) ∧
                                True) ∧
                            true = true) ∧
                          (IntKind.i64.wrap ((↑x : Int) + (1 : Int))).toNat ≤ (4 : Nat) ∧ (4 : Nat) - (IntKind.i64.wrap ((↑x : Int) + (1 : Int))).toNat < (4 : Nat) - x
            | false => ((4 : Nat) ≠ (0 : Nat) ∧ (4 : Nat) = (4 : Nat) ∧ true = true) ∧ (Sk.arr (4 : Nat) = Sk.arr (4 : Nat) ∧ (4 : Nat) ≠ (0 : Nat) ∧ (4 : Nat) = (4 : Nat) ∧ false = false) ∧ (((4 : Nat) ≠ (0 : Nat) ∧ (4 : Nat) = (4 : Nat) ∧ true = true) ∧ True) ∧ D.arr IntKind.u8 (4 : Nat) (gcl l m x ++ List.replicate ((4 : Nat) - x) (0 : Int)) = F) := by kernel_rfl
set_option maxRecDepth 100000 in
theorem vc41  (l m : List Int) (F : D)  :
    (owed c41 (inv41 l m) Try.f41 [b4 l, b4 m] F) = (
 (True ∧ false = false) ∧
   (True ∧ false = false) ∧
    (True ∧ (4 : Nat) ≠ (0 : Nat)) ∧
     (True ∧ (4 : Nat) ≠ (0 : Nat)) ∧
      True ∧
       (((AV.d (D.val (Value.int IntKind.i64 (0 : Int))) = AV.d (D.val (Value.int IntKind.i64 (↑(Int.toNat (0 : Int)) : Int))) ∧ True) ∧
          (some (Blk.fix (D.arr IntKind.u8 (4 : Nat) l)) = some (Blk.fix (D.arr IntKind.u8 (4 : Nat) l)) ∧
            some (Blk.fix (D.arr IntKind.u8 (4 : Nat) m)) = some (Blk.fix (D.arr IntKind.u8 (4 : Nat) m)) ∧
             some (Blk.fix (D.arr IntKind.u8 (4 : Nat) [(0 : Int), (0 : Int), (0 : Int), (0 : Int)])) = some (Blk.fix (D.arr IntKind.u8 (4 : Nat) [(0 : Int), (0 : Int), (0 : Int), (0 : Int)])) ∧
              some (Blk.fix (D.arr IntKind.u8 (4 : Nat) [(0 : Int), (0 : Int), (0 : Int), (0 : Int)])) = some (Blk.fix (D.arr IntKind.u8 (4 : Nat) (gcl l m (Int.toNat (0 : Int)) ++ [(0 : Int), (0 : Int), (0 : Int), (0 : Int)]))) ∧ True) ∧
           true = true) ∧
         Int.toNat (0 : Int) ≤ (4 : Nat)) ∧
        ∀ (x : Nat),
         x ≤ (4 : Nat) →
          true = true ∧
           True ∧
            match decide ((↑x : Int) < (4 : Int)) with
            | true =>
             True ∧
              True ∧
               True ∧
                (((AV.d (D.val (Value.int IntKind.i64 (0 : Int))) = AV.d (D.val (Value.int IntKind.i64 (↑(0 : Nat) : Int))) ∧ True) ∧
                   (some (Blk.fix (D.arr IntKind.u8 (4 : Nat) l)) = some (Blk.fix (D.arr IntKind.u8 (4 : Nat) l)) ∧
                     some (Blk.fix (D.arr IntKind.u8 (4 : Nat) m)) = some (Blk.fix (D.arr IntKind.u8 (4 : Nat) m)) ∧
                      some (Blk.fix (D.arr IntKind.u8 (4 : Nat) [(0 : Int), (0 : Int), (0 : Int), (0 : Int)])) = some (Blk.fix (D.arr IntKind.u8 (4 : Nat) [(0 : Int), (0 : Int), (0 : Int), (0 : Int)])) ∧
                       some (Blk.fix (D.arr IntKind.u8 (4 : Nat) (gcl l m x ++ List.replicate ((4 : Nat) - x) (0 : Int)))) = some (Blk.fix (D.arr IntKind.u8 (4 : Nat) (gcl l m (↑x : Int).toNat ++ (↑(gce l m (↑x : Int).toNat (0 : Nat)) : Int) :: List.replicate ((3 : Nat) - (↑x : Int).toNat) (0 : Int)))) ∧ True) ∧
                    true = true) ∧
                  (↑(↑x : Int).toNat : Int) = (↑x : Int) ∧ (0 : Nat) ≤ (4 : Nat)) ∧
                 ∀ (x_1 : Nat × Nat),
                  (↑x_1.fst : Int) = (↑x : Int) ∧ x_1.snd ≤ (4 : Nat) →
                   true = true ∧
                    True ∧
                     match decide ((↑x_1.snd : Int) < (4 : Int)) with
                     | true =>
                      True ∧
                       True ∧
                        True ∧
                         ((0 : Int) ≤ (↑x : Int) ∧ (↑x : Int) < (↑(4 : Nat) : Int) ∧ (4 : Nat) = (4 : Nat) ∧ (1 : Nat) = (1 : Nat)) ∧
                          ((1 : Nat) ≠ (0 : Nat) ∧ (1 : Nat) = (1 : Nat) ∧ false = false) ∧
                           True ∧
                            ((0 : Int) ≤ (↑x_1.snd : Int) ∧ (↑x_1.snd : Int) < (↑(4 : Nat) : Int) ∧ (4 : Nat) = (4 : Nat) ∧ (1 : Nat) = (1 : Nat)) ∧
                             ((1 : Nat) ≠ (0 : Nat) ∧ (1 : Nat) = (1 : Nat) ∧ false = false) ∧
                              True ∧
                               True ∧
                                True ∧
                                 (4 : Int) ≠ (0 : Int) ∧
                                  ((0 : Int) ≤ (IntKind.i64.wrap ((↑x : Int) + (↑x_1.snd : Int))).tmod (4 : Int) ∧ (IntKind.i64.wrap ((↑x : Int) + (↑x_1.snd : Int))).tmod (4 : Int) < (↑(4 : Nat) : Int) ∧ (4 : Nat) = (4 : Nat) ∧ (1 : Nat) = (1 : Nat)) ∧
                                   ((1 : Nat) ≠ (0 : Nat) ∧ (1 : Nat) = (1 : Nat) ∧ false = false) ∧
                                    (∃ (a : Nat),
                                      ∃ (b : Nat),
                                       [D.val (Value.int IntKind.u8 (m.getD (↑x_1.snd : Int).toNat (0 : Int))), D.val (Value.int IntKind.u8 (l.getD ((IntKind.i64.wrap ((↑x : Int) + (↑x_1.snd : Int))).tmod (4 : Int)).toNat (0 : Int)))] = [D.val (Value.int IntKind.u8 (↑a : Int)), D.val (Value.int IntKind.u8 (↑b : Int))] ∧ a < (256 : Nat) ∧ b < (256 : Nat)) ∧
                                     True ∧
                                      ((0 : Int) ≤ (↑x : Int) ∧ (↑x : Int) < (↑(4 : Nat) : Int) ∧ (4 : Nat) = (4 : Nat) ∧ (1 : Nat) = (1 : Nat)) ∧
                                       (((↑x : Int).toNat < (4 : Nat) ∧ ([] : List Nat) = [] ∧ true = true) ∧ (1 : Nat) ≠ (0 : Nat) ∧ (1 : Nat) = (1 : Nat) ∧ false = false) ∧
                                        True ∧
                                         True ∧
                                          ((AV.d (D.val (Value.int IntKind.i64 (IntKind.i64.wrap ((↑x_1.snd : Int) + (1 : Int))))) = AV.d (D.val (Value.int IntKind.i64 (↑(IntKind.i64.wrap ((↑x_1.snd : Int) + (1 : Int))).toNat : Int))) ∧ True) ∧
                                            (some (Blk.fix (D.arr IntKind.u8 (4 : Nat) l)) = some (Blk.fix (D.arr IntKind.u8 (4 : Nat) l)) ∧
                                              some (Blk.fix (D.arr IntKind.u8 (4 : Nat) m)) = some (Blk.fix (D.arr IntKind.u8 (4 : Nat) m)) ∧
                                               some (Blk.fix (D.arr IntKind.u8 (4 : Nat) [(0 : Int), (0 : Int), (0 : Int), (0 : Int)])) = some (Blk.fix (D.arr IntKind.u8 (4 : Nat) [(0 : Int), (0 : Int), (0 : Int), (0 : Int)])) ∧
                                                some
                                                   (Blk.fix
                                                    (D.arr IntKind.u8 (4 : Nat)
                                                     ((gcl l m x_1.fst ++ (↑(gce l m x_1.fst x_1.snd) : Int) :: List.replicate ((3 : Nat) - x_1.fst) (0 : Int)).set (↑x : Int).toNat
                                                      (ixor IntKind.u8 ((gcl l m x_1.fst ++ (↑(gce l m x_1.fst x_1.snd) : Int) :: List.replicate ((3 : Nat) - x_1.fst) (0 : Int)).getD (↑x : Int).toNat (0 : Int))
                                                       (↑(gm (m.getD (↑x_1.snd : Int).toNat (0 : Int)).toNat (l.getD ((IntKind.i64.wrap ((↑x : Int) + (↑x_1.snd : Int))).tmod (4 : Int)).toNat (0 : Int)).toNat) : Int))))) =
                                                  some (Blk.fix (D.arr IntKind.u8 (4 : Nat) (gcl l m (↑x : Int).toNat ++ (↑(gce l m (↑x : Int).toNat (IntKind.i64.wrap ((↑x_1.snd : Int) + (1 : Int))).toNat) : Int) :: List.replicate ((3 : Nat) - (↑x : Int).toNat) (0 : Int)))) ∧
                                                 True) ∧
                                             true = true) ∧
                                           ((↑(↑x : Int).toNat : Int) = (↑x : Int) ∧ (IntKind.i64.wrap ((↑x_1.snd : Int) + (1 : Int))).toNat ≤ (4 : Nat)) ∧ (4 : Nat) - (IntKind.i64.wrap ((↑x_1.snd : Int) + (1 : Int))).toNat < (4 : Nat) - x_1.snd
                     | false =>
                      True ∧
                       True ∧
                        ((AV.d (D.val (Value.int IntKind.i64 (IntKind.i64.wrap ((↑x : Int) + (1 : Int))))) = AV.d (D.val (Value.int IntKind.i64 (↑(IntKind.i64.wrap ((↑x : Int) + (1 : Int))).toNat : Int))) ∧ True) ∧
                          (some (Blk.fix (D.arr IntKind.u8 (4 : Nat) l)) = some (Blk.fix (D.arr IntKind.u8 (4 : Nat) l)) ∧
                            some (Blk.fix (D.arr IntKind.u8 (4 : Nat) m)) = some (Blk.fix (D.arr IntKind.u8 (4 : Nat) m)) ∧
                             some (Blk.fix (D.arr IntKind.u8 (4 : Nat) [(0 : Int), (0 : Int), (0 : Int), (0 : Int)])) = some (Blk.fix (D.arr IntKind.u8 (4 : Nat) [(0 : Int), (0 : Int), (0 : Int), (0 : Int)])) ∧
                              some (Blk.fix (D.arr IntKind.u8 (4 : Nat) (gcl l m x_1.fst ++ (↑(gce l m x_1.fst x_1.snd) : Int) :: List.replicate ((3 : Nat) - x_1.fst) (0 : Int)))) =
                                some (Blk.fix (D.arr IntKind.u8 (4 : Nat) (gcl l m (IntKind.i64.wrap ((↑x : Int) + (1 : Int))).toNat ++ List.replicate ((4 : Nat) - (IntKind.i64.wrap ((↑x : Int) + (1 : Int))).toNat) (0 : Int)))) ∧
                               True) ∧
                           true = true) ∧
                         (IntKind.i64.wrap ((↑x : Int) + (1 : Int))).toNat ≤ (4 : Nat) ∧ (4 : Nat) - (IntKind.i64.wrap ((↑x : Int) + (1 : Int))).toNat < (4 : Nat) - x
            | false => ((4 : Nat) ≠ (0 : Nat) ∧ (4 : Nat) = (4 : Nat) ∧ true = true) ∧ (Sk.arr (4 : Nat) = Sk.arr (4 : Nat) ∧ (4 : Nat) ≠ (0 : Nat) ∧ (4 : Nat) = (4 : Nat) ∧ false = false) ∧ (((4 : Nat) ≠ (0 : Nat) ∧ (4 : Nat) = (4 : Nat) ∧ true = true) ∧ True) ∧ D.arr IntKind.u8 (4 : Nat) (gcl l m x ++ List.replicate ((4 : Nat) - x) (0 : Int)) = F) := by kernel_rfl
set_option maxRecDepth 100000 in
theorem vc40  (l : List Int) (F : D)  :
    (owed c40 (fun _ => none) Try.f40 [b4 l] F) = (
 (True ∧ false = false) ∧
   (True ∧ (4 : Nat) ≠ (0 : Nat)) ∧
    ((4 : Nat) ≠ (0 : Nat) ∧ (4 : Nat) = (4 : Nat) ∧ true = true) ∧
     ((1 : Nat) = (1 : Nat) ∧ false = false ∧ ((0 : Nat) < (4 : Nat) ∧ ([] : List Nat) = [] ∧ true = true) ∧ false = false ∧ ((1 : Nat) < (4 : Nat) ∧ ([] : List Nat) = [] ∧ true = true) ∧ false = false ∧ ((2 : Nat) < (4 : Nat) ∧ ([] : List Nat) = [] ∧ true = true) ∧ false = false ∧ ((3 : Nat) < (4 : Nat) ∧ ([] : List Nat) = [] ∧ true = true) ∧ True) ∧
      (∃ (l_1 : List Int), ∃ (m : List Int), [D.arr IntKind.u8 (4 : Nat) l, D.arr IntKind.u8 (4 : Nat) [(2 : Int), (3 : Int), (1 : Int), (1 : Int)]] = [D.arr IntKind.u8 (4 : Nat) l_1, D.arr IntKind.u8 (4 : Nat) m] ∧ (okb l_1 ∧ l_1.length = (4 : Nat)) ∧ okb m ∧ m.length = (4 : Nat)) ∧
       (Sk.arr (4 : Nat) = Sk.arr (4 : Nat) ∧ (4 : Nat) ≠ (0 : Nat) ∧ (4 : Nat) = (4 : Nat) ∧ false = false) ∧ (((4 : Nat) ≠ (0 : Nat) ∧ (4 : Nat) = (4 : Nat) ∧ true = true) ∧ True) ∧ D.arr IntKind.u8 (4 : Nat) (gcl l [(2 : Int), (3 : Int), (1 : Int), (1 : Int)] (4 : Nat)) = F) := by kernel_rfl
set_option maxRecDepth 100000 in
theorem vc42  (l : List Int) (F : D)  :
    (owed c40 (fun _ => none) Try.f42 [b4 l] F) = (
 (True ∧ false = false) ∧
   (True ∧ (4 : Nat) ≠ (0 : Nat)) ∧
    ((4 : Nat) ≠ (0 : Nat) ∧ (4 : Nat) = (4 : Nat) ∧ true = true) ∧
     ((1 : Nat) = (1 : Nat) ∧ false = false ∧ ((0 : Nat) < (4 : Nat) ∧ ([] : List Nat) = [] ∧ true = true) ∧ false = false ∧ ((1 : Nat) < (4 : Nat) ∧ ([] : List Nat) = [] ∧ true = true) ∧ false = false ∧ ((2 : Nat) < (4 : Nat) ∧ ([] : List Nat) = [] ∧ true = true) ∧ false = false ∧ ((3 : Nat) < (4 : Nat) ∧ ([] : List Nat) = [] ∧ true = true) ∧ True) ∧
      (∃ (l_1 : List Int), ∃ (m : List Int), [D.arr IntKind.u8 (4 : Nat) l, D.arr IntKind.u8 (4 : Nat) [(14 : Int), (11 : Int), (13 : Int), (9 : Int)]] = [D.arr IntKind.u8 (4 : Nat) l_1, D.arr IntKind.u8 (4 : Nat) m] ∧ (okb l_1 ∧ l_1.length = (4 : Nat)) ∧ okb m ∧ m.length = (4 : Nat)) ∧
       (Sk.arr (4 : Nat) = Sk.arr (4 : Nat) ∧ (4 : Nat) ≠ (0 : Nat) ∧ (4 : Nat) = (4 : Nat) ∧ false = false) ∧ (((4 : Nat) ≠ (0 : Nat) ∧ (4 : Nat) = (4 : Nat) ∧ true = true) ∧ True) ∧ D.arr IntKind.u8 (4 : Nat) (gcl l [(14 : Int), (11 : Int), (13 : Int), (9 : Int)] (4 : Nat)) = F) := by kernel_rfl
set_option maxRecDepth 100000 in
theorem vc39  (l : List Int) (F : D)  :
    (owed c0 (inv39 l) Try.f39 [b256 l] F) = (
 (True ∧ false = false) ∧
   (True ∧ (256 : Nat) ≠ (0 : Nat)) ∧
    (True ∧ (256 : Nat) ≠ (0 : Nat)) ∧
     ((256 : Nat) ≠ (0 : Nat) ∧ (256 : Nat) = (256 : Nat) ∧ true = true) ∧
      True ∧
       (((AV.d (D.val (Value.int IntKind.i64 (0 : Int))) = AV.d (D.val (Value.int IntKind.i64 (↑(Int.toNat (0 : Int)) : Int))) ∧ True) ∧
          (some (Blk.fix (D.arr IntKind.u8 (256 : Nat) l)) = some (Blk.fix (D.arr IntKind.u8 (256 : Nat) l)) ∧
            some
               (Blk.fix
                (D.arr IntKind.u8 (256 : Nat)
                 (List.replicate (256 : Nat) (0 : Int)))) =
              some
               (Blk.fix
                (D.arr IntKind.u8 (256 : Nat)
                 (List.replicate (256 : Nat) (0 : Int)))) ∧
             some
                (Blk.fix
                 (D.arr IntKind.u8 (256 : Nat)
                  (List.replicate (256 : Nat) (0 : Int)))) =
               some (Blk.fix (D.arr IntKind.u8 (256 : Nat) (gub l (Int.toNat (0 : Int))))) ∧
              True) ∧
           true = true) ∧
         Int.toNat (0 : Int) ≤ (256 : Nat)) ∧
        ∀ (x : Nat),
         x ≤ (256 : Nat) →
          true = true ∧
           True ∧
            match decide ((↑x : Int) < (256 : Int)) with
            | true =>
             True ∧
              ((0 : Int) ≤ (↑x : Int) ∧ (↑x : Int) < (↑(256 : Nat) : Int) ∧ (256 : Nat) = (256 : Nat) ∧ Ty.int IntKind.u8 = Ty.int IntKind.u8 ∧ (1 : Nat) = (1 : Nat)) ∧
               True ∧
                True ∧
                 True ∧
                  True ∧
                   True ∧
                    ((0 : Int) ≤ l.getD (↑x : Int).toNat (0 : Int) ∧ l.getD (↑x : Int).toNat (0 : Int) < (↑(256 : Nat) : Int) ∧ (256 : Nat) = (256 : Nat) ∧ (1 : Nat) = (1 : Nat)) ∧
                     (((l.getD (↑x : Int).toNat (0 : Int)).toNat < (256 : Nat) ∧ ([] : List Nat) = [] ∧ true = true) ∧ (1 : Nat) ≠ (0 : Nat) ∧ (1 : Nat) = (1 : Nat) ∧ false = false) ∧
                      True ∧
                       True ∧
                        ((AV.d (D.val (Value.int IntKind.i64 (IntKind.i64.wrap ((↑x : Int) + (1 : Int))))) = AV.d (D.val (Value.int IntKind.i64 (↑(IntKind.i64.wrap ((↑x : Int) + (1 : Int))).toNat : Int))) ∧ True) ∧
                          (some (Blk.fix (D.arr IntKind.u8 (256 : Nat) l)) = some (Blk.fix (D.arr IntKind.u8 (256 : Nat) l)) ∧
                            some
                               (Blk.fix
                                (D.arr IntKind.u8 (256 : Nat)
                                 (List.replicate (256 : Nat) (0 : Int)))) =
                              some
                               (Blk.fix
                                (D.arr IntKind.u8 (256 : Nat)
                                 (List.replicate (256 : Nat) (0 : Int)))) ∧
                             some (Blk.fix (D.arr IntKind.u8 (256 : Nat) ((gub l x).set (l.getD (↑x : Int).toNat (0 : Int)).toNat (IntKind.u8.wrap (↑x : Int))))) = some (Blk.fix (D.arr IntKind.u8 (256 : Nat) (gub l (IntKind.i64.wrap ((↑x : Int) + (1 : Int))).toNat))) ∧ True) ∧
                           true = true) ∧
                         (IntKind.i64.wrap ((↑x : Int) + (1 : Int))).toNat ≤ (256 : Nat) ∧ (256 : Nat) - (IntKind.i64.wrap ((↑x : Int) + (1 : Int))).toNat < (256 : Nat) - x
            | false => ((256 : Nat) ≠ (0 : Nat) ∧ (256 : Nat) = (256 : Nat) ∧ true = true) ∧ (Sk.arr (256 : Nat) = Sk.arr (256 : Nat) ∧ (256 : Nat) ≠ (0 : Nat) ∧ (256 : Nat) = (256 : Nat) ∧ false = false) ∧ (((256 : Nat) ≠ (0 : Nat) ∧ (256 : Nat) = (256 : Nat) ∧ true = true) ∧ True) ∧ D.arr IntKind.u8 (256 : Nat) (gub l x) = F) := by kernel_rfl
set_option maxRecDepth 100000 in
theorem vc30  (F : D)  :
    (owed c41 inv30 Try.f30 [] F) = (
 (True ∧ (256 : Nat) ≠ (0 : Nat)) ∧
   (True ∧ (256 : Nat) ≠ (0 : Nat)) ∧
    (True ∧ (256 : Nat) ≠ (0 : Nat)) ∧
     True ∧
      (True ∧ (255 : Nat) ≠ (0 : Nat)) ∧
       True ∧
        (((AV.d (D.val (Value.int IntKind.i64 (0 : Int))) = AV.d (D.val (Value.int IntKind.i64 (↑(Int.toNat (0 : Int)) : Int))) ∧ AV.d (D.val (Value.int IntKind.u8 (1 : Int))) = AV.d (D.val (Value.int IntKind.u8 (↑(gpw (3 : Nat) (Int.toNat (0 : Int))) : Int))) ∧ True) ∧
           (some
               (Blk.fix
                (D.arr IntKind.u8 (256 : Nat)
                 (List.replicate (256 : Nat) (0 : Int)))) =
              some
               (Blk.fix
                (D.arr IntKind.u8 (256 : Nat)
                 (List.replicate (256 : Nat) (0 : Int)))) ∧
             some
                (Blk.fix
                 (D.arr IntKind.u8 (256 : Nat)
                  (List.replicate (256 : Nat) (0 : Int)))) =
               some
                (Blk.fix
                 (D.arr IntKind.u8 (256 : Nat)
                  (List.replicate (256 : Nat) (0 : Int)))) ∧
              some
                 (Blk.fix
                  (D.arr IntKind.u8 (256 : Nat)
                   (List.replicate (256 : Nat) (0 : Int)))) =
                some
                 (Blk.fix
                  (D.arr IntKind.u8 (256 : Nat)
                   (List.replicate (256 : Nat) (0 : Int)))) ∧
               some
                  (Blk.fix
                   (D.arr IntKind.u8 (255 : Nat)
                    (List.replicate (255 : Nat) (0 : Int)))) =
                 some
                  (Blk.fix
                   (D.arr IntKind.u8 (255 : Nat)
                    (pwL (Int.toNat (0 : Int)) ++
                     (List.replicate (255 : Nat) (0 : Int))))) ∧
                True) ∧
            true = true) ∧
          Int.toNat (0 : Int) ≤ (255 : Nat)) ∧
         ∀ (x : Nat),
          x ≤ (255 : Nat) →
           true = true ∧
            True ∧
             match decide ((↑x : Int) < (255 : Int)) with
             | true =>
              True ∧
               True ∧
                True ∧
                 True ∧
                  ((0 : Int) ≤ (↑x : Int) ∧ (↑x : Int) < (↑(255 : Nat) : Int) ∧ (255 : Nat) = (255 : Nat) ∧ (1 : Nat) = (1 : Nat)) ∧
                   (((↑x : Int).toNat < (255 : Nat) ∧ ([] : List Nat) = [] ∧ true = true) ∧ (1 : Nat) ≠ (0 : Nat) ∧ (1 : Nat) = (1 : Nat) ∧ false = false) ∧
                    True ∧
                     (∃ (a : Nat), ∃ (b : Nat), [D.val (Value.int IntKind.u8 (↑(gpw (3 : Nat) x) : Int)), D.val (Value.int IntKind.u8 (3 : Int))] = [D.val (Value.int IntKind.u8 (↑a : Int)), D.val (Value.int IntKind.u8 (↑b : Int))] ∧ a < (256 : Nat) ∧ b < (256 : Nat)) ∧
                      True ∧
                       True ∧
                        True ∧
                         ((AV.d (D.val (Value.int IntKind.i64 (IntKind.i64.wrap ((↑x : Int) + (1 : Int))))) = AV.d (D.val (Value.int IntKind.i64 (↑(IntKind.i64.wrap ((↑x : Int) + (1 : Int))).toNat : Int))) ∧
                            AV.d (D.val (Value.int IntKind.u8 (↑(gm (↑(gpw (3 : Nat) x) : Int).toNat (3 : Nat)) : Int))) = AV.d (D.val (Value.int IntKind.u8 (↑(gpw (3 : Nat) (IntKind.i64.wrap ((↑x : Int) + (1 : Int))).toNat) : Int))) ∧ True) ∧
                           (some
                               (Blk.fix
                                (D.arr IntKind.u8 (256 : Nat)
                                 (List.replicate (256 : Nat) (0 : Int)))) =
                              some
                               (Blk.fix
                                (D.arr IntKind.u8 (256 : Nat)
                                 (List.replicate (256 : Nat) (0 : Int)))) ∧
                             some
                                (Blk.fix
                                 (D.arr IntKind.u8 (256 : Nat)
                                  (List.replicate (256 : Nat) (0 : Int)))) =
                               some
                                (Blk.fix
                                 (D.arr IntKind.u8 (256 : Nat)
                                  (List.replicate (256 : Nat) (0 : Int)))) ∧
                              some
                                 (Blk.fix
                                  (D.arr IntKind.u8 (256 : Nat)
                                   (List.replicate (256 : Nat) (0 : Int)))) =
                                some
                                 (Blk.fix
                                  (D.arr IntKind.u8 (256 : Nat)
                                   (List.replicate (256 : Nat) (0 : Int)))) ∧
                               some (Blk.fix (D.arr IntKind.u8 (255 : Nat) ((pwL x ++ List.replicate ((255 : Nat) - x) (0 : Int)).set (↑x : Int).toNat (↑(gpw (3 : Nat) x) : Int)))) =
                                 some (Blk.fix (D.arr IntKind.u8 (255 : Nat) (pwL (IntKind.i64.wrap ((↑x : Int) + (1 : Int))).toNat ++ List.replicate ((255 : Nat) - (IntKind.i64.wrap ((↑x : Int) + (1 : Int))).toNat) (0 : Int)))) ∧
                                True) ∧
                            true = true) ∧
                          (IntKind.i64.wrap ((↑x : Int) + (1 : Int))).toNat ≤ (255 : Nat) ∧ (255 : Nat) - (IntKind.i64.wrap ((↑x : Int) + (1 : Int))).toNat < (255 : Nat) - x
             | false =>
              ((255 : Nat) ≠ (0 : Nat) ∧ (255 : Nat) = (255 : Nat) ∧ true = true) ∧
               True ∧
                (((AV.d (D.val (Value.int IntKind.i64 (0 : Int))) = AV.d (D.val (Value.int IntKind.i64 (↑(Int.toNat (0 : Int)) : Int))) ∧ True) ∧
                   (some
                       (Blk.fix
                        (D.arr IntKind.u8 (256 : Nat)
                         (List.replicate (256 : Nat) (0 : Int)))) =
                      some
                       (Blk.fix
                        (D.arr IntKind.u8 (256 : Nat)
                         (List.replicate (256 : Nat) (0 : Int)))) ∧
                     some
                        (Blk.fix
                         (D.arr IntKind.u8 (256 : Nat)
                          (List.replicate (256 : Nat) (0 : Int)))) =
                       some
                        (Blk.fix
                         (D.arr IntKind.u8 (256 : Nat)
                          (List.replicate (256 : Nat) (0 : Int)))) ∧
                      some
                         (Blk.fix
                          (D.arr IntKind.u8 (256 : Nat)
                           (List.replicate (256 : Nat) (0 : Int)))) =
                        some (Blk.fix (D.arr IntKind.u8 (256 : Nat) (gia (Int.toNat (0 : Int))))) ∧
                       some (Blk.fix (D.arr IntKind.u8 (255 : Nat) (pwL x ++ List.replicate ((255 : Nat) - x) (0 : Int)))) = some (Blk.fix (D.arr IntKind.u8 (255 : Nat) (pwL x ++ List.replicate ((255 : Nat) - x) (0 : Int)))) ∧ True) ∧
                    true = true) ∧
                  Int.toNat (0 : Int) ≤ (255 : Nat)) ∧
                 ∀ (x_1 : Nat),
                  x_1 ≤ (255 : Nat) →
                   true = true ∧
                    True ∧
                     match decide ((↑x_1 : Int) < (255 : Int)) with
                     | true =>
                      True ∧
                       ((0 : Int) ≤ (↑x_1 : Int) ∧ (↑x_1 : Int) < (↑(255 : Nat) : Int) ∧ (255 : Nat) = (255 : Nat) ∧ Ty.int IntKind.u8 = Ty.int IntKind.u8 ∧ (1 : Nat) = (1 : Nat)) ∧
                        True ∧
                         True ∧
                          True ∧
                           True ∧
                            True ∧
                             (255 : Int) ≠ (0 : Int) ∧
                              ((0 : Int) ≤ (IntKind.i64.wrap ((255 : Int) - (↑x_1 : Int))).tmod (255 : Int) ∧ (IntKind.i64.wrap ((255 : Int) - (↑x_1 : Int))).tmod (255 : Int) < (↑(255 : Nat) : Int) ∧ (255 : Nat) = (255 : Nat) ∧ (1 : Nat) = (1 : Nat)) ∧
                               ((1 : Nat) ≠ (0 : Nat) ∧ (1 : Nat) = (1 : Nat) ∧ false = false) ∧
                                ((0 : Int) ≤ (pwL x ++ List.replicate ((255 : Nat) - x) (0 : Int)).getD (↑x_1 : Int).toNat (0 : Int) ∧ (pwL x ++ List.replicate ((255 : Nat) - x) (0 : Int)).getD (↑x_1 : Int).toNat (0 : Int) < (↑(256 : Nat) : Int) ∧ (256 : Nat) = (256 : Nat) ∧ (1 : Nat) = (1 : Nat)) ∧
                                 ((((pwL x ++ List.replicate ((255 : Nat) - x) (0 : Int)).getD (↑x_1 : Int).toNat (0 : Int)).toNat < (256 : Nat) ∧ ([] : List Nat) = [] ∧ true = true) ∧ (1 : Nat) ≠ (0 : Nat) ∧ (1 : Nat) = (1 : Nat) ∧ false = false) ∧
                                  True ∧
                                   True ∧
                                    ((AV.d (D.val (Value.int IntKind.i64 (IntKind.i64.wrap ((↑x_1 : Int) + (1 : Int))))) = AV.d (D.val (Value.int IntKind.i64 (↑(IntKind.i64.wrap ((↑x_1 : Int) + (1 : Int))).toNat : Int))) ∧ True) ∧
                                      (some
                                          (Blk.fix
                                           (D.arr IntKind.u8 (256 : Nat)
                                            (List.replicate (256 : Nat) (0 : Int)))) =
                                         some
                                          (Blk.fix
                                           (D.arr IntKind.u8 (256 : Nat)
                                            (List.replicate (256 : Nat) (0 : Int)))) ∧
                                        some
                                           (Blk.fix
                                            (D.arr IntKind.u8 (256 : Nat)
                                             (List.replicate (256 : Nat) (0 : Int)))) =
                                          some
                                           (Blk.fix
                                            (D.arr IntKind.u8 (256 : Nat)
                                             (List.replicate (256 : Nat) (0 : Int)))) ∧
                                         some (Blk.fix (D.arr IntKind.u8 (256 : Nat) ((gia x_1).set ((pwL x ++ List.replicate ((255 : Nat) - x) (0 : Int)).getD (↑x_1 : Int).toNat (0 : Int)).toNat ((pwL x ++ List.replicate ((255 : Nat) - x) (0 : Int)).getD ((IntKind.i64.wrap ((255 : Int) - (↑x_1 : Int))).tmod (255 : Int)).toNat (0 : Int))))) =
                                           some (Blk.fix (D.arr IntKind.u8 (256 : Nat) (gia (IntKind.i64.wrap ((↑x_1 : Int) + (1 : Int))).toNat))) ∧
                                          some (Blk.fix (D.arr IntKind.u8 (255 : Nat) (pwL x ++ List.replicate ((255 : Nat) - x) (0 : Int)))) = some (Blk.fix (D.arr IntKind.u8 (255 : Nat) (pwL x ++ List.replicate ((255 : Nat) - x) (0 : Int)))) ∧ True) ∧
                                       true = true) ∧
                                     (IntKind.i64.wrap ((↑x_1 : Int) + (1 : Int))).toNat ≤ (255 : Nat) ∧ (255 : Nat) - (IntKind.i64.wrap ((↑x_1 : Int) + (1 : Int))).toNat < (255 : Nat) - x_1
                     | false =>
                      True ∧
                       (((AV.d (D.val (Value.int IntKind.i64 (0 : Int))) = AV.d (D.val (Value.int IntKind.i64 (↑(Int.toNat (0 : Int)) : Int))) ∧ True) ∧
                          (some
                              (Blk.fix
                               (D.arr IntKind.u8 (256 : Nat)
                                (List.replicate (256 : Nat) (0 : Int)))) =
                             some
                              (Blk.fix
                               (D.arr IntKind.u8 (256 : Nat)
                                (List.replicate (256 : Nat) (0 : Int)))) ∧
                            some
                               (Blk.fix
                                (D.arr IntKind.u8 (256 : Nat)
                                 (List.replicate (256 : Nat) (0 : Int)))) =
                              some
                               (Blk.fix
                                (D.arr IntKind.u8 (256 : Nat)
                                 (List.take (Int.toNat (0 : Int)) boxL ++
                                  (List.replicate (256 : Nat) (0 : Int))))) ∧
                             some (Blk.fix (D.arr IntKind.u8 (256 : Nat) (gia x_1))) = some (Blk.fix (D.arr IntKind.u8 (256 : Nat) (gia x_1))) ∧ some (Blk.fix (D.arr IntKind.u8 (255 : Nat) (pwL x ++ List.replicate ((255 : Nat) - x) (0 : Int)))) = some (Blk.fix (D.arr IntKind.u8 (255 : Nat) (pwL x ++ List.replicate ((255 : Nat) - x) (0 : Int)))) ∧ True) ∧
                           true = true) ∧
                         Int.toNat (0 : Int) ≤ (256 : Nat)) ∧
                        ∀ (x_2 : Nat),
                         x_2 ≤ (256 : Nat) →
                          true = true ∧
                           True ∧
                            match decide ((↑x_2 : Int) < (256 : Int)) with
                            | true =>
                             True ∧
                              True ∧
                               True ∧
                                ((0 : Int) ≤ (↑x_2 : Int) ∧ (↑x_2 : Int) < (↑(256 : Nat) : Int) ∧ (256 : Nat) = (256 : Nat) ∧ (1 : Nat) = (1 : Nat)) ∧
                                 ((1 : Nat) ≠ (0 : Nat) ∧ (1 : Nat) = (1 : Nat) ∧ false = false) ∧
                                  True ∧
                                   True ∧
                                    True ∧
                                     True ∧
                                      (((AV.d (D.val (Value.int IntKind.i64 (0 : Int))) = AV.d (D.val (Value.int IntKind.i64 (↑(0 : Nat) : Int))) ∧ AV.d (D.val (Value.int IntKind.i64 (0 : Int))) = AV.d (D.val (Value.int IntKind.i64 (↑(gax (IntKind.i64.wrap ((gia x_1).getD (↑x_2 : Int).toNat (0 : Int))).toNat (0 : Nat)) : Int))) ∧ True) ∧
                                         (some
                                             (Blk.fix
                                              (D.arr IntKind.u8 (256 : Nat)
                                               (List.replicate (256 : Nat) (0 : Int)))) =
                                            some
                                             (Blk.fix
                                              (D.arr IntKind.u8 (256 : Nat)
                                               (List.replicate (256 : Nat) (0 : Int)))) ∧
                                           some (Blk.fix (D.arr IntKind.u8 (256 : Nat) (List.take x_2 boxL ++ List.replicate ((256 : Nat) - x_2) (0 : Int)))) = some (Blk.fix (D.arr IntKind.u8 (256 : Nat) (List.take x_2 boxL ++ List.replicate ((256 : Nat) - x_2) (0 : Int)))) ∧
                                            some (Blk.fix (D.arr IntKind.u8 (256 : Nat) (gia x_1))) = some (Blk.fix (D.arr IntKind.u8 (256 : Nat) (gia x_1))) ∧
                                             some (Blk.fix (D.arr IntKind.u8 (255 : Nat) (pwL x ++ List.replicate ((255 : Nat) - x) (0 : Int)))) = some (Blk.fix (D.arr IntKind.u8 (255 : Nat) (pwL x ++ List.replicate ((255 : Nat) - x) (0 : Int)))) ∧ True) ∧
                                          true = true) ∧
                                        (↑(IntKind.i64.wrap ((gia x_1).getD (↑x_2 : Int).toNat (0 : Int))).toNat : Int) = IntKind.i64.wrap ((gia x_1).getD (↑x_2 : Int).toNat (0 : Int)) ∧ (0 : Nat) ≤ (8 : Nat)) ∧
                                       ∀ (x_3 : Nat × Nat),
                                        (↑x_3.fst : Int) = IntKind.i64.wrap ((gia x_1).getD (↑x_2 : Int).toNat (0 : Int)) ∧ x_3.snd ≤ (8 : Nat) →
                                         true = true ∧
                                          True ∧
                                           match decide ((↑x_3.snd : Int) < (8 : Int)) with
                                           | true =>
                                            True ∧
                                             True ∧
                                              True ∧
                                               (0 : Int) ≤ (↑x_3.snd : Int) ∧
                                                True ∧
                                                 True ∧
                                                  ((1 : Nat) = (1 : Nat) ∧ (5 : Nat) ≤ (4096 : Nat)) ∧
                                                   True ∧
                                                    True ∧
                                                     (((AV.d (D.val (Value.int IntKind.i64 (0 : Int))) = AV.d (D.val (Value.int IntKind.i64 (↑(0 : Nat) : Int))) ∧
                                                         AV.d (D.val (Value.int IntKind.i64 (iand IntKind.i64 (ishr IntKind.i64 (99 : Int) (↑x_3.snd : Int)) (1 : Int)))) = AV.d (D.val (Value.int IntKind.i64 (↑(gan (IntKind.i64.wrap ((gia x_1).getD (↑x_2 : Int).toNat (0 : Int))).toNat (↑x_3.snd : Int).toNat (0 : Nat)) : Int))) ∧ True) ∧
                                                        (some
                                                            (Blk.fix
                                                             (D.arr IntKind.u8 (256 : Nat)
                                                              (List.replicate (256 : Nat) (0 : Int)))) =
                                                           some
                                                            (Blk.fix
                                                             (D.arr IntKind.u8 (256 : Nat)
                                                              (List.replicate (256 : Nat) (0 : Int)))) ∧
                                                          some (Blk.fix (D.arr IntKind.u8 (256 : Nat) (List.take x_2 boxL ++ List.replicate ((256 : Nat) - x_2) (0 : Int)))) = some (Blk.fix (D.arr IntKind.u8 (256 : Nat) (List.take x_2 boxL ++ List.replicate ((256 : Nat) - x_2) (0 : Int)))) ∧
                                                           some (Blk.fix (D.arr IntKind.u8 (256 : Nat) (gia x_1))) = some (Blk.fix (D.arr IntKind.u8 (256 : Nat) (gia x_1))) ∧
                                                            some (Blk.fix (D.arr IntKind.u8 (255 : Nat) (pwL x ++ List.replicate ((255 : Nat) - x) (0 : Int)))) = some (Blk.fix (D.arr IntKind.u8 (255 : Nat) (pwL x ++ List.replicate ((255 : Nat) - x) (0 : Int)))) ∧ True) ∧
                                                         true = true) ∧
                                                       (↑(IntKind.i64.wrap ((gia x_1).getD (↑x_2 : Int).toNat (0 : Int))).toNat : Int) = IntKind.i64.wrap ((gia x_1).getD (↑x_2 : Int).toNat (0 : Int)) ∧ (↑(↑x_3.snd : Int).toNat : Int) = (↑x_3.snd : Int) ∧ (0 : Nat) ≤ (5 : Nat)) ∧
                                                      ∀ (x_4 : Nat × Nat × Nat),
                                                       (↑x_4.fst : Int) = IntKind.i64.wrap ((gia x_1).getD (↑x_2 : Int).toNat (0 : Int)) ∧ (↑x_4.snd.fst : Int) = (↑x_3.snd : Int) ∧ x_4.snd.snd ≤ (5 : Nat) →
                                                        true = true ∧
                                                         True ∧
                                                          match decide ((↑x_4.snd.snd : Int) < (↑(5 : Nat) : Int)) with
                                                          | true =>
                                                           ((0 : Int) ≤ (↑x_4.snd.snd : Int) ∧ (↑x_4.snd.snd : Int) < (↑(5 : Nat) : Int) ∧ (1 : Nat) = (1 : Nat)) ∧
                                                            ((1 : Nat) ≠ (0 : Nat) ∧ (1 : Nat) = (1 : Nat) ∧ false = false) ∧
                                                             True ∧
                                                              True ∧
                                                               True ∧
                                                                True ∧
                                                                 True ∧
                                                                  True ∧
                                                                   (8 : Int) ≠ (0 : Int) ∧
                                                                    (0 : Int) ≤ (IntKind.i64.wrap ((↑x_3.snd : Int) + [(0 : Int), (4 : Int), (5 : Int), (6 : Int), (7 : Int)].getD (↑x_4.snd.snd : Int).toNat (0 : Int))).tmod (8 : Int) ∧
                                                                     True ∧
                                                                      True ∧
                                                                       True ∧
                                                                        True ∧
                                                                         True ∧
                                                                          ((AV.d (D.val (Value.int IntKind.i64 (IntKind.i64.wrap ((↑x_4.snd.snd : Int) + (1 : Int))))) = AV.d (D.val (Value.int IntKind.i64 (↑(IntKind.i64.wrap ((↑x_4.snd.snd : Int) + (1 : Int))).toNat : Int))) ∧
                                                                             AV.d
                                                                                (D.val
                                                                                 (Value.int IntKind.i64
                                                                                  (IntKind.i64.wrap
                                                                                   ((↑(gan x_4.fst x_4.snd.fst x_4.snd.snd) : Int) +
                                                                                    iand IntKind.i64
                                                                                     (ishr IntKind.i64 (IntKind.i64.wrap ((gia x_1).getD (↑x_2 : Int).toNat (0 : Int)))
                                                                                      ((IntKind.i64.wrap ((↑x_3.snd : Int) + [(0 : Int), (4 : Int), (5 : Int), (6 : Int), (7 : Int)].getD (↑x_4.snd.snd : Int).toNat (0 : Int))).tmod (8 : Int)))
                                                                                     (1 : Int))))) =
                                                                               AV.d (D.val (Value.int IntKind.i64 (↑(gan (IntKind.i64.wrap ((gia x_1).getD (↑x_2 : Int).toNat (0 : Int))).toNat (↑x_3.snd : Int).toNat (IntKind.i64.wrap ((↑x_4.snd.snd : Int) + (1 : Int))).toNat) : Int))) ∧
                                                                              True) ∧
                                                                            (some
                                                                                (Blk.fix
                                                                                 (D.arr IntKind.u8 (256 : Nat)
                                                                                  (List.replicate (256 : Nat) (0 : Int)))) =
                                                                               some
                                                                                (Blk.fix
                                                                                 (D.arr IntKind.u8 (256 : Nat)
                                                                                  (List.replicate (256 : Nat) (0 : Int)))) ∧
                                                                              some (Blk.fix (D.arr IntKind.u8 (256 : Nat) (List.take x_2 boxL ++ List.replicate ((256 : Nat) - x_2) (0 : Int)))) = some (Blk.fix (D.arr IntKind.u8 (256 : Nat) (List.take x_2 boxL ++ List.replicate ((256 : Nat) - x_2) (0 : Int)))) ∧
                                                                               some (Blk.fix (D.arr IntKind.u8 (256 : Nat) (gia x_1))) = some (Blk.fix (D.arr IntKind.u8 (256 : Nat) (gia x_1))) ∧
                                                                                some (Blk.fix (D.arr IntKind.u8 (255 : Nat) (pwL x ++ List.replicate ((255 : Nat) - x) (0 : Int)))) = some (Blk.fix (D.arr IntKind.u8 (255 : Nat) (pwL x ++ List.replicate ((255 : Nat) - x) (0 : Int)))) ∧ True) ∧
                                                                             true = true) ∧
                                                                           ((↑(IntKind.i64.wrap ((gia x_1).getD (↑x_2 : Int).toNat (0 : Int))).toNat : Int) = IntKind.i64.wrap ((gia x_1).getD (↑x_2 : Int).toNat (0 : Int)) ∧
                                                                             (↑(↑x_3.snd : Int).toNat : Int) = (↑x_3.snd : Int) ∧ (IntKind.i64.wrap ((↑x_4.snd.snd : Int) + (1 : Int))).toNat ≤ (5 : Nat)) ∧
                                                                            (5 : Nat) - (IntKind.i64.wrap ((↑x_4.snd.snd : Int) + (1 : Int))).toNat < (5 : Nat) - x_4.snd.snd
                                                          | false =>
                                                           True ∧
                                                            True ∧
                                                             (2 : Int) ≠ (0 : Int) ∧
                                                              True ∧
                                                               (0 : Int) ≤ (↑x_3.snd : Int) ∧
                                                                True ∧
                                                                 True ∧
                                                                  True ∧
                                                                   True ∧
                                                                    ((AV.d (D.val (Value.int IntKind.i64 (IntKind.i64.wrap ((↑x_3.snd : Int) + (1 : Int))))) = AV.d (D.val (Value.int IntKind.i64 (↑(IntKind.i64.wrap ((↑x_3.snd : Int) + (1 : Int))).toNat : Int))) ∧
                                                                       AV.d (D.val (Value.int IntKind.i64 (IntKind.i64.wrap ((↑(gax x_3.fst x_3.snd) : Int) + ishl IntKind.i64 ((↑(gan x_4.fst x_4.snd.fst x_4.snd.snd) : Int).tmod (2 : Int)) (↑x_3.snd : Int))))) =
                                                                         AV.d (D.val (Value.int IntKind.i64 (↑(gax (IntKind.i64.wrap ((gia x_1).getD (↑x_2 : Int).toNat (0 : Int))).toNat (IntKind.i64.wrap ((↑x_3.snd : Int) + (1 : Int))).toNat) : Int))) ∧
                                                                        True) ∧
                                                                      (some
                                                                          (Blk.fix
                                                                           (D.arr IntKind.u8 (256 : Nat)
                                                                            (List.replicate (256 : Nat) (0 : Int)))) =
                                                                         some
                                                                          (Blk.fix
                                                                           (D.arr IntKind.u8 (256 : Nat)
                                                                            (List.replicate (256 : Nat) (0 : Int)))) ∧
                                                                        some (Blk.fix (D.arr IntKind.u8 (256 : Nat) (List.take x_2 boxL ++ List.replicate ((256 : Nat) - x_2) (0 : Int)))) = some (Blk.fix (D.arr IntKind.u8 (256 : Nat) (List.take x_2 boxL ++ List.replicate ((256 : Nat) - x_2) (0 : Int)))) ∧
                                                                         some (Blk.fix (D.arr IntKind.u8 (256 : Nat) (gia x_1))) = some (Blk.fix (D.arr IntKind.u8 (256 : Nat) (gia x_1))) ∧
                                                                          some (Blk.fix (D.arr IntKind.u8 (255 : Nat) (pwL x ++ List.replicate ((255 : Nat) - x) (0 : Int)))) = some (Blk.fix (D.arr IntKind.u8 (255 : Nat) (pwL x ++ List.replicate ((255 : Nat) - x) (0 : Int)))) ∧ True) ∧
                                                                       true = true) ∧
                                                                     ((↑(IntKind.i64.wrap ((gia x_1).getD (↑x_2 : Int).toNat (0 : Int))).toNat : Int) = IntKind.i64.wrap ((gia x_1).getD (↑x_2 : Int).toNat (0 : Int)) ∧ (IntKind.i64.wrap ((↑x_3.snd : Int) + (1 : Int))).toNat ≤ (8 : Nat)) ∧
                                                                      (8 : Nat) - (IntKind.i64.wrap ((↑x_3.snd : Int) + (1 : Int))).toNat < (8 : Nat) - x_3.snd
                                           | false =>
                                            True ∧
                                             True ∧
                                              True ∧
                                               ((0 : Int) ≤ (↑x_2 : Int) ∧ (↑x_2 : Int) < (↑(256 : Nat) : Int) ∧ (256 : Nat) = (256 : Nat) ∧ (1 : Nat) = (1 : Nat)) ∧
                                                (((↑x_2 : Int).toNat < (256 : Nat) ∧ ([] : List Nat) = [] ∧ true = true) ∧ (1 : Nat) ≠ (0 : Nat) ∧ (1 : Nat) = (1 : Nat) ∧ false = false) ∧
                                                 True ∧
                                                  True ∧
                                                   ((AV.d (D.val (Value.int IntKind.i64 (IntKind.i64.wrap ((↑x_2 : Int) + (1 : Int))))) = AV.d (D.val (Value.int IntKind.i64 (↑(IntKind.i64.wrap ((↑x_2 : Int) + (1 : Int))).toNat : Int))) ∧ True) ∧
                                                     (some
                                                         (Blk.fix
                                                          (D.arr IntKind.u8 (256 : Nat)
                                                           (List.replicate (256 : Nat) (0 : Int)))) =
                                                        some
                                                         (Blk.fix
                                                          (D.arr IntKind.u8 (256 : Nat)
                                                           (List.replicate (256 : Nat) (0 : Int)))) ∧
                                                       some (Blk.fix (D.arr IntKind.u8 (256 : Nat) ((List.take x_2 boxL ++ List.replicate ((256 : Nat) - x_2) (0 : Int)).set (↑x_2 : Int).toNat (IntKind.u8.wrap (↑(gax x_3.fst x_3.snd) : Int))))) =
                                                         some (Blk.fix (D.arr IntKind.u8 (256 : Nat) (List.take (IntKind.i64.wrap ((↑x_2 : Int) + (1 : Int))).toNat boxL ++ List.replicate ((256 : Nat) - (IntKind.i64.wrap ((↑x_2 : Int) + (1 : Int))).toNat) (0 : Int)))) ∧
                                                        some (Blk.fix (D.arr IntKind.u8 (256 : Nat) (gia x_1))) = some (Blk.fix (D.arr IntKind.u8 (256 : Nat) (gia x_1))) ∧
                                                         some (Blk.fix (D.arr IntKind.u8 (255 : Nat) (pwL x ++ List.replicate ((255 : Nat) - x) (0 : Int)))) = some (Blk.fix (D.arr IntKind.u8 (255 : Nat) (pwL x ++ List.replicate ((255 : Nat) - x) (0 : Int)))) ∧ True) ∧
                                                      true = true) ∧
                                                    (IntKind.i64.wrap ((↑x_2 : Int) + (1 : Int))).toNat ≤ (256 : Nat) ∧ (256 : Nat) - (IntKind.i64.wrap ((↑x_2 : Int) + (1 : Int))).toNat < (256 : Nat) - x_2
                            | false =>
                             ((256 : Nat) ≠ (0 : Nat) ∧ (256 : Nat) = (256 : Nat) ∧ true = true) ∧
                              (Sk.arr (256 : Nat) = Sk.arr (256 : Nat) ∧ (256 : Nat) ≠ (0 : Nat) ∧ (256 : Nat) = (256 : Nat) ∧ false = false) ∧ (((256 : Nat) ≠ (0 : Nat) ∧ (256 : Nat) = (256 : Nat) ∧ true = true) ∧ True) ∧ D.arr IntKind.u8 (256 : Nat) (List.take x_2 boxL ++ List.replicate ((256 : Nat) - x_2) (0 : Int)) = F) := by kernel_rfl
set_option maxRecDepth 100000 in
theorem vc7  (a b n : Nat) (l : List Int) (F : D)  :
    (owed c7 (fun _ => none) Try.f7 [u8 a, u8 b, u64n n, b4 l] F) = (
 (True ∧ false = false) ∧
   True ∧
    (0 : Nat) = (0 : Nat) ∧
     (True ∧ (256 : Nat) ≠ (0 : Nat)) ∧
      (Sk.arr (256 : Nat) = Sk.arr (256 : Nat) ∧ (256 : Nat) ≠ (0 : Nat) ∧ (256 : Nat) = (256 : Nat) ∧ false = false) ∧
       True ∧
        True ∧
         (∃ (a_1 : Nat), ∃ (b_1 : Nat), [D.val (Value.int IntKind.u8 (↑a : Int)), D.val (Value.int IntKind.u8 (↑b : Int))] = [D.val (Value.int IntKind.u8 (↑a_1 : Int)), D.val (Value.int IntKind.u8 (↑b_1 : Int))] ∧ a_1 < (256 : Nat) ∧ b_1 < (256 : Nat)) ∧
          True ∧
           True ∧
            (∃ (a_1 : Nat), ∃ (b_1 : Nat), [D.val (Value.int IntKind.u8 (↑a : Int)), D.val (Value.int IntKind.u8 (↑b : Int))] = [D.val (Value.int IntKind.u8 (↑a_1 : Int)), D.val (Value.int IntKind.u8 (↑b_1 : Int))] ∧ a_1 < (256 : Nat) ∧ b_1 < (256 : Nat)) ∧
             True ∧
              True ∧
               match (↑(gm (↑a : Int).toNat (↑b : Int).toNat) : Int) == (↑(gm (↑a : Int).toNat (↑b : Int).toNat) : Int) with
               | true =>
                True ∧
                 True ∧
                  (∃ (a_1 : Nat), ∃ (n_1 : Nat), [D.val (Value.int IntKind.u8 (↑a : Int)), D.val (Value.int IntKind.u64 (↑n : Int))] = [D.val (Value.int IntKind.u8 (↑a_1 : Int)), D.val (Value.int IntKind.u64 (↑n_1 : Int))] ∧ a_1 < (256 : Nat) ∧ n_1 < (18446744073709551616 : Nat)) ∧
                   True ∧
                    True ∧
                     (∃ (a_1 : Nat), ∃ (n_1 : Nat), [D.val (Value.int IntKind.u8 (↑a : Int)), D.val (Value.int IntKind.u64 (↑n : Int))] = [D.val (Value.int IntKind.u8 (↑a_1 : Int)), D.val (Value.int IntKind.u64 (↑n_1 : Int))] ∧ a_1 < (256 : Nat) ∧ n_1 < (18446744073709551616 : Nat)) ∧
                      True ∧
                       True ∧
                        True ∧
                         match (↑(gpw (↑a : Int).toNat (↑n : Int).toNat) : Int) == (↑(gpw (↑a : Int).toNat (↑n : Int).toNat) : Int) with
                         | true =>
                          True ∧
                           (∃ (a_1 : Nat), [D.val (Value.int IntKind.u8 (↑a : Int))] = [D.val (Value.int IntKind.u8 (↑a_1 : Int))] ∧ a_1 < (256 : Nat)) ∧
                            True ∧
                             (∃ (a_1 : Nat), [D.val (Value.int IntKind.u8 (↑a : Int))] = [D.val (Value.int IntKind.u8 (↑a_1 : Int))] ∧ a_1 < (256 : Nat)) ∧
                              True ∧
                               True ∧
                                True ∧
                                 match (↑(giv (↑a : Int).toNat) : Int) == (↑(giv (↑a : Int).toNat) : Int) with
                                 | true =>
                                  True ∧
                                   (∃ (a_1 : Nat), [D.val (Value.int IntKind.u8 (↑a : Int))] = [D.val (Value.int IntKind.u8 (↑a_1 : Int))] ∧ a_1 < (256 : Nat)) ∧
                                    True ∧
                                     ((0 : Int) ≤ (↑a : Int) ∧ (↑a : Int) < (↑(256 : Nat) : Int) ∧ (256 : Nat) = (256 : Nat) ∧ (1 : Nat) = (1 : Nat)) ∧
                                      ((1 : Nat) ≠ (0 : Nat) ∧ (1 : Nat) = (1 : Nat) ∧ false = false) ∧
                                       True ∧
                                        True ∧
                                         True ∧
                                          match (↑(gbx (↑a : Int).toNat) : Int) == boxP.getD (↑a : Int).toNat (0 : Int) with
                                          | true =>
                                           True ∧
                                            (∃ (a_1 : Nat), [D.val (Value.int IntKind.u8 (↑a : Int))] = [D.val (Value.int IntKind.u8 (↑a_1 : Int))] ∧ a_1 < (256 : Nat)) ∧
                                             ((256 : Nat) ≠ (0 : Nat) ∧ (256 : Nat) = (256 : Nat) ∧ true = true) ∧
                                              (∃ (l : List Int), [D.arr IntKind.u8 (256 : Nat) boxP] = [D.arr IntKind.u8 (256 : Nat) l] ∧ okb l ∧ l.length = (256 : Nat)) ∧
                                               True ∧
                                                ((0 : Int) ≤ (↑a : Int) ∧ (↑a : Int) < (↑(256 : Nat) : Int) ∧ (256 : Nat) = (256 : Nat) ∧ Ty.int IntKind.u8 = Ty.int IntKind.u8 ∧ (1 : Nat) = (1 : Nat)) ∧
                                                 True ∧
                                                  True ∧
                                                   True ∧
                                                    match (↑(gux (↑a : Int).toNat) : Int) == (gub boxP (256 : Nat)).getD (↑a : Int).toNat (0 : Int) with
                                                    | true =>
                                                     ((4 : Nat) ≠ (0 : Nat) ∧ (4 : Nat) = (4 : Nat) ∧ true = true) ∧
                                                      (∃ (l_1 : List Int), [D.arr IntKind.u8 (4 : Nat) l] = [D.arr IntKind.u8 (4 : Nat) l_1] ∧ okb l_1 ∧ l_1.length = (4 : Nat)) ∧
                                                       ((4 : Nat) ≠ (0 : Nat) ∧ (4 : Nat) = (4 : Nat) ∧ true = true) ∧
                                                        ((1 : Nat) = (1 : Nat) ∧
                                                          false = false ∧ ((0 : Nat) < (4 : Nat) ∧ ([] : List Nat) = [] ∧ true = true) ∧ false = false ∧ ((1 : Nat) < (4 : Nat) ∧ ([] : List Nat) = [] ∧ true = true) ∧ false = false ∧ ((2 : Nat) < (4 : Nat) ∧ ([] : List Nat) = [] ∧ true = true) ∧ false = false ∧ ((3 : Nat) < (4 : Nat) ∧ ([] : List Nat) = [] ∧ true = true) ∧ True) ∧
                                                         (∃ (l_1 : List Int), ∃ (m : List Int), [D.arr IntKind.u8 (4 : Nat) l, D.arr IntKind.u8 (4 : Nat) [(2 : Int), (3 : Int), (1 : Int), (1 : Int)]] = [D.arr IntKind.u8 (4 : Nat) l_1, D.arr IntKind.u8 (4 : Nat) m] ∧ (okb l_1 ∧ l_1.length = (4 : Nat)) ∧ okb m ∧ m.length = (4 : Nat)) ∧
                                                          (IntKind.u8 = IntKind.u8 ∧ IntKind.u8 = IntKind.u8 ∧ (4 : Nat) = (4 : Nat) ∧ (4 : Nat) = (4 : Nat) ∧ (1 : Nat) = (1 : Nat)) ∧
                                                           True ∧
                                                            True ∧
                                                             match eqB (gcl l [(2 : Int), (3 : Int), (1 : Int), (1 : Int)] (4 : Nat)) (gcl l [(2 : Int), (3 : Int), (1 : Int), (1 : Int)] (4 : Nat)) with
                                                             | true =>
                                                              ((4 : Nat) ≠ (0 : Nat) ∧ (4 : Nat) = (4 : Nat) ∧ true = true) ∧
                                                               (∃ (l_1 : List Int), [D.arr IntKind.u8 (4 : Nat) l] = [D.arr IntKind.u8 (4 : Nat) l_1] ∧ okb l_1 ∧ l_1.length = (4 : Nat)) ∧
                                                                ((4 : Nat) ≠ (0 : Nat) ∧ (4 : Nat) = (4 : Nat) ∧ true = true) ∧
                                                                 ((1 : Nat) = (1 : Nat) ∧
                                                                   false = false ∧
                                                                    ((0 : Nat) < (4 : Nat) ∧ ([] : List Nat) = [] ∧ true = true) ∧ false = false ∧ ((1 : Nat) < (4 : Nat) ∧ ([] : List Nat) = [] ∧ true = true) ∧ false = false ∧ ((2 : Nat) < (4 : Nat) ∧ ([] : List Nat) = [] ∧ true = true) ∧ false = false ∧ ((3 : Nat) < (4 : Nat) ∧ ([] : List Nat) = [] ∧ true = true) ∧ True) ∧
                                                                  (∃ (l_1 : List Int),
                                                                    ∃ (m : List Int), [D.arr IntKind.u8 (4 : Nat) l, D.arr IntKind.u8 (4 : Nat) [(14 : Int), (11 : Int), (13 : Int), (9 : Int)]] = [D.arr IntKind.u8 (4 : Nat) l_1, D.arr IntKind.u8 (4 : Nat) m] ∧ (okb l_1 ∧ l_1.length = (4 : Nat)) ∧ okb m ∧ m.length = (4 : Nat)) ∧
                                                                   (IntKind.u8 = IntKind.u8 ∧ IntKind.u8 = IntKind.u8 ∧ (4 : Nat) = (4 : Nat) ∧ (4 : Nat) = (4 : Nat) ∧ (1 : Nat) = (1 : Nat)) ∧
                                                                    True ∧ True ∧ (false = false ∧ True) ∧ D.val (Value.bool (eqB (gcl l [(14 : Int), (11 : Int), (13 : Int), (9 : Int)] (4 : Nat)) (gcl l [(14 : Int), (11 : Int), (13 : Int), (9 : Int)] (4 : Nat)))) = F
                                                             | false => True ∧ True ∧ (false = false ∧ True) ∧ D.val (Value.bool false) = F
                                                    | false => True ∧ True ∧ True ∧ True ∧ (false = false ∧ True) ∧ D.val (Value.bool false) = F
                                          | false => True ∧ True ∧ True ∧ True ∧ True ∧ True ∧ (false = false ∧ True) ∧ D.val (Value.bool false) = F
                                 | false => True ∧ True ∧ True ∧ True ∧ True ∧ True ∧ True ∧ True ∧ (false = false ∧ True) ∧ D.val (Value.bool false) = F
                         | false => True ∧ True ∧ True ∧ True ∧ True ∧ True ∧ True ∧ True ∧ True ∧ True ∧ (false = false ∧ True) ∧ D.val (Value.bool false) = F
               | false => True ∧ True ∧ True ∧ True ∧ True ∧ True ∧ True ∧ True ∧ True ∧ True ∧ True ∧ True ∧ (false = false ∧ True) ∧ D.val (Value.bool false) = F) := by kernel_rfl

end Go.Proofs.Ytcdjhhepgkcabaa
