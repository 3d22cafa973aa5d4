/- Vg, part D: the abstract step of one operation. Definitions alone. -/
import Derived.Test.YtcdjhhepgkcabaaDoorVgC
namespace Go.Vg
open Go Go.RowKit

inductive Ty where
  | int (k : IntKind) | bool | str
  | slice (e : TypeId) | arr (n : Nat) (e : TypeId) | ptr (e : TypeId)
  | st (fs : List (Nat × TypeId))
  | other
  deriving Inhabited

/-- What the step asks of a type: its kind, its cells, its bytes, its zero value. -/
structure TI where
  ty : Ty
  size : Nat
  bytes : Nat
  zero : D
instance : Inhabited TI := ⟨⟨.other, 0, 0, default⟩⟩
abbrev Tab := List TI
def tg (tab : Tab) (t : TypeId) : TI := tab.getD t default
def Ty.agg : Ty → Bool
  | .arr _ _ | .st _ => true
  | _ => false

/-- A function's meaning on data. 'flat': what it gives holds no slice. 'ps': its parameters' types. -/
structure Spec where
  pre : List D → Prop
  f : List D → D
  flat : Bool
  ps : List TypeId

structure Ctx where
  tab : Tab
  G : FuncId → Option Spec
  /-- slots whose slice literal, or whose call's result, is a row that grows -/
  rows : List Nat
  /-- calls (by their slot) that take the call's own blocks for good -/
  frz : List Nat

structure Res where
  c : Prop
  v : AV
  M : Mem

def fail (M : Mem) : Res := ⟨False, .any, M⟩
def ok (v : D) (M : Mem) : Res := ⟨True, .d v, M⟩
def okIf (c : Prop) (v : D) (M : Mem) : Res := ⟨c, .d v, M⟩

def ints (s : ByteArray) : List Int := s.data.toList.map fun b => (b.toNat : Int)

def cAV : Value → AV
  | .agg _ => .any
  | .tuple _ => .any
  | .string s => .d (.str (ints s))
  | v => .d (.val v)

def evA (T : List AV) : Operand → AV
  | .tmp t => T.getD t .any
  | .const v => cAV v
  | .global g => match lookG gls g with
    | some d => .dat d
    | none => .any
  | .func f => .d (.val (.func (.func f) #[] #[]))

/-- nil, by its type. -/
def castD (tab : Tab) (t : TypeId) : D → D
  | .val (.slice none 0 0) => match (tg tab t).ty with
    | .slice e => match (tg tab e).ty with
      | .int k => .ints k []
      | _ => .slc (tg tab e).size []
    | _ => .val (.slice none 0 0)
  | d => d

/-- Abstract values read as data (slices over the call's own blocks, too). -/
def toD (M : Mem) : AV → Option D
  | .d x => some x
  | .row b => match look M b with
    | some (.row _ x) => some x
    | _ => none
  | .own b p off len _ => match look M b with
    | some (.fix x) => match getP x p with
      | .arr k _ l => some (.ints k ((l.drop off).take len))
      | _ => none
    | _ => none
  | .dat x => some (.ref x)
  | .ptr b p => match look M b with
    | some (.fix x) => some (.ref (getP x p))
    | _ => none
  | _ => none

/-- A reference handed on reads as a pointer to data; and back. -/
def unref : AV → AV
  | .d (.ref x) => .dat x
  | a => a
def reref : AV → AV
  | .dat x => .d (.ref x)
  | a => a

/-- What a function value takes along: single cells. -/
def capD : List AV → Option (List D)
  | [] => some []
  | a :: as => match reref a with
    | .d x => bif Nat.beq (sk x).size 1 && !x.isAgg && !x.isTup then
        (match capD as with
          | some xs => some (x :: xs)
          | none => none)
      else none
    | _ => none

def boolOf : D → Bool
  | .val (.bool b) => b
  | _ => false
def strOf : D → List Int
  | .str l => l
  | _ => []
def intsOf : D → List Int
  | .ints _ l => l
  | _ => []
def arrOf : D → List Int
  | .arr _ _ l => l
  | _ => []
def xsOf : D → List D
  | .slc _ xs => xs
  | _ => []
def fldOf : D → Nat → D
  | .st fs, i => fs.getD i default
  | _, _ => default

/-- Data put in the form of its type. -/
def shp (tab : Tab) : Nat → TypeId → D → D
  | 0, _, d => d
  | n + 1, t, d => match (tg tab t).ty with
    | .int k => .val (.int k (numOf d))
    | .bool => .val (.bool (boolOf d))
    | .str => .str (strOf d)
    | .slice e => match (tg tab e).ty with
      | .int k => .ints k (intsOf d)
      | _ => .slc (tg tab e).size (xsOf d)
    | .arr m e => match (tg tab e).ty with
      | .int k => .arr k m (arrOf d)
      | _ => d
    | .st fs => .st (fs.zipIdx.map fun p => shp tab n p.1.2 (fldOf d p.2))
    | _ => d

def iand (k : IntKind) (x y : Int) : Int := k.wrap (BitVec.ofInt k.bits x &&& BitVec.ofInt k.bits y).toNat
def ior (k : IntKind) (x y : Int) : Int := k.wrap (BitVec.ofInt k.bits x ||| BitVec.ofInt k.bits y).toNat
def ixor (k : IntKind) (x y : Int) : Int := k.wrap (BitVec.ofInt k.bits x ^^^ BitVec.ofInt k.bits y).toNat
def iandn (k : IntKind) (x y : Int) : Int := k.wrap (BitVec.ofInt k.bits x &&& ~~~BitVec.ofInt k.bits y).toNat
def ishl (k : IntKind) (x y : Int) : Int := k.wrap (x * 2 ^ (min y.toNat k.bits))
def ishr (k : IntKind) (x y : Int) : Int := x.fdiv (2 ^ (min y.toNat k.bits))

/-- Are they alike? (Nothing reckons it: a check by reckoning is to stop here.) -/
noncomputable def eqB (l m : List Int) : Bool := @decide (l = m) (Classical.propDecidable _)
theorem eqB_eq (l m : List Int) : eqB l m = decide (l = m) := by
  unfold eqB
  congr
theorem eqB_iff {l m : List Int} : eqB l m = true ↔ l = m := by rw [eqB_eq]; exact decide_eq_true_iff
theorem eqB_not {l m : List Int} : eqB l m = false ↔ l ≠ m := by rw [eqB_eq]; exact decide_eq_false_iff_not

def binI (op : BinOp) (k : IntKind) (x y : Int) (M : Mem) : Res :=
  match op with
  | .add => ok (.val (.int k (k.wrap (x + y)))) M
  | .sub => ok (.val (.int k (k.wrap (x - y)))) M
  | .mul => ok (.val (.int k (k.wrap (x * y)))) M
  | .quo => okIf (y ≠ 0) (.val (.int k (k.wrap (x.tdiv y)))) M
  | .rem => okIf (y ≠ 0) (.val (.int k (x.tmod y))) M
  | .and => ok (.val (.int k (iand k x y))) M
  | .or => ok (.val (.int k (ior k x y))) M
  | .xor => ok (.val (.int k (ixor k x y))) M
  | .andNot => ok (.val (.int k (iandn k x y))) M
  | .eql => ok (.val (.bool (x == y))) M
  | .neq => ok (.val (.bool (x != y))) M
  | .lss => ok (.val (.bool (decide (x < y)))) M
  | .leq => ok (.val (.bool (decide (x ≤ y)))) M
  | .gtr => ok (.val (.bool (decide (x > y)))) M
  | .geq => ok (.val (.bool (decide (x ≥ y)))) M
  | _ => fail M

noncomputable def binD (tab : Tab) (op : BinOp) (t : TypeId) (a b : D) (M : Mem) : Res :=
  match a, b with
  | .val (.int k x), .val (.int k' y) => match op with
    | .shl => okIf (0 ≤ y) (.val (.int k (ishl k x y))) M
    | .shr => okIf (0 ≤ y) (.val (.int k (ishr k x y))) M
    | _ => bif decide (k = k') then binI op k x y M else fail M
  | .str l, .str m => match op with
    | .add => okIf ((((l.length + m.length : Nat) : Int)) ≤ 9223372036854775807) (.str (l ++ m)) M
    | .eql => ok (.val (.bool (eqB l m))) M
    | .neq => ok (.val (.bool (!eqB l m))) M
    | _ => fail M
  | .val (.bool x), .val (.bool y) => match op, (tg tab t).ty with
    | .eql, .bool => ok (.val (.bool (x == y))) M
    | .neq, .bool => ok (.val (.bool (!(x == y)))) M
    | _, _ => fail M
  | .arr k n l, .arr k' n' m => match op, (tg tab t).ty with
    | .eql, .arr n0 e => match (tg tab e).ty with
      | .int k0 => okIf (k = k0 ∧ k' = k0 ∧ n = n0 ∧ n' = n0 ∧ (tg tab e).size = 1) (.val (.bool (eqB l m))) M
      | _ => fail M
    | .neq, .arr n0 e => match (tg tab e).ty with
      | .int k0 => okIf (k = k0 ∧ k' = k0 ∧ n = n0 ∧ n' = n0 ∧ (tg tab e).size = 1) (.val (.bool (!eqB l m))) M
      | _ => fail M
    | _, _ => fail M
  | _, _ => fail M

/-- A slice. -/
def isSl : AV → Bool
  | .d (.ints _ _) | .d (.slc _ _) | .d (.val (.slice none 0 0)) | .row _ | .own _ _ _ _ _ => true
  | _ => false

/-- Is a slice nil? Both answers are to be looked at. -/
def nilQ (tab : Tab) (op : BinOp) (t : TypeId) (a b : AV) : Bool :=
  match op, b, (tg tab t).ty with
  | .eql, .d (.val (.slice none 0 0)), .slice _ => isSl a
  | .neq, .d (.val (.slice none 0 0)), .slice _ => isSl a
  | _, _, _ => false

/-- What a nil slice says of its length. -/
def nilP : AV → Prop
  | .d (.ints _ l) => l.length = 0
  | .d (.slc sz xs) => sz ≠ 0 → xs.length = 0
  | _ => True
def nilT (op : BinOp) (a : AV) : Prop := match op with | .eql => nilP a | _ => True
def nilF (op : BinOp) (a : AV) : Prop := match op with | .neq => nilP a | _ => True

noncomputable def aBin (tab : Tab) (op : BinOp) (t : TypeId) (a b : AV) (M : Mem) : Res :=
  bif nilQ tab op t a b then ⟨True, .bq (nilT op a) (nilF op a), M⟩ else
  match a, b with
  | .d a, .d b => binD tab op t a b M
  | _, _ => fail M

def aUn (op : UnOp) (a : AV) (M : Mem) : Res :=
  match op, a with
  | .neg, .d (.val (.int k n)) => ok (.val (.int k (k.wrap (0 - n)))) M
  | .xor, .d (.val (.int k n)) => ok (.val (.int k (ixor k (if k.signed then -1 else k.max) n))) M
  | .not, .d (.val (.bool b)) => ok (.val (.bool !b)) M
  | _, _ => fail M

def aConv (tab : Tab) (src dst : TypeId) (a : AV) (M : Mem) : Res :=
  match (tg tab dst).ty with
  | .int k => match (tg tab src).ty, a with
    | .int _, .d (.val (.int _ n)) => ok (.val (.int k (k.wrap n))) M
    | _, _ => fail M
  | .str => match (tg tab src).ty with
    | .slice e => match (tg tab e).ty with
      | .int .u8 => match toD M a with
        | some (.ints .u8 l) => okIf (isBytes l) (.str l) M
        | some (.val (.slice none 0 0)) => ok (.str []) M
        | _ => fail M
      | _ => fail M
    | .str => match a with
      | .d (.str l) => ok (.str l) M
      | _ => fail M
    | _ => fail M
  | .slice e => match (tg tab e).ty, (tg tab src).ty with
    | .int .u8, .str => match a with
      | .d (.str l) => ok (.ints .u8 l) M
      | _ => fail M
    | _, _ => fail M
  | _ => fail M

def aLoad (tab : Tab) (t : TypeId) (a : AV) (M : Mem) : Res :=
  match a with
  | .ptr b p => match look M b with
    | some (.fix x) => okIf ((tg tab t).size ≠ 0 ∧ (sk (getP x p)).size = (tg tab t).size ∧ (getP x p).isAgg = (tg tab t).ty.agg) (getP x p) M
    | _ => fail M
  | .dat x => okIf ((tg tab t).size ≠ 0 ∧ (sk x).size = (tg tab t).size ∧ x.isAgg = (tg tab t).ty.agg) x M
  | .rpt b i => match look M b with
    | some (.row _ (.ints k l)) => okIf (i < l.length ∧ (tg tab t).size = 1 ∧ false = (tg tab t).ty.agg) (.val (.int k (l.getD i 0))) M
    | some (.row _ (.slc sz xs)) => okIf (i < xs.length ∧ (tg tab t).size ≠ 0 ∧ (tg tab t).size = sz ∧ shp tab 6 t (xs.getD i default) = xs.getD i default ∧ (shp tab 6 t (xs.getD i default)).isAgg = (tg tab t).ty.agg) (shp tab 6 t (xs.getD i default)) M
    | _ => fail M
  | _ => fail M

def aStore (tab : Tab) (t : TypeId) (a v : AV) (M : Mem) : Res :=
  match a, v with
  | .ptr b p, .d y => match look M b with
    | some (.fix x) => ⟨stP x p (castD tab t y) ∧ (tg tab t).size ≠ 0 ∧ (sk (castD tab t y)).size = (tg tab t).size ∧ y.isTup = false, .any, putM M b (.fix (setP x p (castD tab t y)))⟩
    | _ => fail M
  | _, _ => fail M

def aAlloc (tab : Tab) (dst : Option Nat) (x : D) (M : Mem) : Res :=
  match dst with
  | some d => match look M d with
    | none => ⟨True, .ptr d [], putM M d (.fix x)⟩
    | some _ => fail M
  | none => fail M

def aFieldAddr (tab : Tab) (t : TypeId) (a : AV) (f : Nat) (M : Mem) : Res :=
  match a with
  | .ptr b p => match look M b, (tg tab t).ty with
    | some (.fix x), .st ts => ⟨sk (getP x p) = sk (tg tab t).zero ∧ f < ts.length, .ptr b (p ++ [f]), M⟩
    | _, _ => fail M
  | .dat (.st fs) => match (tg tab t).ty with
    | .st ts => ⟨sk (.st fs) = sk (tg tab t).zero ∧ f < ts.length, .dat (fs.getD f default), M⟩
    | _ => fail M
  | _ => fail M

def aIndexAddr (tab : Tab) (t : TypeId) (a i : AV) (M : Mem) : Res :=
  match i with
  | .d (.val (.int _ i)) => match a with
    | .ptr b p => match look M b, (tg tab t).ty with
      | some (.fix x), .arr n e => match getP x p with
        | .arr k m _ => ⟨0 ≤ i ∧ i < n ∧ m = n ∧ (tg tab e).size = 1, .ptr b (p ++ [i.toNat]), M⟩
        | _ => fail M
      | _, _ => fail M
    | .own b p off len _ => match (tg tab t).ty with
      | .slice e => ⟨0 ≤ i ∧ i < len ∧ (tg tab e).size = 1, .ptr b (p ++ [off + i.toNat]), M⟩
      | _ => fail M
    | .d (.ints k l) => match (tg tab t).ty with
      | .slice e => ⟨0 ≤ i ∧ i < l.length ∧ (tg tab e).size = 1, .dat (.val (.int k (l.getD i.toNat 0))), M⟩
      | _ => fail M
    | .d (.slc sz xs) => match (tg tab t).ty with
      | .slice e => ⟨0 ≤ i ∧ i < xs.length ∧ (tg tab e).size ≠ 0 ∧ (tg tab e).size = sz ∧ shp tab 6 e (xs.getD i.toNat default) = xs.getD i.toNat default, .dat (shp tab 6 e (xs.getD i.toNat default)), M⟩
      | _ => fail M
    | .row b => match (tg tab t).ty, look M b with
      | .slice e, some (.row _ (.ints k l)) => ⟨0 ≤ i ∧ i < l.length ∧ (tg tab e).size = 1, .rpt b i.toNat, M⟩
      | .slice e, some (.row _ (.slc sz xs)) => ⟨0 ≤ i ∧ i < xs.length ∧ (tg tab e).size ≠ 0 ∧ (tg tab e).size = sz, .rpt b i.toNat, M⟩
      | _, _ => fail M
    | .dat (.arr k m l) => match (tg tab t).ty with
      | .arr n e => ⟨0 ≤ i ∧ i < n ∧ m = n ∧ (tg tab e).size = 1, .dat (.val (.int k (l.getD i.toNat 0))), M⟩
      | _ => fail M
    | _ => fail M
  | _ => fail M

def aIndex (tab : Tab) (t : TypeId) (a i : AV) (M : Mem) : Res :=
  match a, i with
  | .d (.arr k m l), .d (.val (.int _ i)) => match (tg tab t).ty with
    | .arr n e => okIf (0 ≤ i ∧ i < n ∧ m = n ∧ (tg tab e).ty = .int k ∧ (tg tab e).size = 1) (.val (.int k (l.getD i.toNat 0))) M
    | _ => fail M
  | .d (.str l), .d (.val (.int _ i)) => match (tg tab t).ty with
    | .str => okIf (0 ≤ i ∧ i < l.length) (.val (.int .u8 (l.getD i.toNat 0))) M
    | _ => fail M
  | _, _ => fail M

def aField (tab : Tab) (t : TypeId) (a : AV) (f : Nat) (M : Mem) : Res :=
  match a, (tg tab t).ty with
  | .d (.st fs), .st ts => match ts[f]? with
    | some (_, t') => okIf (sk (.st fs) = sk (tg tab t).zero ∧ (fs.getD f default).isAgg = (tg tab t').ty.agg ∧ (sk (fs.getD f default)).size = (tg tab t').size) (fs.getD f default) M
    | none => fail M
  | _, _ => fail M

/-- An operand that bounds a slice. -/
def bnd (dflt : Int) : Option AV → Option Int
  | none => some dflt
  | some (.d (.val (.int _ i))) => some i
  | _ => none

def aSlice (tab : Tab) (t : TypeId) (a : AV) (lo hi mx : Option AV) (M : Mem) : Res :=
  match mx with
  | some _ => fail M
  | none => match a, (tg tab t).ty with
    | .d (.ints k l), .slice e => match bnd 0 lo, bnd (l.length : Int) hi with
      | some i, some j => okIf (0 ≤ i ∧ i ≤ j ∧ j ≤ l.length ∧ (tg tab e).size = 1) (.ints k ((l.take j.toNat).drop i.toNat)) M
      | _, _ => fail M
    | .d (.slc sz xs), .slice e => match bnd 0 lo, bnd (xs.length : Int) hi with
      | some i, some j => okIf (0 ≤ i ∧ i ≤ j ∧ j ≤ xs.length ∧ (tg tab e).size ≠ 0 ∧ (tg tab e).size = sz) (.slc sz ((xs.take j.toNat).drop i.toNat)) M
      | _, _ => fail M
    | .d (.str l), .str => match bnd 0 lo, bnd (l.length : Int) hi with
      | some i, some j => okIf (0 ≤ i ∧ i ≤ j ∧ j ≤ l.length) (.str ((l.take j.toNat).drop i.toNat)) M
      | _, _ => fail M
    | .own b p off len cap, .slice e => match bnd 0 lo, bnd (len : Int) hi with
      | some i, some j => ⟨0 ≤ i ∧ i ≤ j ∧ j ≤ cap ∧ (tg tab e).size = 1, .own b p (off + i.toNat) (j.toNat - i.toNat) (cap - i.toNat), M⟩
      | _, _ => fail M
    | .ptr b p, .arr n e => match look M b with
      | some (.fix x) => match getP x p with
        | .arr _ m _ => match bnd 0 lo, bnd (n : Int) hi with
          | some i, some j => ⟨0 ≤ i ∧ i ≤ j ∧ j ≤ n ∧ m = n ∧ (tg tab e).size = 1, .own b p i.toNat (j.toNat - i.toNat) (n - i.toNat), M⟩
          | _, _ => fail M
        | _ => fail M
      | _ => fail M
    | _, _ => fail M

def aMake (tab : Tab) (rows : List Nat) (t : TypeId) (dst : Option Nat) (len cap : AV) (M : Mem) : Res :=
  match len, cap, dst, (tg tab t).ty with
  | .d (.val (.int _ n)), .d (.val (.int _ c)), some d, .slice e => match (tg tab e).ty, look M d with
    | .int k, none =>
      bif rows.contains d then ⟨n = 0 ∧ 0 ≤ c ∧ c ≤ 281474976710656 ∧ ((tg tab e).bytes : Int) * c ≤ 281474976710656 ∧ (tg tab e).size = 1, .row d, putM M d (.row e (.ints k []))⟩
      else ⟨0 ≤ n ∧ c = n ∧ n ≤ 281474976710656 ∧ ((tg tab e).bytes : Int) * n ≤ 281474976710656 ∧ (tg tab e).size = 1, .own d [] 0 n.toNat n.toNat, putM M d (.fix (.arr k n.toNat (List.replicate n.toNat 0)))⟩
    | _, _ => fail M
  | _, _, _, _ => fail M

def aLen (tab : Tab) (t : TypeId) (a : AV) (M : Mem) : Res :=
  match a with
  | .d (.ints _ l) => match (tg tab t).ty with
    | .slice _ => ok (.val (.int .i64 l.length)) M
    | _ => fail M
  | .d (.slc _ xs) => match (tg tab t).ty with
    | .slice _ => ok (.val (.int .i64 xs.length)) M
    | _ => fail M
  | .d (.str l) => match (tg tab t).ty with
    | .str => ok (.val (.int .i64 l.length)) M
    | _ => fail M
  | .d (.val (.slice none 0 0)) => match (tg tab t).ty with
    | .slice _ => ok (.val (.int .i64 0)) M
    | _ => fail M
  | .own _ _ _ len _ => match (tg tab t).ty with
    | .slice _ => ok (.val (.int .i64 len)) M
    | _ => fail M
  | .row b => match (tg tab t).ty, look M b with
    | .slice _, some (.row _ (.ints _ l)) => ok (.val (.int .i64 l.length)) M
    | .slice _, some (.row _ (.slc _ xs)) => ok (.val (.int .i64 xs.length)) M
    | _, _ => fail M
  | _ => fail M

def aMin (lt : Int → Int → Bool) (as : List AV) (M : Mem) : Res :=
  match as with
  | [.d (.val (.int k x)), .d (.val (.int k' y))] => okIf (k' = k) (.val (.int k (bif lt y x then y else x))) M
  | _ => fail M

def aCopy (tab : Tab) (dt : TypeId) (a b : AV) (M : Mem) : Res :=
  match a, (tg tab dt).ty with
  | .own b1 p off len _, .slice e => match look M b1, toD M b with
    | some (.fix x), some (.ints k m) => match getP x p with
      | .arr k' n l => ⟨k' = k ∧ (tg tab e).size = 1, .d (.val (.int .i64 (Nat.min m.length len))),
          putM M b1 (.fix (setP x p (.arr k' n (l.take off ++ m.take (Nat.min m.length len) ++ l.drop (off + Nat.min m.length len)))))⟩
      | _ => fail M
    | _, _ => fail M
  | _, _ => fail M

def mapToD (M : Mem) (tab : Tab) : List AV → List TypeId → Option (List D)
  | [], _ => some []
  | a :: as, ts => match toD M a with
    | none => none
    | some d => match mapToD M tab as ts.tail with
      | none => none
      | some ds => some (castD tab (ts.headD 0) d :: ds)

def allData : List AV → Bool
  | [] => true
  | .d _ :: as => allData as
  | .dat _ :: as => allData as
  | _ :: _ => false

def aCall (C : Ctx) (f : FuncId) (as : List AV) (M : Mem) : Res :=
  match C.G f with
  | none => fail M
  | some s => bif s.flat || allData as then
      match mapToD M C.tab as s.ps with
      | none => fail M
      | some ds => okIf (s.pre ds) (s.f ds) M
    else fail M

def aPick (c a b : AV) (M : Mem) : Res :=
  match c with
  | .d (.val (.bool t)) => ⟨True, (match t with | true => a | false => b), M⟩
  | _ => fail M

def aExtract (a : AV) (i : Nat) (M : Mem) : Res :=
  match a with
  | .d (.tup ds) => okIf (i < ds.length ∧ (ds.getD i default).isTup = false) (ds.getD i default) M
  | _ => fail M

def aParts (tab : Tab) (ty : Nat → TypeId) (z : D) : List (Nat × AV) → Prop × D
  | [] => (True, z)
  | (i, .d x) :: ps => (x.isTup = false ∧ stP z [i] (castD tab (ty i) x) ∧ (aParts tab ty (setP z [i] (castD tab (ty i) x)) ps).1, (aParts tab ty (setP z [i] (castD tab (ty i) x)) ps).2)
  | _ :: _ => (False, z)

/-- A composite literal of a struct or an array. -/
def aBuild (tab : Tab) (t : TypeId) (ps : List (Nat × AV)) (M : Mem) : Res :=
  match (tg tab t).ty, (tg tab t).zero with
  | .st ts, z => okIf ((aParts tab (fun i => (ts.getD i (0, 0)).2) z ps).1) (aParts tab (fun i => (ts.getD i (0, 0)).2) z ps).2 M
  | .arr _ e, .arr k n l => okIf ((tg tab e).size = 1 ∧ (aParts tab (fun _ => e) (.arr k n l) ps).1) (aParts tab (fun _ => e) (.arr k n l) ps).2 M
  | _, _ => fail M

def setInts (k : IntKind) (l : List Int) : List (Nat × AV) → Option (List Int)
  | [] => some l
  | (i, .d (.val (.int k' n))) :: ps => bif decide (k' = k) then (bif Nat.blt i l.length then setInts k (l.set i n) ps else none) else none
  | _ :: _ => none

def setXs (tab : Tab) (e : TypeId) (xs : List D) : List (Nat × AV) → Option (List D)
  | [] => some xs
  | (i, .d x) :: ps => bif Nat.blt i xs.length && Nat.beq (sk (castD tab e x)).size (tg tab e).size && !x.isTup then setXs tab e (xs.set i (castD tab e x)) ps else none
  | _ :: _ => none

/-- A slice literal. -/
def aBuildSlice (C : Ctx) (dst : Option Nat) (t : TypeId) (len : Nat) (ps : List (Nat × AV)) (M : Mem) : Res :=
  match (tg C.tab t).ty with
  | .slice e => match (tg C.tab e).ty with
    | .int k => match setInts k (List.replicate len 0) ps with
      | some l => match dst with
        | some d => bif C.rows.contains d then
            (match look M d with
              | none => ⟨(tg C.tab e).size = 1 ∧ len ≤ 4096, .row d, putM M d (.row e (.ints k l))⟩
              | some _ => fail M)
          else okIf ((tg C.tab e).size = 1 ∧ len ≤ 4096) (.ints k l) M
        | none => fail M
      | none => fail M
    | _ => match setXs C.tab e (List.replicate len (tg C.tab e).zero) ps with
      | some xs => okIf (len ≤ 4096 ∧ (tg C.tab e).size ≤ 256 ∧ (tg C.tab e).size ≠ 0) (.slc (tg C.tab e).size xs) M
      | none => fail M
  | _ => fail M

/-- A variable is set; nil into a slot of 'rows' begins a row. -/
def aAssign (C : Ctx) (dst : Option Nat) (t : TypeId) (v : AV) (M : Mem) : Res :=
  match dst with
  | none => ⟨True, v, M⟩
  | some d => bif C.rows.contains d then (match v with
      | .d (.val (.slice none 0 0)) => match (tg C.tab t).ty, look M d with
        | .slice e, none => ⟨(tg C.tab e).size ≠ 0, .row d, putM M d (.row e (castD C.tab t (.val (.slice none 0 0))))⟩
        | _, _ => fail M
      | v => ⟨True, v, M⟩)
    else ⟨True, v, M⟩

def isD : AV → Bool
  | .d _ => true
  | _ => false

/-- A copy of a slice, as append to nil makes it. -/
def aNew (tab : Tab) (t t2 : TypeId) (x y : AV) (M : Mem) : Res :=
  match x with
  | .d (.val (.slice none 0 0)) => match (tg tab t).ty, toD M y with
    | .slice e, some d => match castD tab t d with
      | .ints k l => okIf (t2 = t ∧ l.length ≤ 140737488355328 ∧ l.length * (tg tab e).bytes ≤ 140737488355328 ∧ (tg tab e).size = 1) (.ints k l) M
      | .slc sz xs => okIf (t2 = t ∧ isD y = true ∧ xs.length ≤ 140737488355328 ∧ xs.length * (tg tab e).bytes ≤ 140737488355328 ∧ (tg tab e).size = sz ∧ sz ≠ 0) (.slc sz xs) M
      | _ => fail M
    | _, _ => fail M
  | _ => fail M

/-- A function value that is called. -/
def fnOf (x : Operand) (v : AV) : Option (FuncId × List D) :=
  match x with
  | .func f => some (f, [])
  | _ => match v with
    | .d (.val (.func (.func f) a b)) => bif Nat.beq a.size 0 && Nat.beq b.size 0 then some (f, []) else none
    | .d (.clo f xs) => some (f, xs)
    | _ => none

/-- A function value is made. -/
def aFunc (fn : Fn) (first : List Operand) (cs : List AV) (M : Mem) : Res :=
  match fn, first with
  | .func f, [] => match capD cs with
    | some xs => ok (.clo f xs) M
    | none => fail M
  | _, _ => fail M

/-- Is it a pointer into the block that was born in this slot? -/
def isPtr (p : Nat) : AV → Bool
  | .ptr b _ => Nat.beq b p
  | _ => false

/-- Slots that are told (by frz, 200000 above) to hold such a pointer. -/
def cellR (C : Ctx) (a : Operand) (v : AV) (r : Res) : Res :=
  match a with
  | .tmp p => bif C.frz.contains (p + 200000) then ⟨isPtr p v = true ∧ r.c, r.v, r.M⟩ else r
  | _ => r

/-- The abstract step of one operation (all but those that look over all slots: append, and calls that take the call's own blocks for good). -/
noncomputable def act (C : Ctx) (o : Oper) (ρ : Operand → AV) (M : Mem) : Res :=
  match o.op with
  | .move x => ⟨True, ρ x, M⟩
  | .assign x => aAssign C o.dst o.type (ρ x) M
  | .pick c a b => aPick (ρ c) (ρ a) (ρ b) M
  | .alloc t => match aAlloc C.tab o.dst (tg C.tab t).zero M with
    | r => ⟨r.c ∧ (tg C.tab t).size ≠ 0, r.v, r.M⟩
  | .box t x => match ρ x with
    | .d y => match aAlloc C.tab o.dst (castD C.tab t y) M with
      | r => ⟨r.c ∧ y.isTup = false, r.v, r.M⟩
    | _ => fail M
  | .build t ps => aBuild C.tab t (ps.toList.map fun p => (p.1, ρ p.2)) M
  | .buildSlice t len ps => aBuildSlice C o.dst t len (ps.toList.map fun p => (p.1, ρ p.2)) M
  | .load t a => cellR C a (ρ a) (aLoad C.tab t (unref (ρ a)) M)
  | .store t a v => match o.dst with
    | none => cellR C a (ρ a) (aStore C.tab t (ρ a) (ρ v) M)
    | some _ => fail M
  | .binOp op t x y _ => aBin C.tab op t (ρ x) (ρ y) M
  | .unOp op _ x => aUn op (ρ x) M
  | .convert s d x => aConv C.tab s d (ρ x) M
  | .makeSlice t l c => aMake C.tab C.rows t o.dst (ρ l) (ρ c) M
  | .slice t x lo hi mx => aSlice C.tab t (ρ x) (lo.map ρ) (hi.map ρ) (mx.map ρ) M
  | .makeFunc fn first captured => aFunc fn first.toList (captured.toList.map ρ) M
  | .fieldAddr t x f => aFieldAddr C.tab t (unref (ρ x)) f M
  | .field t x f => aField C.tab t (ρ x) f M
  | .indexAddr t x i => aIndexAddr C.tab t (unref (ρ x)) (ρ i) M
  | .index t x i => aIndex C.tab t (ρ x) (ρ i) M
  | .extract t i => aExtract (ρ t) i M
  | .call c => match c.callee with
    | .builtin .len => match c.args.toList, c.argTypes.toList with
      | [x], [t] => aLen C.tab t (ρ x) M
      | _, _ => fail M
    | .builtin .copy => match c.args.toList, c.argTypes.toList with
      | [x, y], t :: _ => aCopy C.tab t (ρ x) (ρ y) M
      | _, _ => fail M
    | .builtin .append => match c.args.toList, c.argTypes.toList with
      | [x, y], [t, t2] => aNew C.tab t t2 (ρ x) (ρ y) M
      | _, _ => fail M
    | .builtin .min => aMin (fun y x => decide (y < x)) (c.args.toList.map ρ) M
    | .builtin .max => aMin (fun y x => decide (x < y)) (c.args.toList.map ρ) M
    | .value x => match fnOf x (ρ x) with
      | some (f, xs) => aCall C f (c.args.toList.map ρ ++ xs.map .d) M
      | none => fail M
    | .invoke _ _ => fail M
    | .builtin _ => fail M
  | _ => fail M

end Go.Vg
