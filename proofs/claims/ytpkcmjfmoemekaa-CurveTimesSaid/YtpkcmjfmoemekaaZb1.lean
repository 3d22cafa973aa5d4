/- Vg, part A: tree-shaped data, how it reads in a world, and that it keeps reading while its blocks keep. Plain lemmas. -/
import Derived.Orders
import Derived.Below
import Derived.Laws.OwnMore
namespace Go.Vg
open Go Go.RowKit
def isCell : Value → Bool
 | .agg _ | .tuple _ => false
 | _ => true
theorem isCell_one (v : Value) : v.oneCell' = isCell v := by cases v <;> rfl
inductive D where
 | val (v : Value)
 | arr (k : IntKind) (n : Nat) (l : List Int)
 | st (fs : List D)
 | ints (k : IntKind) (l : List Int)
 | slc (sz : Nat) (xs : List D)
 | tup (ds : List D)
 | str (l : List Int)
 | ref (x : D)
 | clo (f : Nat) (xs : List D)
 deriving Inhabited
def bstr (l : List Int) : ByteArray := ⟨(l.map fun n => UInt8.ofNat n.toNat).toArray⟩
def isBytes (l : List Int) : Prop := ∀ x ∈ l, 0 ≤ x ∧ x < 256
instance : Inhabited D := ⟨.val (.bool false)⟩
mutual
def D.size : D → Nat
 | .val _ => 1
 | .arr _ n _ => n
 | .st fs => D.sizes fs
 | .ints _ _ => 1
 | .slc _ _ => 1
 | .tup _ => 0
 | .str _ => 1
 | .ref _ => 1
 | .clo _ _ => 1
def D.sizes : List D → Nat
 | [] => 0
 | d :: ds => D.size d + D.sizes ds
end
def D.isAgg : D → Bool
 | .arr _ _ _ | .st _ => true
 | _ => false
def At (w : World) (X : Nat → Prop) (a : Option Addr) (cs : List Value) : Prop :=
 cs = [] ∨ ∃ β o, a = some ⟨β, o, none⟩ ∧ X β ∧ ∀ (j : Nat) (v : Value), cs[j]? = some v → w.cell? ⟨β, o + j, none⟩ = some v
mutual
def CR (w : World) (X : Nat → Prop) : D → List Value → Prop
 | .val v, vs => vs = [v] ∧ isCell v = true
 | .arr k n l, vs => l.length = n ∧ vs = l.map (Value.int k)
 | .st fs, vs => CRs w X fs vs
 | .ints k l, vs => ∃ a c, vs = [.slice a l.length c] ∧ l.length ≤ c ∧ At w X a (l.map (Value.int k))
 | .slc sz xs, vs => ∃ a c cs, vs = [.slice a xs.length c] ∧ xs.length ≤ c ∧ At w X a cs ∧ ER w X sz xs cs
 | .tup _, _ => False
 | .str l, vs => vs = [.string (bstr l)] ∧ isBytes l
 | .ref x, vs => ∃ β o cs, vs = [.pointer (some ⟨β, o, none⟩)] ∧ X β ∧ CR w X x cs ∧ ∀ (j : Nat) (u : Value), cs[j]? = some u → w.cell? ⟨β, o + j, none⟩ = some u
 | .clo f xs, vs => ∃ ps : List Value, vs = [.func (.func f) #[] ps.toArray] ∧ ER w X 1 xs ps ∧ ∀ x ∈ xs, x.isAgg = false
def CRs (w : World) (X : Nat → Prop) : List D → List Value → Prop
 | [], vs => vs = []
 | d :: ds, vs => ∃ v1 v2, vs = v1 ++ v2 ∧ CR w X d v1 ∧ CRs w X ds v2
def ER (w : World) (X : Nat → Prop) (sz : Nat) : List D → List Value → Prop
 | [], vs => vs = []
 | d :: ds, vs => ∃ v1 v2, vs = v1 ++ v2 ∧ v1.length = sz ∧ CR w X d v1 ∧ ER w X sz ds v2
end
theorem At.mono {w w' : World} {X X' : Nat → Prop} (h : ∀ β, X β → X' β ∧ w'.heap[β]? = w.heap[β]?) {a : Option Addr} {cs : List Value} (ha : At w X a cs) : At w' X' a cs := by
 rcases ha with rfl | ⟨β, o, rfl, hx, hc⟩
 ·exact .inl rfl
 ·refine .inr ⟨β, o, rfl, (h β hx).1, fun j v hv => ?_⟩
  rw [World.cell?_of_block (w := w) (h β hx).2]
  exact hc j v hv
mutual
theorem CR.mono {w w' : World} {X X' : Nat → Prop} (h : ∀ β, X β → X' β ∧ w'.heap[β]? = w.heap[β]?) : ∀ (d : D) (vs : List Value), CR w X d vs → CR w' X' d vs
 | .val _, _, hc => by simpa only [CR] using hc
 | .arr _ _ _, _, hc => by simpa only [CR] using hc
 | .st fs, vs, hc => by
  simp only [CR] at hc ⊢
  exact CRs.mono h fs vs hc
 | .ints _ _, _, hc => by
  simp only [CR] at hc ⊢
  obtain ⟨a, c, e, hl, ha⟩ := hc
  exact ⟨a, c, e, hl, ha.mono h⟩
 | .slc sz xs, _, hc => by
  simp only [CR] at hc ⊢
  obtain ⟨a, c, cs, e, hl, ha, he⟩ := hc
  exact ⟨a, c, cs, e, hl, ha.mono h, ER.mono h sz xs cs he⟩
 | .tup _, _, hc => by simp only [CR] at hc
 | .str _, _, hc => by simpa only [CR] using hc
 | .ref x, _, hc => by
  simp only [CR] at hc ⊢
  obtain ⟨β, o, cs, e, hx, hr, hcell⟩ := hc
  refine ⟨β, o, cs, e, (h β hx).1, CR.mono h x cs hr, fun j u hu => ?_⟩
  rw [World.cell?_of_block (w := w) (h β hx).2]
  exact hcell j u hu
 | .clo _ xs, _, hc => by
  simp only [CR] at hc ⊢
  obtain ⟨ps, e, he, ha⟩ := hc
  exact ⟨ps, e, ER.mono h 1 xs ps he, ha⟩
theorem CRs.mono {w w' : World} {X X' : Nat → Prop} (h : ∀ β, X β → X' β ∧ w'.heap[β]? = w.heap[β]?) : ∀ (ds : List D) (vs : List Value), CRs w X ds vs → CRs w' X' ds vs
 | [], _, hc => by simpa only [CRs] using hc
 | d :: ds, _, hc => by
  simp only [CRs] at hc ⊢
  obtain ⟨v1, v2, e, h1, h2⟩ := hc
  exact ⟨v1, v2, e, CR.mono h d v1 h1, CRs.mono h ds v2 h2⟩
theorem ER.mono {w w' : World} {X X' : Nat → Prop} (h : ∀ β, X β → X' β ∧ w'.heap[β]? = w.heap[β]?) (sz : Nat) : ∀ (ds : List D) (vs : List Value), ER w X sz ds vs → ER w' X' sz ds vs
 | [], _, hc => by simpa only [ER] using hc
 | d :: ds, _, hc => by
  simp only [ER] at hc ⊢
  obtain ⟨v1, v2, e, hl, h1, h2⟩ := hc
  exact ⟨v1, v2, e, hl, CR.mono h d v1 h1, ER.mono h sz ds v2 h2⟩
end
mutual
theorem CR.len {w : World} {X : Nat → Prop} : ∀ (d : D) (vs : List Value), CR w X d vs → vs.length = d.size
 | .val _, _, hc => by simp only [CR] at hc; simp [hc.1, D.size]
 | .arr _ _ _, _, hc => by simp only [CR] at hc; simp [hc.2, hc.1, D.size]
 | .st fs, vs, hc => by simp only [CR] at hc; rw [D.size]; exact CRs.len fs vs hc
 | .ints _ _, _, hc => by simp only [CR] at hc; obtain ⟨a, c, e, _⟩ := hc; simp [e, D.size]
 | .slc _ _, _, hc => by simp only [CR] at hc; obtain ⟨a, c, cs, e, _⟩ := hc; simp [e, D.size]
 | .tup _, _, hc => by simp only [CR] at hc
 | .str _, _, hc => by simp only [CR] at hc; simp [hc.1, D.size]
 | .ref _, _, hc => by simp only [CR] at hc; obtain ⟨β, o, cs, e, _⟩ := hc; simp [e, D.size]
 | .clo _ _, _, hc => by simp only [CR] at hc; obtain ⟨ps, e, _⟩ := hc; simp [e, D.size]
theorem CRs.len {w : World} {X : Nat → Prop} : ∀ (ds : List D) (vs : List Value), CRs w X ds vs → vs.length = D.sizes ds
 | [], _, hc => by simp only [CRs] at hc; simp [hc, D.sizes]
 | d :: ds, _, hc => by
  simp only [CRs] at hc
  obtain ⟨v1, v2, rfl, h1, h2⟩ := hc
  rw [List.length_append, D.sizes, CR.len d v1 h1, CRs.len ds v2 h2]
end
mutual
theorem CR.cell {w : World} {X : Nat → Prop} : ∀ (d : D) (vs : List Value), CR w X d vs → ∀ v ∈ vs, isCell v = true
 | .val _, _, hc => by simp only [CR] at hc; intro v hv; rw [hc.1] at hv; simp at hv; subst hv; exact hc.2
 | .arr _ _ _, _, hc => by
  simp only [CR] at hc; intro v hv; rw [hc.2] at hv
  obtain ⟨x, _, rfl⟩ := List.mem_map.1 hv; rfl
 | .st fs, vs, hc => by simp only [CR] at hc; exact CRs.cell fs vs hc
 | .ints _ _, _, hc => by simp only [CR] at hc; obtain ⟨a, c, rfl, _⟩ := hc; intro v hv; simp at hv; subst hv; rfl
 | .slc _ _, _, hc => by simp only [CR] at hc; obtain ⟨a, c, cs, rfl, _⟩ := hc; intro v hv; simp at hv; subst hv; rfl
 | .tup _, _, hc => by simp only [CR] at hc
 | .str _, _, hc => by simp only [CR] at hc; intro v hv; rw [hc.1] at hv; simp at hv; subst hv; rfl
 | .ref _, _, hc => by simp only [CR] at hc; obtain ⟨β, o, cs, rfl, _⟩ := hc; intro v hv; simp at hv; subst hv; rfl
 | .clo _ _, _, hc => by simp only [CR] at hc; obtain ⟨ps, rfl, _⟩ := hc; intro v hv; simp at hv; subst hv; rfl
theorem CRs.cell {w : World} {X : Nat → Prop} : ∀ (ds : List D) (vs : List Value), CRs w X ds vs → ∀ v ∈ vs, isCell v = true
 | [], _, hc => by simp only [CRs] at hc; simp [hc]
 | d :: ds, _, hc => by
  simp only [CRs] at hc
  obtain ⟨v1, v2, rfl, h1, h2⟩ := hc
  intro v hv
  rcases List.mem_append.1 hv with h | h
  ·exact CR.cell d v1 h1 v h
  ·exact CRs.cell ds v2 h2 v h
end
theorem ER.len {w : World} {X : Nat → Prop} {sz : Nat} : ∀ (ds : List D) (vs : List Value), ER w X sz ds vs → vs.length = ds.length * sz
 | [], _, hc => by simp only [ER] at hc; simp [hc]
 | d :: ds, _, hc => by
  simp only [ER] at hc
  obtain ⟨v1, v2, rfl, hl, h1, h2⟩ := hc
  rw [List.length_append, hl, ER.len ds v2 h2, List.length_cons, Nat.add_mul]; omega
theorem ER.elem {w : World} {X : Nat → Prop} {sz : Nat} : ∀ (ds : List D) (vs : List Value), ER w X sz ds vs → ∀ (i : Nat) (d : D), ds[i]? = some d →
  CR w X d ((vs.drop (i * sz)).take sz) ∧ ((vs.drop (i * sz)).take sz).length = sz
 | [], _, _ => by intro i d h; simp at h
 | d :: ds, _, hc => by
  simp only [ER] at hc
  obtain ⟨v1, v2, rfl, hl, h1, h2⟩ := hc
  intro i e he
  cases i with
  | zero =>
   simp only [List.getElem?_cons_zero, Option.some.injEq] at he
   subst he
   rw [Nat.zero_mul, List.drop_zero, List.take_append_of_le_length (by omega), List.take_of_length_le (by omega)]
   exact ⟨h1, hl⟩
  | succ i =>
   simp only [List.getElem?_cons_succ] at he
   have := ER.elem ds v2 h2 i e he
   rw [Nat.add_mul, Nat.one_mul, Nat.add_comm, ← List.drop_drop, List.drop_left' hl]
   exact this
theorem ER.append {w : World} {X : Nat → Prop} {sz : Nat} : ∀ (ds es : List D) (vs us : List Value), ER w X sz ds vs → ER w X sz es us → ER w X sz (ds ++ es) (vs ++ us)
 | [], es, vs, us, h, k => by simp only [ER] at h; subst h; simpa using k
 | d :: ds, es, vs, us, h, k => by
  simp only [ER] at h
  obtain ⟨v1, v2, rfl, hl, h1, h2⟩ := h
  simp only [List.cons_append, ER]
  exact ⟨v1, v2 ++ us, by simp, hl, h1, ER.append ds es v2 us h2 k⟩
theorem ER.cut {w : World} {X : Nat → Prop} {sz : Nat} : ∀ (n : Nat) (ds : List D) (vs : List Value), ER w X sz ds vs → ER w X sz (ds.drop n) (vs.drop (n * sz)) ∧ ER w X sz (ds.take n) (vs.take (n * sz))
 | 0, ds, vs, h => by simp [h, ER]
 | n + 1, [], vs, h => by simp only [ER] at h; subst h; simp [ER]
 | n + 1, d :: ds, vs, h => by
  simp only [ER] at h
  obtain ⟨v1, v2, rfl, hl, h1, h2⟩ := h
  have ih := ER.cut n ds v2 h2
  have e : (n + 1) * sz = v1.length + n * sz := by rw [hl, Nat.add_mul]; omega
  constructor
  ·rw [e, List.drop_succ_cons, ← List.drop_drop, List.drop_left' rfl]
   exact ih.1
  ·rw [e, List.take_length_add_append, List.take_succ_cons]
   simp only [ER]
   exact ⟨v1, _, rfl, hl, h1, ih.2⟩
theorem At.cut {w : World} {X : Nat → Prop} {β o : Nat} {cs : List Value} (hx : X β) (h : ∀ (j : Nat) (v : Value), cs[j]? = some v → w.cell? ⟨β, o + j, none⟩ = some v) (lo n : Nat) :
  At w X (some ⟨β, o + lo, none⟩) ((cs.drop lo).take n) := by
 refine .inr ⟨β, o + lo, rfl, hx, fun j v hv => ?_⟩
 rw [List.getElem?_take] at hv
 split at hv
 ·rw [List.getElem?_drop] at hv
  rw [Nat.add_assoc]
  exact h _ _ hv
 ·cases hv
inductive All2 {α β : Type} (R : α → β → Prop) : List α → List β → Prop
 | nil : All2 R [] []
 | cons {a b as bs} : R a b → All2 R as bs → All2 R (a :: as) (b :: bs)
theorem All2.len {α β : Type} {R : α → β → Prop} {l : List α} {m : List β} (h : All2 R l m) : l.length = m.length := by
 induction h with
 | nil => rfl
 | cons _ _ ih => simp [ih]
theorem All2.get {α β : Type} {R : α → β → Prop} {l : List α} {m : List β} (h : All2 R l m) : ∀ (i : Nat) (x : α), l[i]? = some x → ∃ y, m[i]? = some y ∧ R x y := by
 induction h with
 | nil => intro i x hx; simp at hx
 | cons hab _ ih =>
  intro i x hx
  cases i with
  | zero => simp at hx; subst hx; exact ⟨_, rfl, hab⟩
  | succ i => simpa using ih i x (by simpa using hx)
theorem All2.mono {α β : Type} {R R' : α → β → Prop} (hr : ∀ a b, R a b → R' a b) {l : List α} {m : List β} (h : All2 R l m) : All2 R' l m := by
 induction h with
 | nil => exact .nil
 | cons hab _ ih => exact .cons (hr _ _ hab) ih
theorem All2.set {α β : Type} {R : α → β → Prop} {l : List α} {m : List β} (h : All2 R l m) (i : Nat) {x : α} {y : β} (hxy : R x y) : All2 R (l.set i x) (m.set i y) := by
 induction h generalizing i with
 | nil => exact .nil
 | cons hab h ih =>
  cases i with
  | zero => exact .cons hxy h
  | succ i => exact .cons hab (ih i)
theorem All2.map {α α' β : Type} {R : α → β → Prop} {R' : α' → β → Prop} (f : α → α') (hf : ∀ a b, R a b → R' (f a) b) {l : List α} {m : List β} (h : All2 R l m) : All2 R' (l.map f) m := by
 induction h with
 | nil => exact .nil
 | cons hab _ ih => exact .cons (hf _ _ hab) ih
def VR1 (w : World) (X : Nat → Prop) : D → Value → Prop
 | .arr k n l, v => l.length = n ∧ v = .agg (l.map (Value.int k)).toArray
 | .st fs, v => ∃ cs, v = .agg cs.toArray ∧ CRs w X fs cs
 | d, v => CR w X d [v]
def VR (w : World) (X : Nat → Prop) : D → Value → Prop
 | .tup ds, v => ∃ vs : List Value, v = .tuple vs.toArray ∧ All2 (VR1 w X) ds vs
 | d, v => VR1 w X d v
theorem VR1.mono {w w' : World} {X X' : Nat → Prop} (h : ∀ β, X β → X' β ∧ w'.heap[β]? = w.heap[β]?) (d : D) (v : Value) (hv : VR1 w X d v) : VR1 w' X' d v := by
 cases d with
 | arr k n l => exact hv
 | st fs => obtain ⟨cs, e, hc⟩ := hv; exact ⟨cs, e, CRs.mono h fs cs hc⟩
 | val x => exact CR.mono h _ _ hv
 | ints k l => exact CR.mono h _ _ hv
 | slc sz xs => exact CR.mono h _ _ hv
 | tup ds => exact CR.mono h _ _ hv
 | str l => exact CR.mono h _ _ hv
 | ref x => exact CR.mono h _ _ hv
 | clo f xs => exact CR.mono h _ _ hv
theorem VR.mono {w w' : World} {X X' : Nat → Prop} (h : ∀ β, X β → X' β ∧ w'.heap[β]? = w.heap[β]?) (d : D) (v : Value) (hv : VR w X d v) : VR w' X' d v := by
 cases d with
 | tup ds => obtain ⟨vs, e, hc⟩ := hv; exact ⟨vs, e, hc.mono (VR1.mono h)⟩
 | arr k n l => exact VR1.mono h (.arr k n l) _ hv
 | st fs => exact VR1.mono h (.st fs) _ hv
 | val x => exact VR1.mono h (.val x) _ hv
 | ints k l => exact VR1.mono h (.ints k l) _ hv
 | slc sz xs => exact VR1.mono h (.slc sz xs) _ hv
 | str l => exact VR1.mono h (.str l) _ hv
 | ref x => exact VR1.mono h (.ref x) _ hv
 | clo f xs => exact VR1.mono h (.clo f xs) _ hv
def D.isTup : D → Bool
 | .tup _ => true
 | _ => false
theorem VR.one {w : World} {X : Nat → Prop} {d : D} {v : Value} (h : VR w X d v) (hd : d.isTup = false) : VR1 w X d v := by
 cases d <;> first | exact h | cases hd
theorem VR1.up {w : World} {X : Nat → Prop} {d : D} {v : Value} (h : VR1 w X d v) : VR w X d v := by
 cases d with
 | tup ds => exact absurd h (by simp [VR1, CR])
 | _ => exact h
theorem VR1.cells {w : World} {X : Nat → Prop} {d : D} {v : Value} (h : VR1 w X d v) : CR w X d v.cells.toList := by
 cases d with
 | arr k n l => obtain ⟨h1, rfl⟩ := h; simp [CR, Value.cells, h1]
 | st fs => obtain ⟨cs, rfl, hc⟩ := h; simpa [CR, Value.cells] using hc
 | val x =>
  have h' : CR w X (.val x) [v] := h
  have hcell := CR.cell _ _ h' v (by simp)
  cases v <;> first | exact h | cases hcell
 | ints k l =>
  have h' : CR w X (.ints k l) [v] := h
  have hcell := CR.cell _ _ h' v (by simp)
  cases v <;> first | exact h | cases hcell
 | slc sz xs =>
  have h' : CR w X (.slc sz xs) [v] := h
  have hcell := CR.cell _ _ h' v (by simp)
  cases v <;> first | exact h | cases hcell
 | tup ds => exact absurd h (by simp [VR1, CR])
 | str l =>
  have h' : CR w X (.str l) [v] := h
  have hcell := CR.cell _ _ h' v (by simp)
  cases v <;> first | exact h | cases hcell
 | ref x =>
  have h' : CR w X (.ref x) [v] := h
  have hcell := CR.cell _ _ h' v (by simp)
  cases v <;> first | exact h | cases hcell
 | clo f xs =>
  have h' : CR w X (.clo f xs) [v] := h
  have hcell := CR.cell _ _ h' v (by simp)
  cases v <;> first | exact h | cases hcell
theorem VR1.of_agg {w : World} {X : Nat → Prop} {d : D} {cs : List Value} (h : CR w X d cs) (ha : d.isAgg = true) : VR1 w X d (.agg cs.toArray) := by
 cases d with
 | arr k n l => simp only [CR] at h; obtain ⟨h1, rfl⟩ := h; exact ⟨h1, rfl⟩
 | st fs => simp only [CR] at h; exact ⟨cs, rfl, h⟩
 | _ => cases ha
theorem VR1.of_cell {w : World} {X : Nat → Prop} {d : D} {v : Value} (h : CR w X d [v]) (ha : d.isAgg = false) : VR1 w X d v := by
 cases d with
 | arr k n l => cases ha
 | st fs => cases ha
 | _ => exact h
end Go.Vg
namespace Go.Vg
def gls : List (Nat × D) := []
end Go.Vg
namespace Go.Vg
open Go Go.RowKit
inductive Sk where
 | one
 | arr (n : Nat)
 | st (fs : List Sk)
 deriving Inhabited
mutual
def sk : D → Sk
 | .arr _ n _ => .arr n
 | .st fs => .st (sks fs)
 | .val _ => .one
 | .ints _ _ => .one
 | .slc _ _ => .one
 | .tup _ => .one
 | .str _ => .one
 | .ref _ => .one
 | .clo _ _ => .one
def sks : List D → List Sk
 | [] => []
 | d :: ds => sk d :: sks ds
end
mutual
def Sk.size : Sk → Nat
 | .one => 1
 | .arr n => n
 | .st fs => Sk.sizes fs
def Sk.sizes : List Sk → Nat
 | [] => 0
 | d :: ds => d.size + Sk.sizes ds
end
def offS : Sk → List Nat → Nat
 | .st fs, i :: p => Sk.sizes (fs.take i) + offS (fs.getD i .one) p
 | .arr _, i :: _ => i
 | _, _ => 0
def subS : Sk → List Nat → Sk
 | s, [] => s
 | .st fs, i :: p => subS (fs.getD i .one) p
 | .arr _, _ :: _ => .one
 | .one, _ :: _ => .one
def numOf : D → Int
 | .val (.int _ n) => n
 | _ => 0
def getP : D → List Nat → D
 | d, [] => d
 | .st fs, i :: p => getP (fs.getD i default) p
 | .arr k _ l, i :: _ => .val (.int k (l.getD i 0))
 | d, _ :: _ => d
def setP : D → List Nat → D → D
 | _, [], x => x
 | .st fs, i :: p, x => .st (fs.set i (setP (fs.getD i default) p x))
 | .arr k n l, i :: _, x => .arr k n (l.set i (numOf x))
 | d, _ :: _, _ => d
def okP : D → List Nat → Prop
 | _, [] => True
 | .st fs, i :: p => i < fs.length ∧ okP (fs.getD i default) p
 | .arr _ n _, i :: p => i < n ∧ p = []
 | _, _ :: _ => False
def isIntK (k : IntKind) : D → Bool
 | .val (.int k' _) => decide (k' = k)
 | _ => false
def stP : D → List Nat → D → Prop
 | d, [], x => sk x = sk d
 | .st fs, i :: p, x => i < fs.length ∧ stP (fs.getD i default) p x
 | .arr k n _, i :: p, x => i < n ∧ p = [] ∧ isIntK k x = true
 | _, _ :: _, _ => False
mutual
theorem sk_size : ∀ d : D, d.isTup = false → (∀ vs w X, CR w X d vs → (sk d).size = vs.length)
 | .val _, _, vs, w, X, h => by simp only [CR] at h; simp [sk, Sk.size, h.1]
 | .arr _ n _, _, vs, w, X, h => by simp only [CR] at h; simp [sk, Sk.size, h.2, h.1]
 | .st fs, _, vs, w, X, h => by simp only [CR] at h; simp only [sk, Sk.size]; exact sks_size fs vs w X h
 | .ints _ _, _, vs, w, X, h => by simp only [CR] at h; obtain ⟨a, c, e, _⟩ := h; simp [sk, Sk.size, e]
 | .slc _ _, _, vs, w, X, h => by simp only [CR] at h; obtain ⟨a, c, cs, e, _⟩ := h; simp [sk, Sk.size, e]
 | .tup _, h, _, _, _, _ => by cases h
 | .str _, _, vs, w, X, h => by simp only [CR] at h; simp [sk, Sk.size, h.1]
 | .ref _, _, vs, w, X, h => by simp only [CR] at h; obtain ⟨β, o, cs, e, _⟩ := h; simp [sk, Sk.size, e]
 | .clo _ _, _, vs, w, X, h => by simp only [CR] at h; obtain ⟨ps, e, _⟩ := h; simp [sk, Sk.size, e]
theorem sks_size : ∀ (ds : List D) (vs : List Value) (w : World) (X : Nat → Prop), CRs w X ds vs → Sk.sizes (sks ds) = vs.length
 | [], vs, w, X, h => by simp only [CRs] at h; simp [sks, Sk.sizes, h]
 | d :: ds, vs, w, X, h => by
  simp only [CRs] at h
  obtain ⟨v1, v2, rfl, h1, h2⟩ := h
  have hd : d.isTup = false := by cases d <;> first | rfl | (simp only [CR] at h1)
  simp only [sks, Sk.sizes, List.length_append]
  rw [sk_size d hd v1 w X h1, sks_size ds v2 w X h2]
end
theorem CR.sklen {w : World} {X : Nat → Prop} {d : D} {vs : List Value} (h : CR w X d vs) : (sk d).size = vs.length := by
 have hd : d.isTup = false := by cases d <;> first | rfl | (simp only [CR] at h)
 exact sk_size d hd vs w X h
theorem sks_length : ∀ ds : List D, (sks ds).length = ds.length
 | [] => rfl
 | d :: ds => by simp [sks, sks_length ds]
theorem sks_getD : ∀ (ds : List D) (i : Nat), i < ds.length → (sks ds).getD i .one = sk (ds.getD i default)
 | [], i, h => by simp at h
 | d :: ds, 0, _ => by simp [sks]
 | d :: ds, i + 1, h => by
  have := sks_getD ds i (by simpa using h)
  simpa [sks] using this
theorem CRs.nth {w : World} {X : Nat → Prop} : ∀ (fs : List D) (vs : List Value) (i : Nat), CRs w X fs vs → i < fs.length →
  ∃ v1 v2 v3, vs = v1 ++ v2 ++ v3 ∧ v1.length = Sk.sizes ((sks fs).take i) ∧ CR w X (fs.getD i default) v2 ∧
   ∀ (x : D) (us : List Value), CR w X x us → CRs w X (fs.set i x) (v1 ++ us ++ v3)
 | [], _, i, _, h => by simp at h
 | d :: ds, vs, 0, hc, _ => by
  simp only [CRs] at hc
  obtain ⟨v1, v2, rfl, h1, h2⟩ := hc
  refine ⟨[], v1, v2, by simp, by simp [Sk.sizes], by simpa using h1, fun x us hx => ?_⟩
  simp only [List.set_cons_zero, CRs, List.nil_append]
  exact ⟨us, v2, rfl, hx, h2⟩
 | d :: ds, vs, i + 1, hc, h => by
  simp only [CRs] at hc
  obtain ⟨v1, v2, rfl, h1, h2⟩ := hc
  obtain ⟨u1, u2, u3, rfl, hl, hg, hs⟩ := CRs.nth ds v2 i h2 (by simpa using h)
  refine ⟨v1 ++ u1, u2, u3, by simp, ?_, by simpa using hg, fun x us hx => ?_⟩
  ·simp only [sks, List.take_succ_cons, Sk.sizes, List.length_append, hl, CR.sklen h1]
  ·simp only [List.set_cons_succ, CRs]
   exact ⟨v1, u1 ++ us ++ u3, by simp, h1, hs x us hx⟩
theorem getP_reads {w : World} {X : Nat → Prop} : ∀ (p : List Nat) (d : D) (vs : List Value), CR w X d vs → okP d p →
  ∃ v1 v2 v3, vs = v1 ++ v2 ++ v3 ∧ v1.length = offS (sk d) p ∧ CR w X (getP d p) v2
 | [], d, vs, h, _ => ⟨[], vs, [], by simp, by cases d <;> simp [sk, offS], by simpa [getP] using h⟩
 | i :: p, .st fs, vs, h, hok => by
  simp only [CR] at h
  obtain ⟨hi, hp⟩ := hok
  obtain ⟨v1, v2, v3, rfl, hl, hg, _⟩ := CRs.nth fs vs i h hi
  obtain ⟨u1, u2, u3, rfl, hl', hg'⟩ := getP_reads p _ v2 hg hp
  refine ⟨v1 ++ u1, u2, u3 ++ v3, by simp, ?_, by simpa [getP] using hg'⟩
  simp only [sk, offS, List.length_append, hl, hl', sks_getD fs i hi]
 | i :: p, .arr k n l, vs, h, hok => by
  simp only [CR] at h
  obtain ⟨hl, rfl⟩ := h
  obtain ⟨hi, rfl⟩ := hok
  have hi' : i < l.length := by omega
  refine ⟨(l.map (Value.int k)).take i, [Value.int k (l.getD i 0)], (l.map (Value.int k)).drop (i + 1), ?_, ?_, ?_⟩
  ·have e : (l.map (Value.int k))[i]? = some (Value.int k (l.getD i 0)) := by simp [List.getElem?_eq_getElem hi']
   have hlt : i < (l.map (Value.int k)).length := by simpa using hi'
   have e2 : (l.map (Value.int k))[i] = Value.int k (l.getD i 0) := by
    rw [List.getElem?_eq_getElem hlt] at e; exact Option.some.inj e
   rw [List.append_assoc, ← e2, List.singleton_append, List.getElem_cons_drop hlt, List.take_append_drop]
  ·simp [sk, offS]; omega
  ·simp [getP, CR, isCell]
 | i :: p, .val _, _, _, hok => hok.elim
 | i :: p, .ints _ _, _, _, hok => hok.elim
 | i :: p, .slc _ _, _, _, hok => hok.elim
 | i :: p, .tup _, _, _, hok => hok.elim
 | i :: p, .str _, _, _, hok => hok.elim
 | i :: p, .ref _, _, _, hok => hok.elim
 | i :: p, .clo _ _, _, _, hok => hok.elim
theorem isIntK_eq {k : IntKind} {x : D} (h : isIntK k x = true) : x = .val (.int k (numOf x)) := by
 unfold isIntK at h
 split at h
 ·simp at h; subst h; rfl
 ·cases h
theorem set_split {α : Type} (l : List α) (i : Nat) (x : α) (h : i < l.length) : l.set i x = l.take i ++ [x] ++ l.drop (i + 1) := by
 rw [List.set_eq_take_append_cons_drop, if_pos h]; simp
theorem setP_reads {w : World} {X : Nat → Prop} : ∀ (p : List Nat) (d x : D) (vs us : List Value), CR w X d vs → stP d p x → CR w X x us →
  ∃ v1 v2 v3, vs = v1 ++ v2 ++ v3 ∧ v1.length = offS (sk d) p ∧ v2.length = us.length ∧ CR w X (setP d p x) (v1 ++ us ++ v3)
 | [], d, x, vs, us, h, hok, hx => by
  refine ⟨[], vs, [], by simp, by cases d <;> simp [sk, offS], ?_, by simpa [setP] using hx⟩
  have : sk x = sk d := hok
  rw [← CR.sklen h, ← CR.sklen hx, this]
 | i :: p, .st fs, x, vs, us, h, hok, hx => by
  simp only [CR] at h
  obtain ⟨hi, hp⟩ := hok
  obtain ⟨v1, v2, v3, rfl, hl, hg, hs⟩ := CRs.nth fs vs i h hi
  obtain ⟨u1, u2, u3, rfl, hl', hll, hg'⟩ := setP_reads p _ x v2 us hg hp hx
  refine ⟨v1 ++ u1, u2, u3 ++ v3, by simp, ?_, hll, ?_⟩
  ·simp only [sk, offS, List.length_append, hl, hl', sks_getD fs i hi]
  ·have := hs _ _ hg'
   simp only [setP, CR]
   simpa [List.append_assoc] using this
 | i :: p, .arr k n l, x, vs, us, h, hok, hx => by
  simp only [CR] at h
  obtain ⟨hl, rfl⟩ := h
  obtain ⟨hi, rfl, hk⟩ := hok
  have hi' : i < l.length := by omega
  have hx' := isIntK_eq hk
  rw [hx'] at hx
  simp only [CR] at hx
  obtain ⟨rfl, _⟩ := hx
  have hlt : i < (l.map (Value.int k)).length := by simpa using hi'
  refine ⟨(l.map (Value.int k)).take i, [(l.map (Value.int k))[i]], (l.map (Value.int k)).drop (i + 1), ?_, ?_, by simp, ?_⟩
  ·rw [List.append_assoc, List.singleton_append, List.getElem_cons_drop hlt, List.take_append_drop]
  ·simp [sk, offS]; omega
  ·simp only [setP, CR, List.length_set]
   refine ⟨hl, ?_⟩
   rw [set_split l i _ hi']
   simp [List.map_take, List.map_drop]
 | i :: p, .val _, _, _, _, _, hok, _ => hok.elim
 | i :: p, .ints _ _, _, _, _, _, hok, _ => hok.elim
 | i :: p, .slc _ _, _, _, _, _, hok, _ => hok.elim
 | i :: p, .tup _, _, _, _, _, hok, _ => hok.elim
 | i :: p, .str _, _, _, _, _, hok, _ => hok.elim
 | i :: p, .ref _, _, _, _, _, hok, _ => hok.elim
 | i :: p, .clo _ _, _, _, _, _, hok, _ => hok.elim
theorem sks_set : ∀ (ds : List D) (i : Nat) (x : D), i < ds.length → sk x = sk (ds.getD i default) → sks (ds.set i x) = sks ds
 | [], i, _, h, _ => by simp at h
 | d :: ds, 0, x, _, h => by simp at h; simp [sks, h]
 | d :: ds, i + 1, x, h, hs => by
  simp only [List.set_cons_succ, sks]
  rw [sks_set ds i x (by simpa using h) (by simpa using hs)]
theorem sk_setP : ∀ (p : List Nat) (d x : D), stP d p x → sk (setP d p x) = sk d
 | [], d, x, h => by have h' : sk x = sk d := h; simpa [setP] using h'
 | i :: p, .st fs, x, h => by
  obtain ⟨hi, hp⟩ := h
  simp only [setP, sk]
  rw [sks_set fs i _ hi (sk_setP p _ x hp)]
 | i :: p, .arr k n l, x, h => by simp [setP, sk]
 | i :: p, .val _, _, h => h.elim
 | i :: p, .ints _ _, _, h => h.elim
 | i :: p, .slc _ _, _, h => h.elim
 | i :: p, .tup _, _, h => h.elim
 | i :: p, .str _, _, h => h.elim
 | i :: p, .ref _, _, h => h.elim
 | i :: p, .clo _ _, _, h => h.elim
theorem stP_same : ∀ (p : List Nat) (d x : D), okP d p → (∃ n k l, getP d p = .arr k n l ∧ sk x = .arr n) → stP d p x
 | [], d, x, _, ⟨n, k, l, h1, h2⟩ => by
  simp only [getP] at h1
  show sk x = sk d
  rw [h1, h2]; rfl
 | i :: p, .st fs, x, ⟨hi, hp⟩, h => ⟨hi, stP_same p _ x hp (by simpa only [getP] using h)⟩
 | i :: p, .arr _ _ _, _, _, ⟨_, _, _, h, _⟩ => by simp only [getP] at h; cases h
 | i :: p, .val _, _, h, _ => h.elim
 | i :: p, .ints _ _, _, h, _ => h.elim
 | i :: p, .slc _ _, _, h, _ => h.elim
 | i :: p, .tup _, _, h, _ => h.elim
 | i :: p, .str _, _, h, _ => h.elim
 | i :: p, .ref _, _, h, _ => h.elim
 | i :: p, .clo _ _, _, h, _ => h.elim
theorem offS_append : ∀ (p : List Nat) (s : Sk) (q : List Nat), (∀ i, i < p.length → True) → (q = [] ∨ subS s p ≠ .one) → offS s (p ++ q) = offS s p + offS (subS s p) q
 | [], s, q, _, _ => by simp only [List.nil_append, subS]; cases s <;> simp [offS]
 | i :: p, .st fs, q, _, hq => by
  simp only [List.cons_append, offS, subS]
  rw [offS_append p _ q (fun _ _ => trivial) (by simpa [subS] using hq)]
  omega
 | i :: p, .arr n, q, _, hq => by
  rcases hq with rfl | hq
  ·simp only [List.append_nil, subS]; simp [offS]
  ·exact absurd rfl hq
 | i :: p, .one, q, _, hq => by
  rcases hq with rfl | hq
  ·simp only [List.append_nil, subS]; simp [offS]
  ·exact absurd rfl hq
theorem subS_getP : ∀ (p : List Nat) (d : D), okP d p → subS (sk d) p = sk (getP d p)
 | [], d, _ => by simp [subS, getP]
 | i :: p, .st fs, h => by
  obtain ⟨hi, hp⟩ := h
  simp only [sk, subS, getP]
  rw [sks_getD fs i hi]
  exact subS_getP p _ hp
 | i :: p, .arr k n l, h => by simp [sk, subS, getP]
 | i :: p, .val _, h => h.elim
 | i :: p, .ints _ _, h => h.elim
 | i :: p, .slc _ _, h => h.elim
 | i :: p, .tup _, h => h.elim
 | i :: p, .str _, h => h.elim
 | i :: p, .ref _, h => h.elim
 | i :: p, .clo _ _, h => h.elim
end Go.Vg
namespace Go.Vg
open Go Go.RowKit
inductive AV where
 | d (x : D)
 | any
 | ptr (b : Nat) (p : List Nat)
 | own (b : Nat) (p : List Nat) (off len cap : Nat)
 | row (b : Nat)
 | dat (x : D)
 | bq (p q : Prop)
 | rpt (b i : Nat) (n : Option Nat)
 | tpl (b : Nat) (rs : List D)
 | tpr (b : Nat) (rs : List D)
 | lp (b : Nat) (p : List Nat)
 | sub (b : Nat) (p : List Nat) (off n : Nat)
 deriving Inhabited
inductive Blk where
 | fix (x : D)
 | row (e : TypeId) (x : D)
 /-- a struct in whose field i lies the slice of row q (or who knows what) -/
 | lnk (fs : List D) (i : Nat) (q : Option Nat)
 deriving Inhabited
abbrev Mem := List (Nat × Blk)
def look : Mem → Nat → Option Blk
 | [], _ => none
 | (k, x) :: m, b => bif Nat.beq k b then some x else look m b
def putM : Mem → Nat → Blk → Mem
 | [], b, x => [(b, x)]
 | (k, y) :: m, b, x => bif Nat.beq k b then (k, x) :: m else bif Nat.blt b k then (b, x) :: (k, y) :: m else (k, y) :: putM m b x
def dropM : Mem → Nat → Mem
 | [], _ => []
 | (k, y) :: m, b => bif Nat.beq k b then dropM m b else (k, y) :: dropM m b
theorem beq_cases (a b : Nat) : (Nat.beq a b = true ∧ a = b) ∨ (Nat.beq a b = false ∧ a ≠ b) := by
 by_cases h : a = b
 ·exact .inl ⟨by rw [h]; exact Nat.beq_refl b, h⟩
 ·exact .inr ⟨by cases e : Nat.beq a b with
   | false => rfl
   | true => exact absurd (Nat.eq_of_beq_eq_true e) h, h⟩
theorem look_put (m : Mem) (b : Nat) (x : Blk) (c : Nat) : look (putM m b x) c = if c = b then some x else look m c := by
 induction m with
 | nil =>
  simp only [putM, look]
  rcases beq_cases b c with ⟨h, rfl⟩ | ⟨h, hn⟩
  ·simp [h]
  ·simp [h, Ne.symm hn]
 | cons y m ih =>
  obtain ⟨k, y⟩ := y
  simp only [putM]
  rcases beq_cases k b with ⟨h, rfl⟩ | ⟨h, hn⟩
  ·simp only [h, cond_true, look]
   rcases beq_cases k c with ⟨h', rfl⟩ | ⟨h', hn'⟩
   ·simp [h']
   ·simp [h', Ne.symm hn']
  ·cases hlt : Nat.blt b k with
   | true =>
    simp only [h, cond_false, cond_true, look]
    rcases beq_cases b c with ⟨h', rfl⟩ | ⟨h', hn'⟩
    ·simp [h']
    ·simp [h', Ne.symm hn']
   | false =>
    simp only [h, cond_false, look, ih]
    rcases beq_cases k c with ⟨h', rfl⟩ | ⟨h', hn'⟩
    ·simp [h', hn]
    ·simp [h']
theorem blt_spec (a b : Nat) : (Nat.blt a b = true ∧ a < b) ∨ (Nat.blt a b = false ∧ b ≤ a) := by
 cases h : Nat.blt a b with
 | true => exact .inl ⟨rfl, by simpa [Nat.blt_eq] using h⟩
 | false => exact .inr ⟨rfl, by
   rcases Nat.lt_or_ge a b with h2 | h2
   ·rw [show Nat.blt a b = true by rw [Nat.blt_eq]; exact h2] at h; cases h
   ·exact h2⟩
theorem putM_comm {b c : Nat} (hne : b ≠ c) (x y : Blk) : ∀ {m : Mem}, look m b = none → look m c = none → putM (putM m b x) c y = putM (putM m c y) b x := by
 have bb : ∀ n : Nat, Nat.beq n n = true := Nat.beq_refl
 have bn : ∀ {n k : Nat}, n ≠ k → Nat.beq n k = false := fun {n k} h => by
  rcases beq_cases n k with ⟨_, e⟩ | ⟨e, _⟩
  ·exact absurd e h
  ·exact e
 intro m
 induction m with
 | nil =>
  intro _ _
  simp only [putM, bn hne, bn hne.symm, cond_false]
  rcases blt_spec c b with ⟨h1, h2⟩ | ⟨h1, h2⟩ <;> rcases blt_spec b c with ⟨h3, h4⟩ | ⟨h3, h4⟩ <;> simp only [h1, h3, cond_true, cond_false, putM] <;> omega
 | cons z m ih =>
  obtain ⟨k, z⟩ := z
  intro hb hc
  have kb : k ≠ b := fun e => by subst e; simp only [look, bb, cond_true] at hb; cases hb
  have kc : k ≠ c := fun e => by subst e; simp only [look, bb, cond_true] at hc; cases hc
  simp only [look, bn kb, cond_false] at hb
  simp only [look, bn kc, cond_false] at hc
  have ih := ih hb hc
  rcases blt_spec b k with ⟨h1, h2⟩ | ⟨h1, h2⟩ <;> rcases blt_spec c k with ⟨h3, h4⟩ | ⟨h3, h4⟩ <;>
   rcases blt_spec b c with ⟨h5, h6⟩ | ⟨h5, h6⟩ <;> rcases blt_spec c b with ⟨h7, h8⟩ | ⟨h7, h8⟩ <;>
   first
   | (exfalso; omega)
   | (simp only [putM, bn kb, bn kc, bn hne, bn hne.symm, h1, h3, h5, h7, cond_true, cond_false]; done)
   | (simp only [putM, bn kb, bn kc, bn hne, bn hne.symm, h1, h3, h5, h7, cond_true, cond_false, ih]; done)
theorem look_drop (m : Mem) (b c : Nat) : look (dropM m b) c = if c = b then none else look m c := by
 induction m with
 | nil => simp [dropM, look]
 | cons y m ih =>
  obtain ⟨k, y⟩ := y
  simp only [dropM]
  rcases beq_cases k b with ⟨h, rfl⟩ | ⟨h, hn⟩
  ·simp only [h, cond_true, ih, look]
   rcases beq_cases k c with ⟨h', rfl⟩ | ⟨h', hn'⟩
   ·simp
   ·simp [h', Ne.symm hn']
  ·simp only [h, cond_false, look, ih]
   rcases beq_cases k c with ⟨h', rfl⟩ | ⟨h', hn'⟩
   ·simp [h', hn]
   ·simp [h']
structure St where
 T : List AV
 M : Mem
def St.put (s : St) (dst : Option Nat) (x : AV) : St :=
 match dst with
 | some d => ⟨s.T.set d x, s.M⟩
 | none => s
structure Sg where
 blk : Nat → Option Nat
 rv : Nat → Value
 ok : Nat → Prop
def Xs (σ : Sg) (M : Mem) (w : World) : Nat → Prop := fun β => β < w.heap.size ∧ σ.ok β ∧ ∀ b x, look M b = some x → σ.blk b ≠ some β
def rsz : D → Nat
 | .slc sz _ => sz
 | _ => 1
def RP (rv : Value) (sz i : Nat) : Option Nat → Value → Prop
 | none, v => ∃ g n cap, rv = .slice (some ⟨g, 0, none⟩) n cap ∧ v = .pointer (some ⟨g, i * sz, none⟩)
 | some len, v => ∃ α c, v = .slice α len c ∧ len ≤ c ∧ (len ≠ 0 → ∃ g n cap, rv = .slice (some ⟨g, 0, none⟩) n cap ∧ i + len ≤ n ∧ α = some ⟨g, i * sz, none⟩)
def AR (σ : Sg) (M : Mem) (w : World) (X : Nat → Prop) : AV → Value → Prop
 | .d x, v => VR w X x v
 | .any, _ => True
 | .ptr b p, v => ∃ x β, look M b = some (.fix x) ∧ σ.blk b = some β ∧ okP x p ∧ v = .pointer (some ⟨β, offS (sk x) p, none⟩)
 | .own b p off len cap, v => ∃ x β k n l α, look M b = some (.fix x) ∧ σ.blk b = some β ∧ okP x p ∧ getP x p = .arr k n l ∧ off + cap ≤ n ∧ len ≤ cap ∧
   v = .slice (some α) len cap ∧ (0 < cap → α = ⟨β, offS (sk x) p + off, none⟩)
 | .row b, v => ∃ e x, look M b = some (.row e x) ∧ v = σ.rv b
 | .bq p q, v => ∃ b, v = .bool b ∧ (b = true → p) ∧ (b = false → q)
 | .rpt b i n, v => ∃ e x, look M b = some (.row e x) ∧ RP (σ.rv b) (rsz x) i n v
 | .tpl b rs, v => ∃ x β vs, look M b = some (.fix x) ∧ σ.blk b = some β ∧ v = .tuple (Value.pointer (some ⟨β, 0, none⟩) :: vs).toArray ∧ All2 (VR w X) rs vs
 | .dat x, v => ∃ β o cs, v = .pointer (some ⟨β, o, none⟩) ∧ X β ∧ CR w X x cs ∧ ∀ (j : Nat) (u : Value), cs[j]? = some u → w.cell? ⟨β, o + j, none⟩ = some u
 | .tpr b rs, v => ∃ e x vs, look M b = some (.row e x) ∧ v = .tuple (σ.rv b :: vs).toArray ∧ All2 (VR w X) rs vs
 | .lp b p, v => ∃ fs i q β, look M b = some (.lnk fs i q) ∧ σ.blk b = some β ∧ okP (.st fs) p ∧ v = .pointer (some ⟨β, offS (sk (.st fs)) p, none⟩)
 | .sub b p off n, v => ∃ x β k m l, look M b = some (.fix x) ∧ σ.blk b = some β ∧ okP x p ∧ getP x p = .arr k m l ∧ off + n ≤ m ∧ v = .pointer (some ⟨β, offS (sk x) p + off, none⟩)
def RowC (w : World) (X : Nat → Prop) : D → Nat → Nat → List Value → Prop
 | .ints k l, sz, n, cs => sz = 1 ∧ n = l.length ∧ cs = l.map (Value.int k)
 | .slc s xs, sz, n, cs => sz = s ∧ 0 < s ∧ n = xs.length ∧ ER w X s xs cs
 | _, _, _, _ => False
structure Frm (F : Nat → Prop) (w0 w : World) : Prop where
 os : w.os = w0.os
 tape : w.tape = w0.tape
 output : w.output = w0.output
 size : w0.heap.size ≤ w.heap.size
 block : ∀ k, k < w0.heap.size → ¬ F k → w.heap[k]? = w0.heap[k]?
def RB (w0 : World) (F : Nat → Nat → Prop) (b : Nat) (v : Value) : Prop := ∀ g, v.ownBlock = some g → w0.heap.size ≤ g ∨ 1000 ≤ b ∧ F b g
def BR (σ : Sg) (w0 : World) (F : Nat → Nat → Prop) (w : World) (X : Nat → Prop) (b : Nat) : Blk → Prop
 | .fix x => ∃ β cs e, σ.blk b = some β ∧ (b < 1000 ∧ w0.heap.size ≤ β ∨ 1000 ≤ b ∧ F b β) ∧ w.heap[β]? = some (.cells (List.toArray cs) e (0, 0)) ∧ CR w X x cs
 | .row e x => ∃ cs sz n, σ.blk b = (σ.rv b).ownBlock ∧ w.ownsRow 0 e sz (σ.rv b) n cs ∧ RowC w X x sz n cs ∧ RB w0 F b (σ.rv b)
 | .lnk fs i q => i < fs.length ∧ sk (fs.getD i default) = .one ∧ ∃ u, isCell u = true ∧ (∀ r, q = some r → u = σ.rv r) ∧
   ∃ β cs e, σ.blk b = some β ∧ (b < 1000 ∧ w0.heap.size ≤ β ∨ 1000 ≤ b ∧ F b β) ∧ w.heap[β]? = some (.cells (List.toArray cs) e (0, 0)) ∧ CR w X (.st (fs.set i (.val u))) cs
structure Env where
 F : Nat → Nat → Prop
 ok : Nat → Prop
def Env.any (F : Env) : Nat → Prop := fun k => ∃ b, F.F b k
def lookG : List (Nat × D) → Nat → Option D
 | [], _ => none
 | (k, d) :: l, g => bif Nat.beq k g then some d else lookG l g
def GW (w : World) (X : Nat → Prop) : Prop := ∀ g d, lookG gls g = some d → g < w.heap.size ∧ X g ∧ ∃ cs, (∀ w' X', CR w' X' d cs) ∧ ∀ (j : Nat) (u : Value), cs[j]? = some u → w.cell? ⟨g, j, none⟩ = some u
theorem GW.mono {w : World} {X X' : Nat → Prop} (h : ∀ β, X β → β < w.heap.size → X' β) (hg : GW w X) : GW w X' := fun g d hd => ⟨(hg g d hd).1, h g (hg g d hd).2.1 (hg g d hd).1, (hg g d hd).2.2⟩
def Lks (M : Mem) : Prop := ∀ b fs i r, look M b = some (.lnk fs i (some r)) → ∃ e x, look M r = some (.row e x)
def isRowK : Blk → Bool
 | .row _ _ => true
 | _ => false
def isLnkK : Blk → Bool
 | .lnk _ _ _ => true
 | _ => false
theorem Lks.put {M : Mem} (h : Lks M) {b : Nat} {k : Blk} (hk : isLnkK k = false) (hb : isRowK k = true ∨ ∀ e x, look M b ≠ some (.row e x)) : Lks (putM M b k) := by
 intro c fs i r hc
 rw [look_put] at hc
 split at hc
 ·obtain rfl := Option.some.inj hc
  cases hk
 ·obtain ⟨e, x, hr⟩ := h c fs i r hc
  rw [look_put]
  split
  ·rename_i hrb
   rcases hb with hb | hb
   ·cases k with
    | row e x => exact ⟨e, x, rfl⟩
    | _ => cases hb
   ·rw [hrb] at hr
    exact absurd hr (hb e x)
  ·exact ⟨e, x, hr⟩
theorem Lks.put_lnk {M : Mem} (h : Lks M) {b : Nat} {fs : List D} {i : Nat} {q : Option Nat} (hq : ∀ r, q = some r → r ≠ b ∧ ∃ e x, look M r = some (.row e x)) (hb : ∀ e x, look M b ≠ some (.row e x)) : Lks (putM M b (.lnk fs i q)) := by
 intro c fs' i' r hc
 rw [look_put] at hc
 have key : r ≠ b → (∃ e x, look M r = some (.row e x)) → ∃ e x, look (putM M b (.lnk fs i q)) r = some (.row e x) := by
  rintro h1 ⟨e, x, h2⟩
  exact ⟨e, x, by rw [look_put, if_neg h1]; exact h2⟩
 split at hc
 ·have hc := Option.some.inj hc
  obtain ⟨-, -, rfl⟩ := Blk.lnk.inj hc
  obtain ⟨h1, h2⟩ := hq r rfl
  exact key h1 h2
 ·obtain ⟨e, x, hr⟩ := h c fs' i' r hc
  exact key (fun e' => by rw [e'] at hr; exact hb _ _ hr) ⟨e, x, hr⟩
structure Rel (w0 : World) (F : Env) (σ : Sg) (s : St) (a : Act) (w : World) : Prop where
 defs : a.defers = []
 len : a.tmps.size = s.T.length
 tmp : ∀ (i : Nat) (x : AV), s.T[i]? = some x → ∃ v, a.tmps[i]? = some v ∧ AR σ s.M w (Xs σ s.M w) x v
 mem : ∀ b k, look s.M b = some k → BR σ w0 F.F w (Xs σ s.M w) b k
 inj : ∀ b b' k k' β, look s.M b = some k → look s.M b' = some k' → σ.blk b = some β → σ.blk b' = some β → b = b'
 lk : Lks s.M
 frm : Frm F.any w0 w
 okn : (∀ β, w0.heap.size ≤ β → σ.ok β) ∧ σ.ok = F.ok ∧ GW w0 F.ok ∧ ∀ g d, lookG gls g = some d → ∀ b, ¬ F.F b g
theorem Rel.gw {w0 : World} {F : Env} {σ : Sg} {s : St} {a : Act} {w : World} (r : Rel w0 F σ s a w) : GW w (Xs σ s.M w) := by
 intro g d hd
 obtain ⟨_, h2, h3, h4⟩ := r.okn
 obtain ⟨g1, g2, cs, g3, g4⟩ := h3 g d hd
 have hlt := Nat.lt_of_lt_of_le g1 r.frm.size
 refine ⟨hlt, ⟨hlt, by rw [h2]; exact g2, fun b x hb hσ => ?_⟩, cs, g3, fun j u hu => ?_⟩
 ·have hm := r.mem b x hb
  cases x with
  | fix z =>
   obtain ⟨β, _, _, q1, q2, _⟩ := hm
   rw [hσ] at q1
   obtain rfl := Option.some.inj q1
   rcases q2 with q2 | q2
   ·omega
   ·exact h4 g d hd _ q2.2
  | row e z =>
   obtain ⟨_, _, _, q1, _, _, q2⟩ := hm
   rw [hσ] at q1
   rcases q2 g q1.symm with q2 | q2
   ·omega
   ·exact h4 g d hd _ q2.2
  | lnk fs i q =>
   obtain ⟨_, _, _, _, _, β, _, _, q1, q2, _⟩ := hm
   rw [hσ] at q1
   obtain rfl := Option.some.inj q1
   rcases q2 with q2 | q2
   ·omega
   ·exact h4 g d hd _ q2.2
 ·rw [World.cell?_of_block (w := w0) (r.frm.block g g1 (fun ⟨b, h⟩ => h4 g d hd b h))]
  exact g4 j u hu
theorem AR.mono {σ : Sg} {M : Mem} {w w' : World} {X X' : Nat → Prop} (h : ∀ β, X β → X' β ∧ w'.heap[β]? = w.heap[β]?) (x : AV) (v : Value) (hv : AR σ M w X x v) : AR σ M w' X' x v := by
 cases x with
 | d x => exact VR.mono h x v hv
 | any => trivial
 | ptr b p => exact hv
 | own b p o l c => exact hv
 | row b => exact hv
 | bq p q => exact hv
 | rpt b i n => exact hv
 | lp b p => exact hv
 | sub b p o n => exact hv
 | tpl b rs =>
  obtain ⟨z, β, vs, h1, h2, h3, h4⟩ := hv
  exact ⟨z, β, vs, h1, h2, h3, h4.mono fun d u hu => VR.mono h d u hu⟩
 | tpr b rs =>
  obtain ⟨e, z, vs, h1, h2, h3⟩ := hv
  exact ⟨e, z, vs, h1, h2, h3.mono fun d u hu => VR.mono h d u hu⟩
 | dat x =>
  obtain ⟨β, o, cs, e, hx, hc, hr⟩ := hv
  refine ⟨β, o, cs, e, (h β hx).1, CR.mono h x cs hc, fun j u hu => ?_⟩
  rw [World.cell?_of_block (w := w) (h β hx).2]
  exact hr j u hu
theorem RowC.mono {w w' : World} {X X' : Nat → Prop} (h : ∀ β, X β → X' β ∧ w'.heap[β]? = w.heap[β]?) {x : D} {sz n : Nat} {cs : List Value} (hv : RowC w X x sz n cs) : RowC w' X' x sz n cs := by
 cases x with
 | ints k l => exact hv
 | slc s xs => exact ⟨hv.1, hv.2.1, hv.2.2.1, ER.mono h s xs cs hv.2.2.2⟩
 | _ => exact hv.elim
theorem RowC.len {w : World} {X : Nat → Prop} {x : D} {sz n : Nat} {cs : List Value} (hv : RowC w X x sz n cs) : cs.length = n * sz := by
 cases x with
 | ints k l => obtain ⟨rfl, rfl, rfl⟩ := hv; simp
 | slc s xs => obtain ⟨rfl, _, rfl, h⟩ := hv; exact ER.len xs cs h
 | _ => exact hv.elim
theorem ER.cell {w : World} {X : Nat → Prop} {sz : Nat} : ∀ (ds : List D) (vs : List Value), ER w X sz ds vs → ∀ v ∈ vs, isCell v = true
 | [], _, hc => by simp only [ER] at hc; simp [hc]
 | d :: ds, _, hc => by
  simp only [ER] at hc
  obtain ⟨v1, v2, rfl, _, h1, h2⟩ := hc
  intro v hv
  rcases List.mem_append.1 hv with h | h
  ·exact CR.cell d v1 h1 v h
  ·exact ER.cell ds v2 h2 v h
theorem RowC.cell {w : World} {X : Nat → Prop} {x : D} {sz n : Nat} {cs : List Value} (hv : RowC w X x sz n cs) : ∀ v ∈ cs, isCell v = true := by
 cases x with
 | ints k l =>
  obtain ⟨rfl, rfl, rfl⟩ := hv
  intro v hv
  obtain ⟨x, _, rfl⟩ := List.mem_map.1 hv
  rfl
 | slc s xs => obtain ⟨rfl, _, rfl, h⟩ := hv; exact ER.cell xs cs h
 | _ => exact hv.elim
theorem Frm.mono {F G : Nat → Prop} {a b : World} (h : Frm F a b) (hFG : ∀ k, F k → G k) : Frm G a b := ⟨h.os, h.tape, h.output, h.size, fun k hk hG => h.block k hk (fun hF => hG (hFG k hF))⟩
theorem Frm.refl (F : Nat → Prop) (w : World) : Frm F w w := ⟨rfl, rfl, rfl, Nat.le_refl _, fun _ _ _ => rfl⟩
theorem Frm.trans {F : Nat → Prop} {a b c : World} (h : Frm F a b) (k : Frm F b c) : Frm F a c :=
 ⟨k.os.trans h.os, k.tape.trans h.tape, k.output.trans h.output, Nat.le_trans h.size k.size, fun i hi hF => (k.block i (Nat.lt_of_lt_of_le hi h.size) hF).trans (h.block i hi hF)⟩
structure Grow (w w' : World) : Prop where
 os : w'.os = w.os
 tape : w'.tape = w.tape
 output : w'.output = w.output
 size : w.heap.size ≤ w'.heap.size
 block : ∀ k, k < w.heap.size → w'.heap[k]? = w.heap[k]?
theorem Grow.refl (w : World) : Grow w w := ⟨rfl, rfl, rfl, Nat.le_refl _, fun _ _ => rfl⟩
theorem Grow.trans {a b c : World} (h : Grow a b) (k : Grow b c) : Grow a c :=
 ⟨k.os.trans h.os, k.tape.trans h.tape, k.output.trans h.output, Nat.le_trans h.size k.size, fun i hi => (k.block i (Nat.lt_of_lt_of_le hi h.size)).trans (h.block i hi)⟩
theorem Grow.frm {w w' : World} (h : Grow w w') (F : Nat → Prop) : Frm F w w' := ⟨h.os, h.tape, h.output, h.size, fun k hk _ => h.block k hk⟩
theorem Grow.alloc (w : World) (o : Obj) : Grow w (w.alloc o) := ⟨rfl, rfl, rfl, by simp, fun k hk => Below.heap_alloc _ _ _ hk⟩
theorem Grow.drew (w : World) : Grow w w.drew := ⟨rfl, rfl, rfl, Nat.le_refl _, fun _ _ => rfl⟩
theorem Xs.grow {σ : Sg} {M : Mem} {w w' : World} (h : Grow w w') : ∀ β, Xs σ M w β → Xs σ M w' β ∧ w'.heap[β]? = w.heap[β]? :=
 fun β hβ => ⟨⟨Nat.lt_of_lt_of_le hβ.1 h.size, hβ.2⟩, h.block β hβ.1⟩
theorem block_lt {w : World} {β : Nat} {o : Obj} (h : w.heap[β]? = some o) : β < w.heap.size := (Array.getElem?_eq_some_iff.1 h).1
theorem ownsRow_grow {w w' : World} (h : Grow w w') {B : Nat} {e : TypeId} {sz : Nat} {v : Value} {n : Nat} {cs : List Value} (ho : w.ownsRow B e sz v n cs) : w'.ownsRow B e sz v n cs := by
 refine ⟨ho.1, ?_⟩
 rcases ho.2 with ho | ⟨g, cap, cur, hv, hg, hh, r⟩
 ·exact .inl ho
 ·exact .inr ⟨g, cap, cur, hv, hg, by rw [h.block g (block_lt hh)]; exact hh, r⟩
theorem BR.grow {σ : Sg} {w0 : World} {F : Nat → Nat → Prop} {w w' : World} {M : Mem} (h : Grow w w') {b : Nat} {k : Blk} (hb : BR σ w0 F w (Xs σ M w) b k) : BR σ w0 F w' (Xs σ M w') b k := by
 cases k with
 | fix x =>
  obtain ⟨β, cs, e, h1, h2, h3, h4⟩ := hb
  exact ⟨β, cs, e, h1, h2, by rw [h.block β (block_lt h3)]; exact h3, CR.mono (Xs.grow h) x cs h4⟩
 | row e x =>
  obtain ⟨cs, sz, n, h1, h2, h3, h4⟩ := hb
  exact ⟨cs, sz, n, h1, ownsRow_grow h h2, h3.mono (Xs.grow h), h4⟩
 | lnk fs i q =>
  obtain ⟨g1, g2, u, g3, g4, β, cs, e, h1, h2, h3, h4⟩ := hb
  exact ⟨g1, g2, u, g3, g4, β, cs, e, h1, h2, by rw [h.block β (block_lt h3)]; exact h3, CR.mono (Xs.grow h) _ cs h4⟩
theorem Rel.grow {w0 : World} {F : Env} {σ : Sg} {s : St} {a : Act} {w w' : World} (r : Rel w0 F σ s a w) (h : Grow w w') : Rel w0 F σ s a w' :=
 ⟨r.defs, r.len, fun i x hx => by
  obtain ⟨v, hv, ha⟩ := r.tmp i x hx
  exact ⟨v, hv, AR.mono (Xs.grow h) x v ha⟩, fun b k hk => (r.mem b k hk).grow h, r.inj, r.lk, r.frm.trans (h.frm F.any), r.okn⟩
theorem getElem?_set_cases {α : Type} (l : List α) (d i : Nat) (x y : α) (h : (l.set d x)[i]? = some y) : (i = d ∧ y = x ∧ i < l.length) ∨ (i ≠ d ∧ l[i]? = some y) := by
 rw [List.getElem?_set] at h
 split at h
 ·rename_i hd
  subst hd
  split at h
  ·exact .inl ⟨rfl, (Option.some.inj h).symm, by assumption⟩
  ·cases h
 ·rename_i hd
  exact .inr ⟨fun e => hd e.symm, h⟩
theorem Rel.put {w0 : World} {F : Env} {σ : Sg} {s : St} {a : Act} {w : World} (r : Rel w0 F σ s a w) (dst : Option Nat) {x : AV} {v : Value} (hx : AR σ s.M w (Xs σ s.M w) x v) :
  Rel w0 F σ (s.put dst x) (a.put dst v) w := by
 cases dst with
 | none => exact r
 | some d =>
  refine ⟨r.defs, by simp [Act.put, St.put, r.len], fun i y hy => ?_, r.mem, r.inj, r.lk, r.frm, r.okn⟩
  simp only [Act.put]
  rcases getElem?_set_cases _ _ _ _ _ hy with ⟨rfl, rfl, hl⟩ | ⟨hne, hy⟩
  ·exact ⟨v, by simp [Array.getElem?_setIfInBounds, r.len, hl], hx⟩
  ·obtain ⟨u, hu, ha⟩ := r.tmp i y hy
   exact ⟨u, by rw [Array.getElem?_setIfInBounds_ne (Ne.symm hne)]; exact hu, ha⟩
end Go.Vg
namespace Go.Vg
open Go Go.RowKit
@[reducible] def sm {α : Sort _} (a : α) : Prop := a = a
inductive Ty where
 | int (k : IntKind) | bool | str
 | slice (e : TypeId) | arr (n : Nat) (e : TypeId) | ptr (e : TypeId)
 | st (fs : List (Nat × TypeId))
 | other
 deriving Inhabited
structure TI where
 ty : Ty
 size : Nat
 bytes : Nat
 zero : D
 eq : Bool
instance : Inhabited TI := ⟨⟨.other, 0, 0, default, false⟩⟩
abbrev Tab := List TI
def tg (tab : Tab) (t : TypeId) : TI := tab.getD t default
def Ty.agg : Ty → Bool
 | .arr _ _ | .st _ => true
 | _ => false
structure Spec where
 pre : List D → Prop
 f : List D → D
 flat : Bool
 ps : List TypeId
structure Ctx where
 tab : Tab
 G : FuncId → Option Spec
 /-- slots whose slice literal, or whose call's result, is a row that grows -/
 rows : List Nat
 /-- calls (by their slot) that take the call's own blocks for good -/
 frz : List Nat
structure Res where
 c : Prop
 v : AV
 M : Mem
def fail (M : Mem) : Res := ⟨False, .any, M⟩
def ok (v : D) (M : Mem) : Res := ⟨True, .d v, M⟩
def okIf (c : Prop) (v : D) (M : Mem) : Res := ⟨c, .d v, M⟩
def ints (s : ByteArray) : List Int := s.data.toList.map fun b => (b.toNat : Int)
def cAV : Value → AV
 | .agg _ => .any
 | .tuple _ => .any
 | .string s => .d (.str (ints s))
 | v => .d (.val v)
def evA (T : List AV) : Operand → AV
 | .tmp t => T.getD t .any
 | .const v => cAV v
 | .global g => match lookG gls g with
  | some d => .dat d
  | none => .any
 | .func f => .d (.val (.func (.func f) #[] #[]))
def castD (tab : Tab) (t : TypeId) : D → D
 | .val (.slice none 0 0) => match (tg tab t).ty with
  | .slice e => match (tg tab e).ty with
   | .int k => .ints k []
   | _ => .slc (tg tab e).size []
  | _ => .val (.slice none 0 0)
 | d => d
def toD (M : Mem) : AV → Option D
 | .d x => some x
 | .row b => match look M b with
  | some (.row _ x) => some x
  | _ => none
 | .own b p off len _ => match look M b with
  | some (.fix x) => match getP x p with
   | .arr k _ l => some (.ints k ((l.drop off).take len))
   | _ => none
  | _ => none
 | .rpt b i (some n) => match look M b with
  | some (.row _ (.ints k l)) => some (.ints k ((l.drop i).take n))
  | some (.row _ (.slc sz xs)) => some (.slc sz ((xs.drop i).take n))
  | _ => none
 | .dat x => some (.ref x)
 | .ptr b p => match look M b with
  | some (.fix x) => some (.ref (getP x p))
  | _ => none
 | .lp b p => match p, look M b with
  | [], some (.lnk fs i (some r)) => match look M r with
   | some (.row _ z) => some (.ref (.st (fs.set i z)))
   | _ => none
  | _, _ => none
 | _ => none
def rlen : D → Nat
 | .ints _ l => l.length
 | .slc _ xs => xs.length
 | _ => 0
def unref : AV → AV
 | .d (.ref x) => .dat x
 | a => a
def reref : AV → AV
 | .dat x => .d (.ref x)
 | a => a
def capD : List AV → Option (List D)
 | [] => some []
 | a :: as => match reref a with
  | .d x => bif Nat.beq (sk x).size 1 && !x.isAgg && !x.isTup then
    (match capD as with
     | some xs => some (x :: xs)
     | none => none)
   else none
  | _ => none
def boolOf : D → Bool
 | .val (.bool b) => b
 | _ => false
def strOf : D → List Int
 | .str l => l
 | _ => []
def intsOf : D → List Int
 | .ints _ l => l
 | _ => []
def arrOf : D → List Int
 | .arr _ _ l => l
 | _ => []
def xsOf : D → List D
 | .slc _ xs => xs
 | _ => []
def fldOf : D → Nat → D
 | .st fs, i => fs.getD i default
 | _, _ => default
def shp (tab : Tab) : Nat → TypeId → D → D
 | 0, _, d => d
 | n + 1, t, d => match (tg tab t).ty with
  | .int k => .val (.int k (numOf d))
  | .bool => .val (.bool (boolOf d))
  | .str => .str (strOf d)
  | .slice e => match (tg tab e).ty with
   | .int k => .ints k (intsOf d)
   | _ => .slc (tg tab e).size (xsOf d)
  | .arr m e => match (tg tab e).ty with
   | .int k => .arr k m (arrOf d)
   | _ => d
  | .st fs => .st (fs.zipIdx.map fun p => shp tab n p.1.2 (fldOf d p.2))
  | _ => d
def iand (k : IntKind) (x y : Int) : Int := k.wrap (BitVec.ofInt k.bits x &&& BitVec.ofInt k.bits y).toNat
def ior (k : IntKind) (x y : Int) : Int := k.wrap (BitVec.ofInt k.bits x ||| BitVec.ofInt k.bits y).toNat
def ixor (k : IntKind) (x y : Int) : Int := k.wrap (BitVec.ofInt k.bits x ^^^ BitVec.ofInt k.bits y).toNat
def iandn (k : IntKind) (x y : Int) : Int := k.wrap (BitVec.ofInt k.bits x &&& ~~~BitVec.ofInt k.bits y).toNat
def ishl (k : IntKind) (x y : Int) : Int := k.wrap (x * 2 ^ (min y.toNat k.bits))
def ishr (k : IntKind) (x y : Int) : Int := x.fdiv (2 ^ (min y.toNat k.bits))
noncomputable def eqB (l m : List Int) : Bool := @decide (l = m) (Classical.propDecidable _)
theorem eqB_eq (l m : List Int) : eqB l m = decide (l = m) := by
 unfold eqB
 congr
theorem eqB_iff {l m : List Int} : eqB l m = true ↔ l = m := by rw [eqB_eq]; exact decide_eq_true_iff
def binI (op : BinOp) (k : IntKind) (x y : Int) (M : Mem) : Res :=
 match op with
 | .add => ok (.val (.int k (k.wrap (x + y)))) M
 | .sub => ok (.val (.int k (k.wrap (x - y)))) M
 | .mul => ok (.val (.int k (k.wrap (x * y)))) M
 | .quo => okIf (y ≠ 0) (.val (.int k (k.wrap (x.tdiv y)))) M
 | .rem => okIf (y ≠ 0) (.val (.int k (x.tmod y))) M
 | .and => ok (.val (.int k (iand k x y))) M
 | .or => ok (.val (.int k (ior k x y))) M
 | .xor => ok (.val (.int k (ixor k x y))) M
 | .andNot => ok (.val (.int k (iandn k x y))) M
 | .eql => ok (.val (.bool (x == y))) M
 | .neq => ok (.val (.bool (x != y))) M
 | .lss => ok (.val (.bool (decide (x < y)))) M
 | .leq => ok (.val (.bool (decide (x ≤ y)))) M
 | .gtr => ok (.val (.bool (decide (x > y)))) M
 | .geq => ok (.val (.bool (decide (x ≥ y)))) M
 | _ => fail M
def eqAll (tab : Tab) (g : TypeId → D → D → Prop × Bool) : List (Nat × TypeId) → List D → List D → Prop × Bool
 | [], [], [] => (True, true)
 | (_, t) :: ts, a :: as, b :: bs => (a.isAgg = (tg tab t).ty.agg ∧ b.isAgg = (tg tab t).ty.agg ∧ (g t a b).1 ∧ (eqAll tab g ts as bs).1, (g t a b).2 && (eqAll tab g ts as bs).2)
 | _, _, _ => (False, false)
noncomputable def eqDT (tab : Tab) : Nat → TypeId → D → D → Prop × Bool
 | 0, _, _, _ => (False, false)
 | n + 1, t, a, b => match (tg tab t).ty, a, b with
  | .int k, .val (.int k1 x), .val (.int k2 y) => (k1 = k ∧ k2 = k, x == y)
  | .bool, .val (.bool x), .val (.bool y) => (True, x == y)
  | .arr n0 e, .arr k1 n1 l, .arr k2 n2 m => match (tg tab e).ty with
   | .int k0 => (k1 = k0 ∧ k2 = k0 ∧ n1 = n0 ∧ n2 = n0 ∧ (tg tab e).size = 1, eqB l m)
   | _ => (False, false)
  | .st ts, .st fs, .st gs => ((tg tab t).eq = true ∧ sk (.st fs) = sk (tg tab t).zero ∧ sk (.st gs) = sk (tg tab t).zero ∧ (eqAll tab (eqDT tab n) ts fs gs).1, (eqAll tab (eqDT tab n) ts fs gs).2)
  | _, _, _ => (False, false)
noncomputable def binD (tab : Tab) (op : BinOp) (t : TypeId) (a b : D) (M : Mem) : Res :=
 match a, b with
 | .val (.int k x), .val (.int k' y) => match op with
  | .shl => okIf (0 ≤ y) (.val (.int k (ishl k x y))) M
  | .shr => okIf (0 ≤ y) (.val (.int k (ishr k x y))) M
  | _ => bif decide (k = k') then binI op k x y M else fail M
 | .str l, .str m => match op with
  | .add => okIf ((((l.length + m.length : Nat) : Int)) ≤ 9223372036854775807) (.str (l ++ m)) M
  | .eql => ok (.val (.bool (eqB l m))) M
  | .neq => ok (.val (.bool (!eqB l m))) M
  | _ => fail M
 | .val (.bool x), .val (.bool y) => match op, (tg tab t).ty with
  | .eql, .bool => ok (.val (.bool (x == y))) M
  | .neq, .bool => ok (.val (.bool (!(x == y)))) M
  | _, _ => fail M
 | .arr k n l, .arr k' n' m => match op, (tg tab t).ty with
  | .eql, .arr n0 e => match (tg tab e).ty with
   | .int k0 => okIf (k = k0 ∧ k' = k0 ∧ n = n0 ∧ n' = n0 ∧ (tg tab e).size = 1) (.val (.bool (eqB l m))) M
   | _ => fail M
  | .neq, .arr n0 e => match (tg tab e).ty with
   | .int k0 => okIf (k = k0 ∧ k' = k0 ∧ n = n0 ∧ n' = n0 ∧ (tg tab e).size = 1) (.val (.bool (!eqB l m))) M
   | _ => fail M
  | _, _ => fail M
 | .st fs, .st gs => match op with
  | .eql => okIf (eqDT tab 6 t (.st fs) (.st gs)).1 (.val (.bool (eqDT tab 6 t (.st fs) (.st gs)).2)) M
  | .neq => okIf (eqDT tab 6 t (.st fs) (.st gs)).1 (.val (.bool (!(eqDT tab 6 t (.st fs) (.st gs)).2))) M
  | _ => fail M
 | _, _ => fail M
def isSl : AV → Bool
 | .d (.ints _ _) | .d (.slc _ _) | .d (.val (.slice none 0 0)) | .row _ | .own _ _ _ _ _ => true
 | _ => false
def nilQ (tab : Tab) (op : BinOp) (t : TypeId) (a b : AV) : Bool :=
 match op, b, (tg tab t).ty with
 | .eql, .d (.val (.slice none 0 0)), .slice _ => isSl a
 | .neq, .d (.val (.slice none 0 0)), .slice _ => isSl a
 | _, _, _ => false
def nilP : AV → Prop
 | .d (.ints _ l) => l.length = 0
 | .d (.slc sz xs) => sz ≠ 0 → xs.length = 0
 | _ => True
def nilT (op : BinOp) (a : AV) : Prop := match op with | .eql => nilP a | _ => True
def nilF (op : BinOp) (a : AV) : Prop := match op with | .neq => nilP a | _ => True
def nilPtr : AV → Option Bool
 | .ptr _ _ | .dat _ | .rpt _ _ none | .d (.ref _) | .lp _ _ | .sub _ _ _ _ => some false
 | .d (.val (.pointer none)) => some true
 | _ => none
def aNil (a : AV) (M : Mem) : Res := match nilPtr a with
 | some false => ⟨True, a, M⟩
 | _ => fail M
def ptrQ (tab : Tab) (op : BinOp) (t : TypeId) (a b : AV) : Option Bool :=
 match op, b, (tg tab t).ty with
 | .eql, .d (.val (.pointer none)), .ptr _ => nilPtr a
 | .neq, .d (.val (.pointer none)), .ptr _ => (nilPtr a).map (!·)
 | _, _, _ => none
noncomputable def aBin (tab : Tab) (op : BinOp) (t : TypeId) (a b : AV) (M : Mem) : Res :=
 match ptrQ tab op t a b with
 | some r => ok (.val (.bool r)) M
 | none => bif nilQ tab op t a b then ⟨True, .bq (nilT op a) (nilF op a), M⟩ else
  match a, b with
  | .d a, .d b => binD tab op t a b M
  | _, _ => fail M
def aUn (op : UnOp) (a : AV) (M : Mem) : Res :=
 match op, a with
 | .neg, .d (.val (.int k n)) => ok (.val (.int k (k.wrap (0 - n)))) M
 | .xor, .d (.val (.int k n)) => ok (.val (.int k (ixor k (if k.signed then -1 else k.max) n))) M
 | .not, .d (.val (.bool b)) => ok (.val (.bool !b)) M
 | _, _ => fail M
def aConv (tab : Tab) (src dst : TypeId) (a : AV) (M : Mem) : Res :=
 match (tg tab dst).ty with
 | .int k => match (tg tab src).ty, a with
  | .int _, .d (.val (.int _ n)) => ok (.val (.int k (k.wrap n))) M
  | _, _ => fail M
 | .str => match (tg tab src).ty with
  | .slice e => match (tg tab e).ty with
   | .int .u8 => match toD M a with
    | some (.ints .u8 l) => okIf (isBytes l) (.str l) M
    | some (.val (.slice none 0 0)) => ok (.str []) M
    | _ => fail M
   | _ => fail M
  | .str => match a with
   | .d (.str l) => ok (.str l) M
   | _ => fail M
  | _ => fail M
 | .slice e => match (tg tab e).ty, (tg tab src).ty with
  | .int .u8, .str => match a with
   | .d (.str l) => ok (.ints .u8 l) M
   | _ => fail M
  | _, _ => fail M
 | _ => fail M
def ldV (ty : Ty) (d : D) : D := match ty with
 | .bool => .val (.bool (boolOf d))
 | .str => .str (strOf d)
 | _ => d
def ldC (ty : Ty) (d : D) (b : Prop) : Prop := match ty with
 | .bool => b ∧ .val (.bool (boolOf d)) = d
 | .str => b ∧ .str (strOf d) = d
 | _ => b
theorem ldC_elim {ty : Ty} {d : D} {b : Prop} (h : ldC ty d b) : b ∧ ldV ty d = d := by
 cases ty <;> first | exact ⟨h.1, h.2⟩ | exact ⟨h, rfl⟩
def aLoad (tab : Tab) (t : TypeId) (a : AV) (M : Mem) : Res :=
 match a with
 | .ptr b p => match look M b with
  | some (.fix x) => okIf (ldC (tg tab t).ty (getP x p) ((tg tab t).size ≠ 0 ∧ (sk (getP x p)).size = (tg tab t).size ∧ (getP x p).isAgg = (tg tab t).ty.agg)) (ldV (tg tab t).ty (getP x p)) M
  | _ => fail M
 | .dat x => okIf ((tg tab t).size ≠ 0 ∧ (sk x).size = (tg tab t).size ∧ x.isAgg = (tg tab t).ty.agg) x M
 | .rpt b i none => match look M b with
  | some (.row _ (.ints k l)) => okIf (i < l.length ∧ (tg tab t).size = 1 ∧ false = (tg tab t).ty.agg) (.val (.int k (l.getD i 0))) M
  | some (.row _ (.slc sz xs)) => okIf (i < xs.length ∧ (tg tab t).size ≠ 0 ∧ (tg tab t).size = sz ∧ shp tab 6 t (xs.getD i default) = xs.getD i default ∧ (shp tab 6 t (xs.getD i default)).isAgg = (tg tab t).ty.agg) (shp tab 6 t (xs.getD i default)) M
  | _ => fail M
 | .sub b p off n => match look M b with
  | some (.fix x) => match getP x p with
   | .arr k _ l => okIf (n ≠ 0 ∧ (tg tab t).size = n ∧ (tg tab t).ty.agg = true) (.arr k n ((l.drop off).take n)) M
   | _ => fail M
  | _ => fail M
 | .lp b p => match look M b with
  | some (.lnk fs i q) => match p with
   | [] => fail M
   | j :: p' => bif Nat.beq j i then (match p', q with
     | [], some r => match look M r with
      | some (.row _ _) => ⟨(tg tab t).size = 1 ∧ false = (tg tab t).ty.agg, .row r, M⟩
      | _ => fail M
     | _, _ => fail M)
    else okIf ((tg tab t).size ≠ 0 ∧ (sk (getP (.st fs) (j :: p'))).size = (tg tab t).size ∧ (getP (.st fs) (j :: p')).isAgg = (tg tab t).ty.agg) (getP (.st fs) (j :: p')) M
  | _ => fail M
 | _ => fail M
def aStore (tab : Tab) (t : TypeId) (a v : AV) (M : Mem) : Res :=
 match a, v with
 | .ptr b p, .d y => match look M b with
  | some (.fix x) => ⟨stP x p (castD tab t y) ∧ (tg tab t).size ≠ 0 ∧ (sk (castD tab t y)).size = (tg tab t).size ∧ y.isTup = false, .any, putM M b (.fix (setP x p (castD tab t y)))⟩
  | _ => fail M
 | .sub b p off n, .d (.arr k' n' l') => match look M b with
  | some (.fix x) => match getP x p with
   | .arr k m l => ⟨n ≠ 0 ∧ (tg tab t).size = n ∧ k' = k ∧ n' = n, .any, putM M b (.fix (setP x p (.arr k m (l.take off ++ l' ++ l.drop (off + n)))))⟩
   | _ => fail M
  | _ => fail M
 | .rpt b i none, .d (.val (.int k' z)) => match look M b with
  | some (.row e (.ints k l)) => ⟨i < l.length ∧ k' = k ∧ (tg tab t).size = 1, .any, putM M b (.row e (.ints k (l.set i z)))⟩
  | _ => fail M
 | .rpt b i none, .d (.str z) => match look M b with
  | some (.row e (.slc sz xs)) => ⟨i < xs.length ∧ sz = 1 ∧ (tg tab t).size = 1, .any, putM M b (.row e (.slc sz (xs.set i (.str z))))⟩
  | _ => fail M
 | .rpt b i none, .d (.ints k z) => match look M b with
  | some (.row e (.slc sz xs)) => ⟨i < xs.length ∧ sz = 1 ∧ (tg tab t).size = 1, .any, putM M b (.row e (.slc sz (xs.set i (.ints k z))))⟩
  | _ => fail M
 | .rpt b i none, .d (.st fs) => match look M b with
  | some (.row e (.slc sz xs)) => ⟨i < xs.length ∧ (sk (.st fs)).size = sz ∧ sz ≠ 0 ∧ (tg tab t).size = sz, .any, putM M b (.row e (.slc sz (xs.set i (.st fs))))⟩
  | _ => fail M
 | .rpt b i none, .d (.arr k n l) => match look M b with
  | some (.row e (.slc sz xs)) => ⟨i < xs.length ∧ (sk (.arr k n l)).size = sz ∧ sz ≠ 0 ∧ (tg tab t).size = sz, .any, putM M b (.row e (.slc sz (xs.set i (.arr k n l))))⟩
  | _ => fail M
 | .lp b p, .d y => match look M b with
  | some (.lnk fs i q) => match p with
   | [] => fail M
   | j :: p' => bif Nat.beq j i then fail M else ⟨stP (.st fs) (j :: p') (castD tab t y) ∧ (tg tab t).size ≠ 0 ∧ (sk (castD tab t y)).size = (tg tab t).size ∧ y.isTup = false, .any,
     putM M b (.lnk (fs.set j (setP (fs.getD j default) p' (castD tab t y))) i q)⟩
  | _ => fail M
 | .lp b p, .row r => match look M b, look M r with
  | some (.lnk fs i _), some (.row _ _) => match p with
   | [j] => ⟨j = i ∧ (tg tab t).size = 1, .any, putM M b (.lnk fs i (some r))⟩
   | _ => fail M
  | _, _ => fail M
 | _, _ => fail M
def aAlloc (tab : Tab) (dst : Option Nat) (x : D) (M : Mem) : Res :=
 match dst with
 | some d => match look M d with
  | none => ⟨(match Nat.blt d 1000 with | true => True | false => False), .ptr d [], putM M d (.fix x)⟩
  | some _ => fail M
 | none => fail M
def aFieldAddr (tab : Tab) (t : TypeId) (a : AV) (f : Nat) (M : Mem) : Res :=
 match a with
 | .ptr b p => match look M b, (tg tab t).ty with
  | some (.fix x), .st ts => ⟨sk (getP x p) = sk (tg tab t).zero ∧ f < ts.length, .ptr b (p ++ [f]), M⟩
  | _, _ => fail M
 | .dat (.st fs) => match (tg tab t).ty with
  | .st ts => ⟨sk (.st fs) = sk (tg tab t).zero ∧ f < ts.length, .dat (fs.getD f default), M⟩
  | _ => fail M
 | .lp b p => match look M b, (tg tab t).ty with
  | some (.lnk fs _ _), .st ts => ⟨sk (getP (.st fs) p) = sk (tg tab t).zero ∧ f < ts.length, .lp b (p ++ [f]), M⟩
  | _, _ => fail M
 | _ => fail M
def arrT (tab : Tab) (e : TypeId) : Option Nat := match (tg tab e).ty with
 | .arr n _ => some n
 | _ => none
def ones (fs : List D) : Prop := ∀ d, d ∈ fs → sk d = .one
def aIndexAddr (tab : Tab) (t : TypeId) (a i : AV) (M : Mem) : Res :=
 match i with
 | .d (.val (.int _ i)) => match a with
  | .ptr b p => match look M b, (tg tab t).ty with
   | some (.fix x), .arr n e => match getP x p with
    | .arr k m _ => match arrT tab e with
     | none => ⟨0 ≤ i ∧ i < n ∧ m = n ∧ (tg tab e).size = 1, .ptr b (p ++ [i.toNat]), M⟩
     | some n2 => ⟨0 ≤ i ∧ i < n ∧ m = n * n2 ∧ (tg tab e).size = n2 ∧ n2 ≠ 0, .sub b p (i.toNat * n2) n2, M⟩
    | .st fs => ⟨0 ≤ i ∧ i < n ∧ fs.length = n ∧ ones fs ∧ (tg tab e).size = 1, .ptr b (p ++ [i.toNat]), M⟩
    | _ => fail M
   | _, _ => fail M
  | .lp b p => match look M b, (tg tab t).ty with
   | some (.lnk fs _ _), .arr n e => match getP (.st fs) p with
    | .arr k m _ => ⟨0 ≤ i ∧ i < n ∧ m = n ∧ (tg tab e).size = 1, .lp b (p ++ [i.toNat]), M⟩
    | _ => fail M
   | _, _ => fail M
  | .sub b p off m => match (tg tab t).ty with
   | .arr n e => ⟨0 ≤ i ∧ i < n ∧ m = n ∧ (tg tab e).size = 1, .ptr b (p ++ [off + i.toNat]), M⟩
   | _ => fail M
  | .own b p off len _ => match (tg tab t).ty with
   | .slice e => ⟨0 ≤ i ∧ i < len ∧ (tg tab e).size = 1, .ptr b (p ++ [off + i.toNat]), M⟩
   | _ => fail M
  | .d (.ints k l) => match (tg tab t).ty with
   | .slice e => ⟨0 ≤ i ∧ i < l.length ∧ (tg tab e).size = 1, .dat (.val (.int k (l.getD i.toNat 0))), M⟩
   | _ => fail M
  | .d (.slc sz xs) => match (tg tab t).ty with
   | .slice e => ⟨0 ≤ i ∧ i < xs.length ∧ (tg tab e).size ≠ 0 ∧ (tg tab e).size = sz ∧ shp tab 6 e (xs.getD i.toNat default) = xs.getD i.toNat default, .dat (shp tab 6 e (xs.getD i.toNat default)), M⟩
   | _ => fail M
  | .row b => match (tg tab t).ty, look M b with
   | .slice e, some (.row _ (.ints k l)) => ⟨0 ≤ i ∧ i < l.length ∧ (tg tab e).size = 1, .rpt b i.toNat none, M⟩
   | .slice e, some (.row _ (.slc sz xs)) => ⟨0 ≤ i ∧ i < xs.length ∧ (tg tab e).size ≠ 0 ∧ (tg tab e).size = sz, .rpt b i.toNat none, M⟩
   | _, _ => fail M
  | .rpt b j (some n) => match (tg tab t).ty, look M b with
   | .slice e, some (.row _ x) => ⟨0 ≤ i ∧ i < n ∧ (tg tab e).size ≠ 0 ∧ (tg tab e).size = rsz x, .rpt b (j + i.toNat) none, M⟩
   | _, _ => fail M
  | .dat (.arr k m l) => match (tg tab t).ty with
   | .arr n e => match arrT tab e with
    | none => ⟨0 ≤ i ∧ i < n ∧ m = n ∧ (tg tab e).size = 1, .dat (.val (.int k (l.getD i.toNat 0))), M⟩
    | some n2 => ⟨0 ≤ i ∧ i < n ∧ m = n * n2 ∧ (tg tab e).size = n2 ∧ n2 ≠ 0, .dat (.arr k n2 ((l.drop (i.toNat * n2)).take n2)), M⟩
   | _ => fail M
  | .dat (.st fs) => match (tg tab t).ty with
   | .arr n e => ⟨0 ≤ i ∧ i < n ∧ fs.length = n ∧ ones fs ∧ (tg tab e).size = 1, .dat (fs.getD i.toNat default), M⟩
   | _ => fail M
  | _ => fail M
 | _ => fail M
def aIndex (tab : Tab) (t : TypeId) (a i : AV) (M : Mem) : Res :=
 match a, i with
 | .d (.arr k m l), .d (.val (.int _ i)) => match (tg tab t).ty with
  | .arr n e => match arrT tab e with
   | none => okIf (0 ≤ i ∧ i < n ∧ m = n ∧ (tg tab e).ty = .int k ∧ (tg tab e).size = 1) (.val (.int k (l.getD i.toNat 0))) M
   | some n2 => okIf (0 ≤ i ∧ i < n ∧ m = n * n2 ∧ (tg tab e).size = n2 ∧ n2 ≠ 0) (.arr k n2 ((l.drop (i.toNat * n2)).take n2)) M
  | _ => fail M
 | .d (.st fs), .d (.val (.int _ i)) => match (tg tab t).ty with
  | .arr n e => okIf (ldC (tg tab e).ty (fs.getD i.toNat default) (0 ≤ i ∧ i < n ∧ fs.length = n ∧ ones fs ∧ (tg tab e).size = 1 ∧ (tg tab e).ty.agg = false)) (ldV (tg tab e).ty (fs.getD i.toNat default)) M
  | _ => fail M
 | .d (.str l), .d (.val (.int _ i)) => match (tg tab t).ty with
  | .str => okIf (0 ≤ i ∧ i < l.length) (.val (.int .u8 (l.getD i.toNat 0))) M
  | _ => fail M
 | _, _ => fail M
def aField (tab : Tab) (t : TypeId) (a : AV) (f : Nat) (M : Mem) : Res :=
 match a, (tg tab t).ty with
 | .d (.st fs), .st ts => match ts[f]? with
  | some (_, t') => okIf (sk (.st fs) = sk (tg tab t).zero ∧ (fs.getD f default).isAgg = (tg tab t').ty.agg ∧ (sk (fs.getD f default)).size = (tg tab t').size) (fs.getD f default) M
  | none => fail M
 | _, _ => fail M
def chunks (k : IntKind) (n : Nat) : Nat → List Int → List D
 | 0, _ => []
 | c + 1, l => .arr k n (l.take n) :: chunks k n c (l.drop n)
def bnd (dflt : Int) : Option AV → Option Int
 | none => some dflt
 | some (.d (.val (.int _ i))) => some i
 | _ => none
def aSlice (tab : Tab) (t : TypeId) (a : AV) (lo hi mx : Option AV) (M : Mem) : Res :=
 match mx with
 | some m => match a, (tg tab t).ty with
  | .own b p off _ cap, .slice e => match hi with
   | some h => match bnd 0 lo, bnd 0 (some h), bnd 0 (some m) with
    | some i, some j, some k => ⟨0 ≤ i ∧ i ≤ j ∧ j ≤ k ∧ k ≤ cap ∧ (tg tab e).size = 1, .own b p (off + i.toNat) (j.toNat - i.toNat) (k.toNat - i.toNat), M⟩
    | _, _, _ => fail M
   | none => fail M
  | _, _ => fail M
 | none => match a, (tg tab t).ty with
  | .d (.ints k l), .slice e => match bnd 0 lo, bnd (l.length : Int) hi with
   | some i, some j => okIf (0 ≤ i ∧ i ≤ j ∧ j ≤ l.length ∧ (tg tab e).size = 1) (.ints k ((l.take j.toNat).drop i.toNat)) M
   | _, _ => fail M
  | .d (.slc sz xs), .slice e => match bnd 0 lo, bnd (xs.length : Int) hi with
   | some i, some j => okIf (0 ≤ i ∧ i ≤ j ∧ j ≤ xs.length ∧ (tg tab e).size ≠ 0 ∧ (tg tab e).size = sz) (.slc sz ((xs.take j.toNat).drop i.toNat)) M
   | _, _ => fail M
  | .d (.str l), .str => match bnd 0 lo, bnd (l.length : Int) hi with
   | some i, some j => okIf (0 ≤ i ∧ i ≤ j ∧ j ≤ l.length) (.str ((l.take j.toNat).drop i.toNat)) M
   | _, _ => fail M
  | .own b p off len cap, .slice e => match bnd 0 lo, bnd (len : Int) hi with
   | some i, some j => ⟨0 ≤ i ∧ i ≤ j ∧ j ≤ cap ∧ (tg tab e).size = 1, .own b p (off + i.toNat) (j.toNat - i.toNat) (cap - i.toNat), M⟩
   | _, _ => fail M
  | .ptr b p, .arr n e => match look M b with
   | some (.fix x) => match getP x p with
    | .arr _ m _ => match bnd 0 lo, bnd (n : Int) hi with
     | some i, some j => ⟨0 ≤ i ∧ i ≤ j ∧ j ≤ n ∧ m = n ∧ (tg tab e).size = 1, .own b p i.toNat (j.toNat - i.toNat) (n - i.toNat), M⟩
     | _, _ => fail M
    | _ => fail M
   | _ => fail M
  | .sub b p off m, .arr n e => match bnd 0 lo, bnd (n : Int) hi with
   | some i, some j => ⟨0 ≤ i ∧ i ≤ j ∧ j ≤ n ∧ m = n ∧ (tg tab e).size = 1, .own b p (off + i.toNat) (j.toNat - i.toNat) (n - i.toNat), M⟩
   | _, _ => fail M
  | .dat (.arr k m l), .arr n e => match bnd 0 lo, bnd (n : Int) hi, arrT tab e with
   | some i, some j, none => okIf (0 ≤ i ∧ i ≤ j ∧ j ≤ n ∧ m = n ∧ (tg tab e).size = 1) (.ints k ((l.take j.toNat).drop i.toNat)) M
   | some i, some j, some n2 => okIf (0 ≤ i ∧ i ≤ j ∧ j ≤ n ∧ m = n * n2 ∧ (tg tab e).size = n2 ∧ n2 ≠ 0) (.slc n2 (chunks k n2 (j.toNat - i.toNat) (l.drop (i.toNat * n2)))) M
   | _, _, _ => fail M
  | .row b, .slice e => match look M b with
   | some (.row _ x) => match bnd 0 lo, bnd (rlen x : Int) hi with
    | some i, some j => ⟨0 ≤ i ∧ i ≤ j ∧ j ≤ (rlen x : Int) ∧ (tg tab e).size ≠ 0 ∧ (tg tab e).size = rsz x, .rpt b i.toNat (some (j.toNat - i.toNat)), M⟩
    | _, _ => fail M
   | _ => fail M
  | _, _ => fail M
def aMake (tab : Tab) (rows : List Nat) (t : TypeId) (dst : Option Nat) (len cap : AV) (M : Mem) : Res :=
 match len, cap, dst, (tg tab t).ty with
 | .d (.val (.int _ n)), .d (.val (.int _ c)), some d, .slice e => match (tg tab e).ty, look M d, (tg tab e).zero with
  | .str, none, .str [] =>
   bif rows.contains d then ⟨0 ≤ n ∧ n ≤ c ∧ c ≤ 281474976710656 ∧ ((tg tab e).bytes : Int) * c ≤ 281474976710656 ∧ (tg tab e).size = 1, .row d, putM M d (.row e (.slc 1 (List.replicate n.toNat (.str []))))⟩
   else fail M
  | .slice _, none, .ints k [] =>
   bif rows.contains d then ⟨0 ≤ n ∧ n ≤ c ∧ c ≤ 281474976710656 ∧ ((tg tab e).bytes : Int) * c ≤ 281474976710656 ∧ (tg tab e).size = 1, .row d, putM M d (.row e (.slc 1 (List.replicate n.toNat (.ints k []))))⟩
   else fail M
  | .int k, none, _ =>
   bif rows.contains d then ⟨0 ≤ n ∧ n ≤ c ∧ c ≤ 281474976710656 ∧ ((tg tab e).bytes : Int) * c ≤ 281474976710656 ∧ (tg tab e).size = 1, .row d, putM M d (.row e (.ints k (List.replicate n.toNat 0)))⟩
   else ⟨(match Nat.blt d 1000 with | true => 0 ≤ n | false => False) ∧ c = n ∧ n ≤ 281474976710656 ∧ ((tg tab e).bytes : Int) * n ≤ 281474976710656 ∧ (tg tab e).size = 1, .own d [] 0 n.toNat n.toNat, putM M d (.fix (.arr k n.toNat (List.replicate n.toNat 0)))⟩
  | .st _, none, .st zs =>
   bif rows.contains d then ⟨0 ≤ n ∧ n ≤ c ∧ c ≤ 281474976710656 ∧ ((tg tab e).bytes : Int) * c ≤ 281474976710656 ∧ (tg tab e).size ≠ 0, .row d, putM M d (.row e (.slc (tg tab e).size (List.replicate n.toNat (.st zs))))⟩
   else fail M
  | .arr _ _, none, .arr k m l =>
   bif rows.contains d then ⟨0 ≤ n ∧ n ≤ c ∧ c ≤ 281474976710656 ∧ ((tg tab e).bytes : Int) * c ≤ 281474976710656 ∧ (tg tab e).size ≠ 0, .row d, putM M d (.row e (.slc (tg tab e).size (List.replicate n.toNat (.arr k m l))))⟩
   else fail M
  | _, _, _ => fail M
 | _, _, _, _ => fail M
def aLen (tab : Tab) (t : TypeId) (a : AV) (M : Mem) : Res :=
 match a with
 | .d (.ints _ l) => match (tg tab t).ty with
  | .slice _ => ok (.val (.int .i64 l.length)) M
  | _ => fail M
 | .d (.slc _ xs) => match (tg tab t).ty with
  | .slice _ => ok (.val (.int .i64 xs.length)) M
  | _ => fail M
 | .d (.str l) => match (tg tab t).ty with
  | .str => ok (.val (.int .i64 l.length)) M
  | _ => fail M
 | .d (.val (.slice none 0 0)) => match (tg tab t).ty with
  | .slice _ => ok (.val (.int .i64 0)) M
  | _ => fail M
 | .own _ _ _ len _ => match (tg tab t).ty with
  | .slice _ => ok (.val (.int .i64 len)) M
  | _ => fail M
 | .row b => match (tg tab t).ty, look M b with
  | .slice _, some (.row _ (.ints _ l)) => ok (.val (.int .i64 l.length)) M
  | .slice _, some (.row _ (.slc _ xs)) => ok (.val (.int .i64 xs.length)) M
  | _, _ => fail M
 | .rpt _ _ (some n) => match (tg tab t).ty with
  | .slice _ => ok (.val (.int .i64 n)) M
  | _ => fail M
 | _ => fail M
def aMin (lt : Int → Int → Bool) (as : List AV) (M : Mem) : Res :=
 match as with
 | [.d (.val (.int k x)), .d (.val (.int k' y))] => okIf (k' = k) (.val (.int k (bif lt y x then y else x))) M
 | _ => fail M
def cpL (l : List Int) (off : Nat) (m : List Int) (len : Nat) : List Int := l.take off ++ m.take (Nat.min m.length len) ++ l.drop (off + Nat.min m.length len)
def aCopy (tab : Tab) (dt : TypeId) (a b : AV) (M : Mem) : Res :=
 match a, (tg tab dt).ty with
 | .own b1 p off len _, .slice e => match look M b1, toD M b with
  | some (.fix x), some (.ints k m) => match getP x p with
   | .arr k' n l => ⟨k' = k ∧ (tg tab e).size = 1, .d (.val (.int .i64 (Nat.min m.length len))),
     putM M b1 (.fix (setP x p (.arr k' n (cpL l off m len))))⟩
   | _ => fail M
  | _, _ => fail M
 | .row b1, .slice e => match look M b1, toD M b with
  | some (.row er (.ints k' l)), some (.ints k m) => ⟨k' = k ∧ (tg tab e).size = 1, .d (.val (.int .i64 (Nat.min m.length l.length))),
     putM M b1 (.row er (.ints k' (cpL l 0 m l.length)))⟩
  | _, _ => fail M
 | .rpt b1 off (some len), .slice e => match look M b1, toD M b with
  | some (.row er (.ints k' l)), some (.ints k m) => ⟨k' = k ∧ (tg tab e).size = 1, .d (.val (.int .i64 (Nat.min m.length len))),
     putM M b1 (.row er (.ints k' (cpL l off m len)))⟩
  | _, _ => fail M
 | _, _ => fail M
def mapToD (M : Mem) (tab : Tab) : List AV → List TypeId → Option (List D)
 | [], _ => some []
 | a :: as, ts => match toD M a with
  | none => none
  | some d => match mapToD M tab as ts.tail with
   | none => none
   | some ds => some (castD tab (ts.headD 0) d :: ds)
def allData : List AV → Bool
 | [] => true
 | .d _ :: as => allData as
 | .dat _ :: as => allData as
 | _ :: _ => false
def ioFlag (s : Spec) : Bool := s.ps.any (Nat.ble 8000000 ·)
def rwE : List TypeId → Option TypeId
 | [] => none
 | k :: ks => bif Nat.ble 8500000 k && Nat.blt k 8600000 then some (k - 8500000) else rwE ks
def lnkF : List TypeId → Option (Nat × TypeId)
 | [] => none
 | k :: ks => bif Nat.ble 9100000000 k then some ((k - 9100000000) / 100000, (k - 9100000000) % 100000) else lnkF ks
def isIo (s : Spec) : Bool := s.ps.any (Nat.beq 9000000 ·)
def isFresh (s : Spec) : Bool := s.ps.any (Nat.beq 7000000 ·)
def loose (s : Spec) : Bool := s.flat || isFresh s
def aCall (C : Ctx) (f : FuncId) (as : List AV) (M : Mem) : Res :=
 match C.G f with
 | none => fail M
 | some s => bif ioFlag s then fail M else bif loose s || allData as then
   match mapToD M C.tab as s.ps with
   | none => fail M
   | some ds => okIf (s.pre ds) (s.f ds) M
  else fail M
def aPick (c a b : AV) (M : Mem) : Res :=
 match c with
 | .d (.val (.bool t)) => ⟨True, (match t with | true => a | false => b), M⟩
 | _ => fail M
def aExtract (a : AV) (i : Nat) (M : Mem) : Res :=
 match a with
 | .tpl b rs => match i with
  | 0 => ⟨True, .ptr b [], M⟩
  | i + 1 => okIf (i < rs.length ∧ (rs.getD i default).isTup = false) (rs.getD i default) M
 | .d (.tup ds) => okIf (i < ds.length ∧ (ds.getD i default).isTup = false) (ds.getD i default) M
 | .tpr b rs => match i with
  | 0 => ⟨True, .row b, M⟩
  | i + 1 => okIf (i < rs.length ∧ (rs.getD i default).isTup = false) (rs.getD i default) M
 | _ => fail M
def aParts (tab : Tab) (ty : Nat → TypeId) (z : D) : List (Nat × AV) → Prop × D
 | [] => (True, z)
 | (i, .d x) :: ps => (x.isTup = false ∧ stP z [i] (castD tab (ty i) x) ∧ (aParts tab ty (setP z [i] (castD tab (ty i) x)) ps).1, (aParts tab ty (setP z [i] (castD tab (ty i) x)) ps).2)
 | _ :: _ => (False, z)
def spl (l : List Int) (o m : Nat) (x : List Int) : List Int := l.take o ++ x ++ l.drop (o + m)
def aSubs (k : IntKind) (m n : Nat) (l : List Int) : List (Nat × AV) → Prop × List Int
 | [] => (True, l)
 | (i, .d (.arr k' m' x)) :: ps => (k' = k ∧ m' = m ∧ i * m + m ≤ n ∧ (aSubs k m n (spl l (i * m) m x) ps).1, (aSubs k m n (spl l (i * m) m x) ps).2)
 | _ :: _ => (False, l)
def aBuild (tab : Tab) (t : TypeId) (ps : List (Nat × AV)) (M : Mem) : Res :=
 match (tg tab t).ty, (tg tab t).zero with
 | .st ts, z => okIf ((aParts tab (fun i => (ts.getD i (0, 0)).2) z ps).1) (aParts tab (fun i => (ts.getD i (0, 0)).2) z ps).2 M
 | .arr _ e, .arr k n l => match (tg tab e).zero with
  | .arr _ m _ => okIf ((tg tab e).size = m ∧ m ≠ 0 ∧ (aSubs k m n l ps).1) (.arr k n (aSubs k m n l ps).2) M
  | _ => okIf ((tg tab e).size = 1 ∧ (aParts tab (fun _ => e) (.arr k n l) ps).1) (aParts tab (fun _ => e) (.arr k n l) ps).2 M
 | _, _ => fail M
def setInts (k : IntKind) (l : List Int) : List (Nat × AV) → Option (List Int)
 | [] => some l
 | (i, .d (.val (.int k' n))) :: ps => bif decide (k' = k) then (bif Nat.blt i l.length then setInts k (l.set i n) ps else none) else none
 | _ :: _ => none
def setXs (tab : Tab) (e : TypeId) (xs : List D) : List (Nat × AV) → Option (List D)
 | [] => some xs
 | (i, .d x) :: ps => bif Nat.blt i xs.length && Nat.beq (sk (castD tab e x)).size (tg tab e).size && !x.isTup then setXs tab e (xs.set i (castD tab e x)) ps else none
 | _ :: _ => none
def aBuildSlice (C : Ctx) (dst : Option Nat) (t : TypeId) (len : Nat) (ps : List (Nat × AV)) (M : Mem) : Res :=
 match (tg C.tab t).ty with
 | .slice e => match (tg C.tab e).ty with
  | .int k => match setInts k (List.replicate len 0) ps with
   | some l => match dst with
    | some d => bif C.rows.contains d then
      (match look M d with
       | none => ⟨(tg C.tab e).size = 1 ∧ len ≤ 4096, .row d, putM M d (.row e (.ints k l))⟩
       | some _ => fail M)
     else okIf ((tg C.tab e).size = 1 ∧ len ≤ 4096) (.ints k l) M
    | none => fail M
   | none => fail M
  | _ => match setXs C.tab e (List.replicate len (tg C.tab e).zero) ps with
   | some xs => match dst with
    | some d => bif C.rows.contains d then
      (match look M d with
       | none => ⟨len ≤ 4096 ∧ (tg C.tab e).size ≤ 256 ∧ (tg C.tab e).size ≠ 0, .row d, putM M d (.row e (.slc (tg C.tab e).size xs))⟩
       | some _ => fail M)
     else okIf (len ≤ 4096 ∧ (tg C.tab e).size ≤ 256 ∧ (tg C.tab e).size ≠ 0) (.slc (tg C.tab e).size xs) M
    | none => fail M
   | none => fail M
 | _ => fail M
def aAssign (C : Ctx) (dst : Option Nat) (t : TypeId) (v : AV) (M : Mem) : Res :=
 match dst with
 | none => ⟨True, v, M⟩
 | some d => bif C.rows.contains d then (match v with
   | .d (.val (.slice none 0 0)) => match (tg C.tab t).ty, look M d with
    | .slice e, none => ⟨(tg C.tab e).size ≠ 0, .row d, putM M d (.row e (castD C.tab t (.val (.slice none 0 0))))⟩
    | _, _ => fail M
   | v => ⟨True, v, M⟩)
  else ⟨True, v, M⟩
def isD : AV → Bool
 | .d _ => true
 | _ => false
def aNew (tab : Tab) (t t2 : TypeId) (x y : AV) (M : Mem) : Res :=
 match x with
 | .d (.val (.slice none 0 0)) => match (tg tab t).ty, toD M y with
  | .slice e, some d => match castD tab t d with
   | .ints k l => okIf (t2 = t ∧ l.length ≤ 140737488355328 ∧ l.length * (tg tab e).bytes ≤ 140737488355328 ∧ (tg tab e).size = 1) (.ints k l) M
   | .slc sz xs => okIf (t2 = t ∧ isD y = true ∧ xs.length ≤ 140737488355328 ∧ xs.length * (tg tab e).bytes ≤ 140737488355328 ∧ (tg tab e).size = sz ∧ sz ≠ 0) (.slc sz xs) M
   | _ => fail M
  | _, _ => fail M
 | .own b p off len cap => match look M b, (tg tab t).ty, toD M y with
  | some (.fix z), .slice e, some d => match getP z p, castD tab t d with
   | .arr k _ l, .ints k' m => okIf (k' = k ∧ t2 = t ∧ len = cap ∧ 0 < cap ∧ 0 < m.length ∧ len + m.length ≤ 140737488355328 ∧ (len + m.length) * (tg tab e).bytes ≤ 140737488355328 ∧ (tg tab e).size = 1) (.ints k ((l.drop off).take len ++ m)) M
   | _, _ => fail M
  | _, _, _ => fail M
 | _ => fail M
def app0 (C : Ctx) (dst : Option Nat) : Bool := match dst with
 | some d => C.frz.contains (d + 910000)
 | none => false
def aApp0 (tab : Tab) (t t2 : TypeId) (x y : AV) (M : Mem) : Res :=
 match x with
 | .own b p off len cap => match (tg tab t).ty, toD M y with
  | .slice e, some d => match castD tab t d with
   | .ints _ m => ⟨t2 = t ∧ m.length = 0 ∧ (tg tab e).size = 1, .own b p off len cap, M⟩
   | _ => fail M
  | _, _ => fail M
 | _ => fail M
def fnOf (x : Operand) (v : AV) : Option (FuncId × List D) :=
 match x with
 | .func f => some (f, [])
 | _ => match v with
  | .d (.val (.func (.func f) a b)) => bif Nat.beq a.size 0 && Nat.beq b.size 0 then some (f, []) else none
  | .d (.clo f xs) => some (f, xs)
  | _ => none
def aFunc (fn : Fn) (first : List Operand) (cs : List AV) (M : Mem) : Res :=
 match fn, first with
 | .func f, [] => match capD cs with
  | some xs => ok (.clo f xs) M
  | none => fail M
 | _, _ => fail M
def isPtr (p : Nat) : AV → Bool
 | .ptr b _ => Nat.beq b p
 | _ => false
def cellR (C : Ctx) (a : Operand) (v : AV) (r : Res) : Res :=
 match a with
 | .tmp p => bif C.frz.contains (p + 200000) then ⟨isPtr p v = true ∧ r.c, r.v, r.M⟩ else r
 | _ => r
def tellN (C : Ctx) (p : Nat) : Option Nat := (C.frz.find? fun e => Nat.beq (e / 1000) (p + 20000)).map fun e => e % 1000
def tlR (C : Ctx) (a : Operand) (v : AV) (r : Res) : Res :=
 match a with
 | .tmp p => match tellN C p with
  | some b => ⟨isPtr b v = true ∧ r.c, r.v, r.M⟩
  | none => r
 | _ => r
def isRd (C : Ctx) : Operand → Bool
 | .tmp p => C.frz.contains (p + 300000)
 | _ => false
def isDat : AV → Bool
 | .dat _ | .d (.ref _) => true
 | _ => false
def datR (v : AV) (r : Res) (M : Mem) : Res := bif isDat v then r else fail M
def datS (v : AV) (r : Res) (M : Mem) : Res := bif isD v then r else fail M
def isNf : AV → Bool
 | .lp _ _ | .rpt _ _ _ | .row _ => true
 | _ => false
def nfR (C : Ctx) (a : Operand) (v : AV) (r : Res) : Res :=
 match a with
 | .tmp p => bif C.frz.contains (p + 800000) then ⟨isNf v = true ∧ r.c, r.v, r.M⟩ else tlR C (.tmp p) v r
 | _ => r
def isKeep : AV → Bool
 | .row _ | .rpt _ _ _ | .tpr _ _ => false
 | _ => true
def mvR (C : Ctx) (x : Operand) (v : AV) (M : Mem) : Res :=
 match x with
 | .tmp p => bif C.frz.contains (p + 600000) then ⟨isKeep v = true, v, M⟩ else ⟨True, v, M⟩
 | _ => ⟨True, v, M⟩
def lnkI : List Nat → Nat → Option Nat
 | [], _ => none
 | k :: ks, d => bif Nat.ble 400000 k && Nat.blt k 500000 && Nat.beq ((k - 400000) % 1000) d then some ((k - 400000) / 1000) else lnkI ks d
def lnkO (C : Ctx) (dst : Option Nat) : Option Nat := match dst with
 | some d => lnkI C.frz d
 | none => none
def emptyB : D → Bool
 | .ints _ [] => true
 | .slc sz [] => !Nat.beq sz 0
 | _ => false
def aAllocL (tab : Tab) (t : TypeId) (dst : Option Nat) (i : Nat) (M : Mem) : Res :=
 match dst, (tg tab t).zero, (tg tab t).ty with
 | some d, .st fs, .st ts => match look M d, look M (d + 500), (tg tab (ts.getD i (0, 0)).2).ty with
  | none, none, .slice e => ⟨(match Nat.blt (d + 500) 1000 && Nat.blt i fs.length && emptyB (fs.getD i default) with | true => True | false => False) ∧ (tg tab t).size ≠ 0,
    .lp d [], putM (putM M (d + 500) (.row e (fs.getD i default))) d (.lnk fs i (some (d + 500)))⟩
  | _, _, _ => fail M
 | _, _, _ => fail M
def bldI : List Nat → Nat → Option Nat
 | [], _ => none
 | k :: ks, d => bif Nat.ble 700000 k && Nat.blt k 800000 && Nat.beq ((k - 700000) % 1000) d then some ((k - 700000) / 1000) else bldI ks d
def bldO (C : Ctx) (dst : Option Nat) : Option Nat := match dst with
 | some d => bldI C.frz d
 | none => none
def isNilV : D → Bool
 | .val (.slice none 0 0) => true
 | _ => false
def aBuildL (tab : Tab) (t : TypeId) (i : Nat) (ps : List (Nat × AV)) (M : Mem) : Res :=
 match (tg tab t).ty, (tg tab t).zero with
 | .st ts, .st zs => okIf ((match Nat.blt i zs.length && emptyB (zs.getD i default) with | true => True | false => False) ∧ (aParts tab (fun i => (ts.getD i (0, 0)).2) (.st (zs.set i (.val (.slice none 0 0)))) ps).1) (aParts tab (fun i => (ts.getD i (0, 0)).2) (.st (zs.set i (.val (.slice none 0 0)))) ps).2 M
 | _, _ => fail M
def aBoxL (tab : Tab) (t : TypeId) (dst : Option Nat) (i : Nat) (y : D) (M : Mem) : Res :=
 match dst, (tg tab t).zero, (tg tab t).ty, y with
 | some d, .st zs, .st ts, .st fs => match look M d, look M (d + 500), (tg tab (ts.getD i (0, 0)).2).ty with
  | none, none, .slice e => ⟨(match Nat.blt (d + 500) 1000 && Nat.blt i fs.length && emptyB (zs.getD i default) && isNilV (fs.getD i default) with | true => True | false => False),
    .lp d [], putM (putM M (d + 500) (.row e (zs.getD i default))) d (.lnk (fs.set i (zs.getD i default)) i (some (d + 500)))⟩
  | _, _, _ => fail M
 | _, _, _, _ => fail M
noncomputable def act (C : Ctx) (o : Oper) (ρ : Operand → AV) (M : Mem) : Res :=
 match o.op with
 | .move x => mvR C x (ρ x) M
 | .assign x => aAssign C o.dst o.type (ρ x) M
 | .pick c a b => aPick (ρ c) (ρ a) (ρ b) M
 | .alloc t => match lnkO C o.dst with
  | none => match aAlloc C.tab o.dst (tg C.tab t).zero M with
   | r => ⟨r.c ∧ (tg C.tab t).size ≠ 0, r.v, r.M⟩
  | some i => aAllocL C.tab t o.dst i M
 | .box t x => match ρ x with
  | .d y => match lnkO C o.dst with
   | none => match aAlloc C.tab o.dst (castD C.tab t y) M with
    | r => ⟨r.c ∧ y.isTup = false, r.v, r.M⟩
   | some i => aBoxL C.tab t o.dst i y M
  | _ => fail M
 | .build t ps => match bldO C o.dst with
  | none => aBuild C.tab t (ps.toList.map fun p => (p.1, ρ p.2)) M
  | some i => aBuildL C.tab t i (ps.toList.map fun p => (p.1, ρ p.2)) M
 | .buildSlice t len ps => aBuildSlice C o.dst t len (ps.toList.map fun p => (p.1, ρ p.2)) M
 | .load t a => bif isRd C a then datR (ρ a) (aLoad C.tab t (unref (ρ a)) M) M else nfR C a (ρ a) (cellR C a (ρ a) (aLoad C.tab t (unref (ρ a)) M))
 | .store t a v => match o.dst with
  | none => cellR C a (ρ a) (tlR C a (ρ a) (aStore C.tab t (ρ a) (ρ v) M))
  | some _ => fail M
 | .binOp op t x y _ => aBin C.tab op t (ρ x) (ρ y) M
 | .unOp op _ x => aUn op (ρ x) M
 | .convert s d x => bif isRd C x then datS (ρ x) (aConv C.tab s d (ρ x) M) M else aConv C.tab s d (ρ x) M
 | .makeSlice t l c => aMake C.tab C.rows t o.dst (ρ l) (ρ c) M
 | .slice t x lo hi mx => bif isRd C x then datS (ρ x) (aSlice C.tab t (ρ x) (lo.map ρ) (hi.map ρ) (mx.map ρ) M) M else tlR C x (ρ x) (aSlice C.tab t (ρ x) (lo.map ρ) (hi.map ρ) (mx.map ρ) M)
 | .makeFunc fn first captured => aFunc fn first.toList (captured.toList.map ρ) M
 | .fieldAddr t x f => bif isRd C x then datR (ρ x) (aFieldAddr C.tab t (unref (ρ x)) f M) M else nfR C x (ρ x) (aFieldAddr C.tab t (unref (ρ x)) f M)
 | .field t x f => aField C.tab t (ρ x) f M
 | .indexAddr t x i => nfR C x (ρ x) (aIndexAddr C.tab t (unref (ρ x)) (ρ i) M)
 | .index t x i => aIndex C.tab t (ρ x) (ρ i) M
 | .extract t i => aExtract (ρ t) i M
 | .call c => match c.callee with
  | .builtin .len => match c.args.toList, c.argTypes.toList with
   | [x], [t] => aLen C.tab t (ρ x) M
   | _, _ => fail M
  | .builtin .copy => match c.args.toList, c.argTypes.toList with
   | [x, y], t :: _ => aCopy C.tab t (ρ x) (ρ y) M
   | _, _ => fail M
  | .builtin .append => match c.args.toList, c.argTypes.toList with
   | [x, y], [t, t2] => bif app0 C o.dst then aApp0 C.tab t t2 (ρ x) (ρ y) M else aNew C.tab t t2 (ρ x) (ρ y) M
   | _, _ => fail M
  | .builtin .min => aMin (fun y x => decide (y < x)) (c.args.toList.map ρ) M
  | .builtin .max => aMin (fun y x => decide (x < y)) (c.args.toList.map ρ) M
  | .value x => match fnOf x (ρ x) with
   | some (f, xs) => aCall C f (c.args.toList.map ρ ++ xs.map .d) M
   | none => fail M
  | .invoke _ _ => fail M
  | .builtin _ => fail M
 | .nilCheck x => aNil (ρ x) M
 | _ => fail M
end Go.Vg
