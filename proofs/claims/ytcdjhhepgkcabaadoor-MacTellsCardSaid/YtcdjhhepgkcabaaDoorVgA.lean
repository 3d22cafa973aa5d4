/- Vg, part A: tree-shaped data, how it reads in a world, and that it keeps reading while its blocks keep. Plain lemmas. -/
import Derived.Orders
import Derived.Below
import Derived.Laws.OwnMore
namespace Go.Vg
open Go Go.RowKit

/-- A cell's value: no aggregate, no tuple. -/
def isCell : Value → Bool
  | .agg _ | .tuple _ => false
  | _ => true

theorem isCell_one (v : Value) : v.oneCell' = isCell v := by cases v <;> rfl

/-- Tree-shaped data. -/
inductive D where
  | val (v : Value)
  | arr (k : IntKind) (n : Nat) (l : List Int)
  | st (fs : List D)
  | ints (k : IntKind) (l : List Int)
  | slc (sz : Nat) (xs : List D)
  | tup (ds : List D)
  | str (l : List Int)
  | ref (x : D)
  | clo (f : Nat) (xs : List D)
  deriving Inhabited

/-- A string's bytes out of a list of numbers. -/
def bstr (l : List Int) : ByteArray := ⟨(l.map fun n => UInt8.ofNat n.toNat).toArray⟩
def isBytes (l : List Int) : Prop := ∀ x ∈ l, 0 ≤ x ∧ x < 256

instance : Inhabited D := ⟨.val (.bool false)⟩

mutual
def D.size : D → Nat
  | .val _ => 1
  | .arr _ n _ => n
  | .st fs => D.sizes fs
  | .ints _ _ => 1
  | .slc _ _ => 1
  | .tup _ => 0
  | .str _ => 1
  | .ref _ => 1
  | .clo _ _ => 1
def D.sizes : List D → Nat
  | [] => 0
  | d :: ds => D.size d + D.sizes ds
end

/-- Is it an aggregate (an array, a struct)? -/
def D.isAgg : D → Bool
  | .arr _ _ _ | .st _ => true
  | _ => false

/-- The cells 'cs' lie in a block of X from a slice's address on. -/
def At (w : World) (X : Nat → Prop) (a : Option Addr) (cs : List Value) : Prop :=
  cs = [] ∨ ∃ β o, a = some ⟨β, o, none⟩ ∧ X β ∧ ∀ (j : Nat) (v : Value), cs[j]? = some v → w.cell? ⟨β, o + j, none⟩ = some v

mutual
def CR (w : World) (X : Nat → Prop) : D → List Value → Prop
  | .val v, vs => vs = [v] ∧ isCell v = true
  | .arr k n l, vs => l.length = n ∧ vs = l.map (Value.int k)
  | .st fs, vs => CRs w X fs vs
  | .ints k l, vs => ∃ a c, vs = [.slice a l.length c] ∧ l.length ≤ c ∧ At w X a (l.map (Value.int k))
  | .slc sz xs, vs => ∃ a c cs, vs = [.slice a xs.length c] ∧ xs.length ≤ c ∧ At w X a cs ∧ ER w X sz xs cs
  | .tup _, _ => False
  | .str l, vs => vs = [.string (bstr l)] ∧ isBytes l
  | .ref x, vs => ∃ β o cs, vs = [.pointer (some ⟨β, o, none⟩)] ∧ X β ∧ CR w X x cs ∧ ∀ (j : Nat) (u : Value), cs[j]? = some u → w.cell? ⟨β, o + j, none⟩ = some u
  | .clo f xs, vs => ∃ ps : List Value, vs = [.func (.func f) #[] ps.toArray] ∧ ER w X 1 xs ps ∧ ∀ x ∈ xs, x.isAgg = false
def CRs (w : World) (X : Nat → Prop) : List D → List Value → Prop
  | [], vs => vs = []
  | d :: ds, vs => ∃ v1 v2, vs = v1 ++ v2 ∧ CR w X d v1 ∧ CRs w X ds v2
def ER (w : World) (X : Nat → Prop) (sz : Nat) : List D → List Value → Prop
  | [], vs => vs = []
  | d :: ds, vs => ∃ v1 v2, vs = v1 ++ v2 ∧ v1.length = sz ∧ CR w X d v1 ∧ ER w X sz ds v2
end

theorem At.mono {w w' : World} {X X' : Nat → Prop} (h : ∀ β, X β → X' β ∧ w'.heap[β]? = w.heap[β]?) {a : Option Addr} {cs : List Value} (ha : At w X a cs) : At w' X' a cs := by
  rcases ha with rfl | ⟨β, o, rfl, hx, hc⟩
  · exact .inl rfl
  · refine .inr ⟨β, o, rfl, (h β hx).1, fun j v hv => ?_⟩
    rw [World.cell?_of_block (w := w) (h β hx).2]
    exact hc j v hv

mutual
theorem CR.mono {w w' : World} {X X' : Nat → Prop} (h : ∀ β, X β → X' β ∧ w'.heap[β]? = w.heap[β]?) : ∀ (d : D) (vs : List Value), CR w X d vs → CR w' X' d vs
  | .val _, _, hc => by simpa only [CR] using hc
  | .arr _ _ _, _, hc => by simpa only [CR] using hc
  | .st fs, vs, hc => by
    simp only [CR] at hc ⊢
    exact CRs.mono h fs vs hc
  | .ints _ _, _, hc => by
    simp only [CR] at hc ⊢
    obtain ⟨a, c, e, hl, ha⟩ := hc
    exact ⟨a, c, e, hl, ha.mono h⟩
  | .slc sz xs, _, hc => by
    simp only [CR] at hc ⊢
    obtain ⟨a, c, cs, e, hl, ha, he⟩ := hc
    exact ⟨a, c, cs, e, hl, ha.mono h, ER.mono h sz xs cs he⟩
  | .tup _, _, hc => by simp only [CR] at hc
  | .str _, _, hc => by simpa only [CR] using hc
  | .ref x, _, hc => by
    simp only [CR] at hc ⊢
    obtain ⟨β, o, cs, e, hx, hr, hcell⟩ := hc
    refine ⟨β, o, cs, e, (h β hx).1, CR.mono h x cs hr, fun j u hu => ?_⟩
    rw [World.cell?_of_block (w := w) (h β hx).2]
    exact hcell j u hu
  | .clo _ xs, _, hc => by
    simp only [CR] at hc ⊢
    obtain ⟨ps, e, he, ha⟩ := hc
    exact ⟨ps, e, ER.mono h 1 xs ps he, ha⟩
theorem CRs.mono {w w' : World} {X X' : Nat → Prop} (h : ∀ β, X β → X' β ∧ w'.heap[β]? = w.heap[β]?) : ∀ (ds : List D) (vs : List Value), CRs w X ds vs → CRs w' X' ds vs
  | [], _, hc => by simpa only [CRs] using hc
  | d :: ds, _, hc => by
    simp only [CRs] at hc ⊢
    obtain ⟨v1, v2, e, h1, h2⟩ := hc
    exact ⟨v1, v2, e, CR.mono h d v1 h1, CRs.mono h ds v2 h2⟩
theorem ER.mono {w w' : World} {X X' : Nat → Prop} (h : ∀ β, X β → X' β ∧ w'.heap[β]? = w.heap[β]?) (sz : Nat) : ∀ (ds : List D) (vs : List Value), ER w X sz ds vs → ER w' X' sz ds vs
  | [], _, hc => by simpa only [ER] using hc
  | d :: ds, _, hc => by
    simp only [ER] at hc ⊢
    obtain ⟨v1, v2, e, hl, h1, h2⟩ := hc
    exact ⟨v1, v2, e, hl, CR.mono h d v1 h1, ER.mono h sz ds v2 h2⟩
end

mutual
theorem CR.len {w : World} {X : Nat → Prop} : ∀ (d : D) (vs : List Value), CR w X d vs → vs.length = d.size
  | .val _, _, hc => by simp only [CR] at hc; simp [hc.1, D.size]
  | .arr _ _ _, _, hc => by simp only [CR] at hc; simp [hc.2, hc.1, D.size]
  | .st fs, vs, hc => by simp only [CR] at hc; rw [D.size]; exact CRs.len fs vs hc
  | .ints _ _, _, hc => by simp only [CR] at hc; obtain ⟨a, c, e, _⟩ := hc; simp [e, D.size]
  | .slc _ _, _, hc => by simp only [CR] at hc; obtain ⟨a, c, cs, e, _⟩ := hc; simp [e, D.size]
  | .tup _, _, hc => by simp only [CR] at hc
  | .str _, _, hc => by simp only [CR] at hc; simp [hc.1, D.size]
  | .ref _, _, hc => by simp only [CR] at hc; obtain ⟨β, o, cs, e, _⟩ := hc; simp [e, D.size]
  | .clo _ _, _, hc => by simp only [CR] at hc; obtain ⟨ps, e, _⟩ := hc; simp [e, D.size]
theorem CRs.len {w : World} {X : Nat → Prop} : ∀ (ds : List D) (vs : List Value), CRs w X ds vs → vs.length = D.sizes ds
  | [], _, hc => by simp only [CRs] at hc; simp [hc, D.sizes]
  | d :: ds, _, hc => by
    simp only [CRs] at hc
    obtain ⟨v1, v2, rfl, h1, h2⟩ := hc
    rw [List.length_append, D.sizes, CR.len d v1 h1, CRs.len ds v2 h2]
end

mutual
/-- A cell is no aggregate. -/
theorem CR.cell {w : World} {X : Nat → Prop} : ∀ (d : D) (vs : List Value), CR w X d vs → ∀ v ∈ vs, isCell v = true
  | .val _, _, hc => by simp only [CR] at hc; intro v hv; rw [hc.1] at hv; simp at hv; subst hv; exact hc.2
  | .arr _ _ _, _, hc => by
    simp only [CR] at hc; intro v hv; rw [hc.2] at hv
    obtain ⟨x, _, rfl⟩ := List.mem_map.1 hv; rfl
  | .st fs, vs, hc => by simp only [CR] at hc; exact CRs.cell fs vs hc
  | .ints _ _, _, hc => by simp only [CR] at hc; obtain ⟨a, c, rfl, _⟩ := hc; intro v hv; simp at hv; subst hv; rfl
  | .slc _ _, _, hc => by simp only [CR] at hc; obtain ⟨a, c, cs, rfl, _⟩ := hc; intro v hv; simp at hv; subst hv; rfl
  | .tup _, _, hc => by simp only [CR] at hc
  | .str _, _, hc => by simp only [CR] at hc; intro v hv; rw [hc.1] at hv; simp at hv; subst hv; rfl
  | .ref _, _, hc => by simp only [CR] at hc; obtain ⟨β, o, cs, rfl, _⟩ := hc; intro v hv; simp at hv; subst hv; rfl
  | .clo _ _, _, hc => by simp only [CR] at hc; obtain ⟨ps, rfl, _⟩ := hc; intro v hv; simp at hv; subst hv; rfl
theorem CRs.cell {w : World} {X : Nat → Prop} : ∀ (ds : List D) (vs : List Value), CRs w X ds vs → ∀ v ∈ vs, isCell v = true
  | [], _, hc => by simp only [CRs] at hc; simp [hc]
  | d :: ds, _, hc => by
    simp only [CRs] at hc
    obtain ⟨v1, v2, rfl, h1, h2⟩ := hc
    intro v hv
    rcases List.mem_append.1 hv with h | h
    · exact CR.cell d v1 h1 v h
    · exact CRs.cell ds v2 h2 v h
end

theorem ER.len {w : World} {X : Nat → Prop} {sz : Nat} : ∀ (ds : List D) (vs : List Value), ER w X sz ds vs → vs.length = ds.length * sz
  | [], _, hc => by simp only [ER] at hc; simp [hc]
  | d :: ds, _, hc => by
    simp only [ER] at hc
    obtain ⟨v1, v2, rfl, hl, h1, h2⟩ := hc
    rw [List.length_append, hl, ER.len ds v2 h2, List.length_cons, Nat.add_mul]; omega

/-- An element of a slice: where its cells lie. -/
theorem ER.elem {w : World} {X : Nat → Prop} {sz : Nat} : ∀ (ds : List D) (vs : List Value), ER w X sz ds vs → ∀ (i : Nat) (d : D), ds[i]? = some d →
    CR w X d ((vs.drop (i * sz)).take sz) ∧ ((vs.drop (i * sz)).take sz).length = sz
  | [], _, _ => by intro i d h; simp at h
  | d :: ds, _, hc => by
    simp only [ER] at hc
    obtain ⟨v1, v2, rfl, hl, h1, h2⟩ := hc
    intro i e he
    cases i with
    | zero =>
      simp only [List.getElem?_cons_zero, Option.some.injEq] at he
      subst he
      rw [Nat.zero_mul, List.drop_zero, List.take_append_of_le_length (by omega), List.take_of_length_le (by omega)]
      exact ⟨h1, hl⟩
    | succ i =>
      simp only [List.getElem?_cons_succ] at he
      have := ER.elem ds v2 h2 i e he
      rw [Nat.add_mul, Nat.one_mul, Nat.add_comm, ← List.drop_drop, List.drop_left' hl]
      exact this

theorem ER.append {w : World} {X : Nat → Prop} {sz : Nat} : ∀ (ds es : List D) (vs us : List Value), ER w X sz ds vs → ER w X sz es us → ER w X sz (ds ++ es) (vs ++ us)
  | [], es, vs, us, h, k => by simp only [ER] at h; subst h; simpa using k
  | d :: ds, es, vs, us, h, k => by
    simp only [ER] at h
    obtain ⟨v1, v2, rfl, hl, h1, h2⟩ := h
    simp only [List.cons_append, ER]
    exact ⟨v1, v2 ++ us, by simp, hl, h1, ER.append ds es v2 us h2 k⟩

theorem ER.cut {w : World} {X : Nat → Prop} {sz : Nat} : ∀ (n : Nat) (ds : List D) (vs : List Value), ER w X sz ds vs → ER w X sz (ds.drop n) (vs.drop (n * sz)) ∧ ER w X sz (ds.take n) (vs.take (n * sz))
  | 0, ds, vs, h => by simp [h, ER]
  | n + 1, [], vs, h => by simp only [ER] at h; subst h; simp [ER]
  | n + 1, d :: ds, vs, h => by
    simp only [ER] at h
    obtain ⟨v1, v2, rfl, hl, h1, h2⟩ := h
    have ih := ER.cut n ds v2 h2
    have e : (n + 1) * sz = v1.length + n * sz := by rw [hl, Nat.add_mul]; omega
    constructor
    · rw [e, List.drop_succ_cons, ← List.drop_drop, List.drop_left' rfl]
      exact ih.1
    · rw [e, List.take_length_add_append, List.take_succ_cons]
      simp only [ER]
      exact ⟨v1, _, rfl, hl, h1, ih.2⟩

theorem At.cut {w : World} {X : Nat → Prop} {β o : Nat} {cs : List Value} (hx : X β) (h : ∀ (j : Nat) (v : Value), cs[j]? = some v → w.cell? ⟨β, o + j, none⟩ = some v) (lo n : Nat) :
    At w X (some ⟨β, o + lo, none⟩) ((cs.drop lo).take n) := by
  refine .inr ⟨β, o + lo, rfl, hx, fun j v hv => ?_⟩
  rw [List.getElem?_take] at hv
  split at hv
  · rw [List.getElem?_drop] at hv
    rw [Nat.add_assoc]
    exact h _ _ hv
  · cases hv

/-- Pointwise. -/
inductive All2 {α β : Type} (R : α → β → Prop) : List α → List β → Prop
  | nil : All2 R [] []
  | cons {a b as bs} : R a b → All2 R as bs → All2 R (a :: as) (b :: bs)

theorem All2.len {α β : Type} {R : α → β → Prop} {l : List α} {m : List β} (h : All2 R l m) : l.length = m.length := by
  induction h with
  | nil => rfl
  | cons _ _ ih => simp [ih]

theorem All2.get {α β : Type} {R : α → β → Prop} {l : List α} {m : List β} (h : All2 R l m) : ∀ (i : Nat) (x : α), l[i]? = some x → ∃ y, m[i]? = some y ∧ R x y := by
  induction h with
  | nil => intro i x hx; simp at hx
  | cons hab _ ih =>
    intro i x hx
    cases i with
    | zero => simp at hx; subst hx; exact ⟨_, rfl, hab⟩
    | succ i => simpa using ih i x (by simpa using hx)

theorem All2.mono {α β : Type} {R R' : α → β → Prop} (hr : ∀ a b, R a b → R' a b) {l : List α} {m : List β} (h : All2 R l m) : All2 R' l m := by
  induction h with
  | nil => exact .nil
  | cons hab _ ih => exact .cons (hr _ _ hab) ih

theorem All2.set {α β : Type} {R : α → β → Prop} {l : List α} {m : List β} (h : All2 R l m) (i : Nat) {x : α} {y : β} (hxy : R x y) : All2 R (l.set i x) (m.set i y) := by
  induction h generalizing i with
  | nil => exact .nil
  | cons hab h ih =>
    cases i with
    | zero => exact .cons hxy h
    | succ i => exact .cons hab (ih i)

theorem All2.map {α α' β : Type} {R : α → β → Prop} {R' : α' → β → Prop} (f : α → α') (hf : ∀ a b, R a b → R' (f a) b) {l : List α} {m : List β} (h : All2 R l m) : All2 R' (l.map f) m := by
  induction h with
  | nil => exact .nil
  | cons hab _ ih => exact .cons (hf _ _ hab) ih

/-- A value that is no tuple. -/
def VR1 (w : World) (X : Nat → Prop) : D → Value → Prop
  | .arr k n l, v => l.length = n ∧ v = .agg (l.map (Value.int k)).toArray
  | .st fs, v => ∃ cs, v = .agg cs.toArray ∧ CRs w X fs cs
  | d, v => CR w X d [v]

/-- How data reads as a value. -/
def VR (w : World) (X : Nat → Prop) : D → Value → Prop
  | .tup ds, v => ∃ vs : List Value, v = .tuple vs.toArray ∧ All2 (VR1 w X) ds vs
  | d, v => VR1 w X d v

theorem VR1.mono {w w' : World} {X X' : Nat → Prop} (h : ∀ β, X β → X' β ∧ w'.heap[β]? = w.heap[β]?) (d : D) (v : Value) (hv : VR1 w X d v) : VR1 w' X' d v := by
  cases d with
  | arr k n l => exact hv
  | st fs => obtain ⟨cs, e, hc⟩ := hv; exact ⟨cs, e, CRs.mono h fs cs hc⟩
  | val x => exact CR.mono h _ _ hv
  | ints k l => exact CR.mono h _ _ hv
  | slc sz xs => exact CR.mono h _ _ hv
  | tup ds => exact CR.mono h _ _ hv
  | str l => exact CR.mono h _ _ hv
  | ref x => exact CR.mono h _ _ hv
  | clo f xs => exact CR.mono h _ _ hv

theorem VR.mono {w w' : World} {X X' : Nat → Prop} (h : ∀ β, X β → X' β ∧ w'.heap[β]? = w.heap[β]?) (d : D) (v : Value) (hv : VR w X d v) : VR w' X' d v := by
  cases d with
  | tup ds => obtain ⟨vs, e, hc⟩ := hv; exact ⟨vs, e, hc.mono (VR1.mono h)⟩
  | arr k n l => exact VR1.mono h (.arr k n l) _ hv
  | st fs => exact VR1.mono h (.st fs) _ hv
  | val x => exact VR1.mono h (.val x) _ hv
  | ints k l => exact VR1.mono h (.ints k l) _ hv
  | slc sz xs => exact VR1.mono h (.slc sz xs) _ hv
  | str l => exact VR1.mono h (.str l) _ hv
  | ref x => exact VR1.mono h (.ref x) _ hv
  | clo f xs => exact VR1.mono h (.clo f xs) _ hv

def D.isTup : D → Bool
  | .tup _ => true
  | _ => false

theorem VR.one {w : World} {X : Nat → Prop} {d : D} {v : Value} (h : VR w X d v) (hd : d.isTup = false) : VR1 w X d v := by
  cases d <;> first | exact h | cases hd

theorem VR1.up {w : World} {X : Nat → Prop} {d : D} {v : Value} (h : VR1 w X d v) : VR w X d v := by
  cases d with
  | tup ds => exact absurd h (by simp [VR1, CR])
  | _ => exact h

/-- The cells of a value that is no tuple. -/
theorem VR1.cells {w : World} {X : Nat → Prop} {d : D} {v : Value} (h : VR1 w X d v) : CR w X d v.cells.toList := by
  cases d with
  | arr k n l => obtain ⟨h1, rfl⟩ := h; simp [CR, Value.cells, h1]
  | st fs => obtain ⟨cs, rfl, hc⟩ := h; simpa [CR, Value.cells] using hc
  | val x =>
    have h' : CR w X (.val x) [v] := h
    have hcell := CR.cell _ _ h' v (by simp)
    cases v <;> first | exact h | cases hcell
  | ints k l =>
    have h' : CR w X (.ints k l) [v] := h
    have hcell := CR.cell _ _ h' v (by simp)
    cases v <;> first | exact h | cases hcell
  | slc sz xs =>
    have h' : CR w X (.slc sz xs) [v] := h
    have hcell := CR.cell _ _ h' v (by simp)
    cases v <;> first | exact h | cases hcell
  | tup ds => exact absurd h (by simp [VR1, CR])
  | str l =>
    have h' : CR w X (.str l) [v] := h
    have hcell := CR.cell _ _ h' v (by simp)
    cases v <;> first | exact h | cases hcell
  | ref x =>
    have h' : CR w X (.ref x) [v] := h
    have hcell := CR.cell _ _ h' v (by simp)
    cases v <;> first | exact h | cases hcell
  | clo f xs =>
    have h' : CR w X (.clo f xs) [v] := h
    have hcell := CR.cell _ _ h' v (by simp)
    cases v <;> first | exact h | cases hcell

theorem VR1.of_agg {w : World} {X : Nat → Prop} {d : D} {cs : List Value} (h : CR w X d cs) (ha : d.isAgg = true) : VR1 w X d (.agg cs.toArray) := by
  cases d with
  | arr k n l => simp only [CR] at h; obtain ⟨h1, rfl⟩ := h; exact ⟨h1, rfl⟩
  | st fs => simp only [CR] at h; exact ⟨cs, rfl, h⟩
  | _ => cases ha

theorem VR1.of_cell {w : World} {X : Nat → Prop} {d : D} {v : Value} (h : CR w X d [v]) (ha : d.isAgg = false) : VR1 w X d v := by
  cases d with
  | arr k n l => cases ha
  | st fs => cases ha
  | _ => exact h

end Go.Vg
