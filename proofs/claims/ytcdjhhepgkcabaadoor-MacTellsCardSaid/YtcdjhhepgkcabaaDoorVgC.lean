/- Vg, part C: abstract values, memory, the abstract step, and what it means that an abstract state stands for a real one. -/
import Derived.Test.YtcdjhhepgkcabaaDoorVgB
namespace Go.Vg
open Go Go.RowKit

inductive AV where
  | d (x : D)
  | any
  | ptr (b : Nat) (p : List Nat)
  | own (b : Nat) (p : List Nat) (off len cap : Nat)
  | row (b : Nat)
  | dat (x : D)
  | bq (p q : Prop)
  | rpt (b i : Nat)
  deriving Inhabited

inductive Blk where
  | fix (x : D)
  | row (e : TypeId) (x : D)
  deriving Inhabited

abbrev Mem := List (Nat × Blk)

def look : Mem → Nat → Option Blk
  | [], _ => none
  | (k, x) :: m, b => bif Nat.beq k b then some x else look m b

def putM : Mem → Nat → Blk → Mem
  | [], b, x => [(b, x)]
  | (k, y) :: m, b, x => bif Nat.beq k b then (k, x) :: m else (k, y) :: putM m b x

def dropM : Mem → Nat → Mem
  | [], _ => []
  | (k, y) :: m, b => bif Nat.beq k b then dropM m b else (k, y) :: dropM m b

theorem beq_cases (a b : Nat) : (Nat.beq a b = true ∧ a = b) ∨ (Nat.beq a b = false ∧ a ≠ b) := by
  by_cases h : a = b
  · exact .inl ⟨by rw [h]; exact Nat.beq_refl b, h⟩
  · exact .inr ⟨by cases e : Nat.beq a b with
      | false => rfl
      | true => exact absurd (Nat.eq_of_beq_eq_true e) h, h⟩

theorem look_put (m : Mem) (b : Nat) (x : Blk) (c : Nat) : look (putM m b x) c = if c = b then some x else look m c := by
  induction m with
  | nil =>
    simp only [putM, look]
    rcases beq_cases b c with ⟨h, rfl⟩ | ⟨h, hn⟩
    · simp [h]
    · simp [h, Ne.symm hn]
  | cons y m ih =>
    obtain ⟨k, y⟩ := y
    simp only [putM]
    rcases beq_cases k b with ⟨h, rfl⟩ | ⟨h, hn⟩
    · simp only [h, cond_true, look]
      rcases beq_cases k c with ⟨h', rfl⟩ | ⟨h', hn'⟩
      · simp [h']
      · simp [h', Ne.symm hn']
    · simp only [h, cond_false, look, ih]
      rcases beq_cases k c with ⟨h', rfl⟩ | ⟨h', hn'⟩
      · simp [h', hn]
      · simp [h']

theorem look_drop (m : Mem) (b c : Nat) : look (dropM m b) c = if c = b then none else look m c := by
  induction m with
  | nil => simp [dropM, look]
  | cons y m ih =>
    obtain ⟨k, y⟩ := y
    simp only [dropM]
    rcases beq_cases k b with ⟨h, rfl⟩ | ⟨h, hn⟩
    · simp only [h, cond_true, ih, look]
      rcases beq_cases k c with ⟨h', rfl⟩ | ⟨h', hn'⟩
      · simp
      · simp [h', Ne.symm hn']
    · simp only [h, cond_false, look, ih]
      rcases beq_cases k c with ⟨h', rfl⟩ | ⟨h', hn'⟩
      · simp [h', hn]
      · simp [h']

structure St where
  T : List AV
  M : Mem

def St.put (s : St) (dst : Option Nat) (x : AV) : St :=
  match dst with
  | some d => ⟨s.T.set d x, s.M⟩
  | none => s

/-- Where the abstract blocks lie, and what the rows' slices are now. -/
structure Sg where
  blk : Nat → Option Nat
  rv : Nat → Value
  ok : Nat → Prop

/-- The blocks that stay as they are: all but the call's own. -/
def Xs (σ : Sg) (M : Mem) (w : World) : Nat → Prop := fun β => β < w.heap.size ∧ σ.ok β ∧ ∀ b x, look M b = some x → σ.blk b ≠ some β

/-- The cells of a row's element. -/
def rsz : D → Nat
  | .slc sz _ => sz
  | _ => 1

def AR (σ : Sg) (M : Mem) (w : World) (X : Nat → Prop) : AV → Value → Prop
  | .d x, v => VR w X x v
  | .any, _ => True
  | .ptr b p, v => ∃ x β, look M b = some (.fix x) ∧ σ.blk b = some β ∧ okP x p ∧ v = .pointer (some ⟨β, offS (sk x) p, none⟩)
  | .own b p off len cap, v => ∃ x β k n l α, look M b = some (.fix x) ∧ σ.blk b = some β ∧ okP x p ∧ getP x p = .arr k n l ∧ off + cap ≤ n ∧ len ≤ cap ∧
      v = .slice (some α) len cap ∧ (0 < cap → α = ⟨β, offS (sk x) p + off, none⟩)
  | .row b, v => ∃ e x, look M b = some (.row e x) ∧ v = σ.rv b
  | .bq p q, v => ∃ b, v = .bool b ∧ (b = true → p) ∧ (b = false → q)
  | .rpt b i, v => ∃ e x g n cap, look M b = some (.row e x) ∧ σ.rv b = .slice (some ⟨g, 0, none⟩) n cap ∧ v = .pointer (some ⟨g, i * rsz x, none⟩)
  | .dat x, v => ∃ β o cs, v = .pointer (some ⟨β, o, none⟩) ∧ X β ∧ CR w X x cs ∧ ∀ (j : Nat) (u : Value), cs[j]? = some u → w.cell? ⟨β, o + j, none⟩ = some u

def RowC (w : World) (X : Nat → Prop) : D → Nat → Nat → List Value → Prop
  | .ints k l, sz, n, cs => sz = 1 ∧ n = l.length ∧ cs = l.map (Value.int k)
  | .slc s xs, sz, n, cs => sz = s ∧ 0 < s ∧ n = xs.length ∧ ER w X s xs cs
  | _, _, _, _ => False

/-- What may have turned since the call began: new blocks, and those handed in to be written. -/
structure Frm (F : Nat → Prop) (w0 w : World) : Prop where
  os : w.os = w0.os
  tape : w.tape = w0.tape
  output : w.output = w0.output
  size : w0.heap.size ≤ w.heap.size
  block : ∀ k, k < w0.heap.size → ¬ F k → w.heap[k]? = w0.heap[k]?

def BR (σ : Sg) (w0 : World) (F : Nat → Prop) (w : World) (X : Nat → Prop) (b : Nat) : Blk → Prop
  | .fix x => ∃ β cs e, σ.blk b = some β ∧ (w0.heap.size ≤ β ∨ 1000 ≤ b ∧ F β) ∧ w.heap[β]? = some (.cells (List.toArray cs) e (0, 0)) ∧ CR w X x cs
  | .row e x => ∃ cs sz n, σ.blk b = (σ.rv b).ownBlock ∧ w.ownsRow w0.heap.size e sz (σ.rv b) n cs ∧ RowC w X x sz n cs

/-- What is fixed during a call: the blocks handed in to be written; the blocks in which data may lie. -/
structure Env where
  F : Nat → Prop
  ok : Nat → Prop

def lookG : List (Nat × D) → Nat → Option D
  | [], _ => none
  | (k, d) :: l, g => bif Nat.beq k g then some d else lookG l g

/-- The package-level variables read as they are listed. -/
def GW (w : World) (X : Nat → Prop) : Prop := ∀ g d, lookG gls g = some d → g < w.heap.size ∧ X g ∧ ∃ cs, (∀ w' X', CR w' X' d cs) ∧ ∀ (j : Nat) (u : Value), cs[j]? = some u → w.cell? ⟨g, j, none⟩ = some u

theorem GW.mono {w : World} {X X' : Nat → Prop} (h : ∀ β, X β → β < w.heap.size → X' β) (hg : GW w X) : GW w X' := fun g d hd => ⟨(hg g d hd).1, h g (hg g d hd).2.1 (hg g d hd).1, (hg g d hd).2.2⟩

/-- The abstract state stands for the real one. -/
structure Rel (w0 : World) (F : Env) (σ : Sg) (s : St) (a : Act) (w : World) : Prop where
  defs : a.defers = []
  len : a.tmps.size = s.T.length
  tmp : ∀ (i : Nat) (x : AV), s.T[i]? = some x → ∃ v, a.tmps[i]? = some v ∧ AR σ s.M w (Xs σ s.M w) x v
  mem : ∀ b k, look s.M b = some k → BR σ w0 F.F w (Xs σ s.M w) b k
  inj : ∀ b b' k k' β, look s.M b = some k → look s.M b' = some k' → σ.blk b = some β → σ.blk b' = some β → b = b'
  frm : Frm F.F w0 w
  okn : (∀ β, w0.heap.size ≤ β → σ.ok β) ∧ σ.ok = F.ok ∧ GW w0 F.ok ∧ ∀ g d, lookG gls g = some d → ¬ F.F g

theorem Rel.gw {w0 : World} {F : Env} {σ : Sg} {s : St} {a : Act} {w : World} (r : Rel w0 F σ s a w) : GW w (Xs σ s.M w) := by
  intro g d hd
  obtain ⟨_, h2, h3, h4⟩ := r.okn
  obtain ⟨g1, g2, cs, g3, g4⟩ := h3 g d hd
  have hlt := Nat.lt_of_lt_of_le g1 r.frm.size
  refine ⟨hlt, ⟨hlt, by rw [h2]; exact g2, fun b x hb hσ => ?_⟩, cs, g3, fun j u hu => ?_⟩
  · have hm := r.mem b x hb
    cases x with
    | fix z =>
      obtain ⟨β, _, _, q1, q2, _⟩ := hm
      rw [hσ] at q1
      obtain rfl := Option.some.inj q1
      rcases q2 with q2 | q2
      · omega
      · exact h4 g d hd q2.2
    | row e z =>
      obtain ⟨_, _, _, q1, q2, _⟩ := hm
      rw [hσ] at q1
      have := (q2.lt g q1.symm).1
      omega
  · rw [World.cell?_of_block (w := w0) (r.frm.block g g1 (h4 g d hd))]
    exact g4 j u hu

theorem AR.mono {σ : Sg} {M : Mem} {w w' : World} {X X' : Nat → Prop} (h : ∀ β, X β → X' β ∧ w'.heap[β]? = w.heap[β]?) (x : AV) (v : Value) (hv : AR σ M w X x v) : AR σ M w' X' x v := by
  cases x with
  | d x => exact VR.mono h x v hv
  | any => trivial
  | ptr b p => exact hv
  | own b p o l c => exact hv
  | row b => exact hv
  | bq p q => exact hv
  | rpt b i => exact hv
  | dat x =>
    obtain ⟨β, o, cs, e, hx, hc, hr⟩ := hv
    refine ⟨β, o, cs, e, (h β hx).1, CR.mono h x cs hc, fun j u hu => ?_⟩
    rw [World.cell?_of_block (w := w) (h β hx).2]
    exact hr j u hu

theorem RowC.mono {w w' : World} {X X' : Nat → Prop} (h : ∀ β, X β → X' β ∧ w'.heap[β]? = w.heap[β]?) {x : D} {sz n : Nat} {cs : List Value} (hv : RowC w X x sz n cs) : RowC w' X' x sz n cs := by
  cases x with
  | ints k l => exact hv
  | slc s xs => exact ⟨hv.1, hv.2.1, hv.2.2.1, ER.mono h s xs cs hv.2.2.2⟩
  | _ => exact hv.elim

theorem RowC.len {w : World} {X : Nat → Prop} {x : D} {sz n : Nat} {cs : List Value} (hv : RowC w X x sz n cs) : cs.length = n * sz := by
  cases x with
  | ints k l => obtain ⟨rfl, rfl, rfl⟩ := hv; simp
  | slc s xs => obtain ⟨rfl, _, rfl, h⟩ := hv; exact ER.len xs cs h
  | _ => exact hv.elim

theorem ER.cell {w : World} {X : Nat → Prop} {sz : Nat} : ∀ (ds : List D) (vs : List Value), ER w X sz ds vs → ∀ v ∈ vs, isCell v = true
  | [], _, hc => by simp only [ER] at hc; simp [hc]
  | d :: ds, _, hc => by
    simp only [ER] at hc
    obtain ⟨v1, v2, rfl, _, h1, h2⟩ := hc
    intro v hv
    rcases List.mem_append.1 hv with h | h
    · exact CR.cell d v1 h1 v h
    · exact ER.cell ds v2 h2 v h

theorem RowC.cell {w : World} {X : Nat → Prop} {x : D} {sz n : Nat} {cs : List Value} (hv : RowC w X x sz n cs) : ∀ v ∈ cs, isCell v = true := by
  cases x with
  | ints k l =>
    obtain ⟨rfl, rfl, rfl⟩ := hv
    intro v hv
    obtain ⟨x, _, rfl⟩ := List.mem_map.1 hv
    rfl
  | slc s xs => obtain ⟨rfl, _, rfl, h⟩ := hv; exact ER.cell xs cs h
  | _ => exact hv.elim

theorem Frm.refl (F : Nat → Prop) (w : World) : Frm F w w := ⟨rfl, rfl, rfl, Nat.le_refl _, fun _ _ _ => rfl⟩
theorem Frm.trans {F : Nat → Prop} {a b c : World} (h : Frm F a b) (k : Frm F b c) : Frm F a c :=
  ⟨k.os.trans h.os, k.tape.trans h.tape, k.output.trans h.output, Nat.le_trans h.size k.size, fun i hi hF => (k.block i (Nat.lt_of_lt_of_le hi h.size) hF).trans (h.block i hi hF)⟩

/-- No block that is there has turned. -/
structure Grow (w w' : World) : Prop where
  os : w'.os = w.os
  tape : w'.tape = w.tape
  output : w'.output = w.output
  size : w.heap.size ≤ w'.heap.size
  block : ∀ k, k < w.heap.size → w'.heap[k]? = w.heap[k]?

theorem Grow.refl (w : World) : Grow w w := ⟨rfl, rfl, rfl, Nat.le_refl _, fun _ _ => rfl⟩
theorem Grow.trans {a b c : World} (h : Grow a b) (k : Grow b c) : Grow a c :=
  ⟨k.os.trans h.os, k.tape.trans h.tape, k.output.trans h.output, Nat.le_trans h.size k.size, fun i hi => (k.block i (Nat.lt_of_lt_of_le hi h.size)).trans (h.block i hi)⟩
theorem Grow.frm {w w' : World} (h : Grow w w') (F : Nat → Prop) : Frm F w w' := ⟨h.os, h.tape, h.output, h.size, fun k hk _ => h.block k hk⟩
theorem Grow.alloc (w : World) (o : Obj) : Grow w (w.alloc o) := ⟨rfl, rfl, rfl, by simp, fun k hk => Below.heap_alloc _ _ _ hk⟩
theorem Grow.drew (w : World) : Grow w w.drew := ⟨rfl, rfl, rfl, Nat.le_refl _, fun _ _ => rfl⟩

theorem Xs.grow {σ : Sg} {M : Mem} {w w' : World} (h : Grow w w') : ∀ β, Xs σ M w β → Xs σ M w' β ∧ w'.heap[β]? = w.heap[β]? :=
  fun β hβ => ⟨⟨Nat.lt_of_lt_of_le hβ.1 h.size, hβ.2⟩, h.block β hβ.1⟩

theorem block_lt {w : World} {β : Nat} {o : Obj} (h : w.heap[β]? = some o) : β < w.heap.size := (Array.getElem?_eq_some_iff.1 h).1

theorem ownsRow_grow {w w' : World} (h : Grow w w') {B : Nat} {e : TypeId} {sz : Nat} {v : Value} {n : Nat} {cs : List Value} (ho : w.ownsRow B e sz v n cs) : w'.ownsRow B e sz v n cs := by
  refine ⟨ho.1, ?_⟩
  rcases ho.2 with ho | ⟨g, cap, cur, hv, hg, hh, r⟩
  · exact .inl ho
  · exact .inr ⟨g, cap, cur, hv, hg, by rw [h.block g (block_lt hh)]; exact hh, r⟩

theorem BR.grow {σ : Sg} {w0 : World} {F : Nat → Prop} {w w' : World} {M : Mem} (h : Grow w w') {b : Nat} {k : Blk} (hb : BR σ w0 F w (Xs σ M w) b k) : BR σ w0 F w' (Xs σ M w') b k := by
  cases k with
  | fix x =>
    obtain ⟨β, cs, e, h1, h2, h3, h4⟩ := hb
    exact ⟨β, cs, e, h1, h2, by rw [h.block β (block_lt h3)]; exact h3, CR.mono (Xs.grow h) x cs h4⟩
  | row e x =>
    obtain ⟨cs, sz, n, h1, h2, h3⟩ := hb
    exact ⟨cs, sz, n, h1, ownsRow_grow h h2, h3.mono (Xs.grow h)⟩

/-- A world that only grows keeps all. -/
theorem Rel.grow {w0 : World} {F : Env} {σ : Sg} {s : St} {a : Act} {w w' : World} (r : Rel w0 F σ s a w) (h : Grow w w') : Rel w0 F σ s a w' :=
  ⟨r.defs, r.len, fun i x hx => by
    obtain ⟨v, hv, ha⟩ := r.tmp i x hx
    exact ⟨v, hv, AR.mono (Xs.grow h) x v ha⟩, fun b k hk => (r.mem b k hk).grow h, r.inj, r.frm.trans (h.frm F.F), r.okn⟩

theorem getElem?_set_cases {α : Type} (l : List α) (d i : Nat) (x y : α) (h : (l.set d x)[i]? = some y) : (i = d ∧ y = x ∧ i < l.length) ∨ (i ≠ d ∧ l[i]? = some y) := by
  rw [List.getElem?_set] at h
  split at h
  · rename_i hd
    subst hd
    split at h
    · exact .inl ⟨rfl, (Option.some.inj h).symm, by assumption⟩
    · cases h
  · rename_i hd
    exact .inr ⟨fun e => hd e.symm, h⟩

/-- A slot is written. -/
theorem Rel.put {w0 : World} {F : Env} {σ : Sg} {s : St} {a : Act} {w : World} (r : Rel w0 F σ s a w) (dst : Option Nat) {x : AV} {v : Value} (hx : AR σ s.M w (Xs σ s.M w) x v) :
    Rel w0 F σ (s.put dst x) (a.put dst v) w := by
  cases dst with
  | none => exact r
  | some d =>
    refine ⟨r.defs, by simp [Act.put, St.put, r.len], fun i y hy => ?_, r.mem, r.inj, r.frm, r.okn⟩
    simp only [Act.put]
    rcases getElem?_set_cases _ _ _ _ _ hy with ⟨rfl, rfl, hl⟩ | ⟨hne, hy⟩
    · exact ⟨v, by simp [Array.getElem?_setIfInBounds, r.len, hl], hx⟩
    · obtain ⟨u, hu, ha⟩ := r.tmp i y hy
      exact ⟨u, by rw [Array.getElem?_setIfInBounds_ne (Ne.symm hne)]; exact hu, ha⟩

end Go.Vg
