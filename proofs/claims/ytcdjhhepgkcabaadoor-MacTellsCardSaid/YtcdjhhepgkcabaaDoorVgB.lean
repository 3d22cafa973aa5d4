/- Vg, part B: paths into tree-shaped data: reading, writing, where a part lies. Plain lemmas. -/
import Derived.Test.YtcdjhhepgkcabaaDoorVgGl
namespace Go.Vg
open Go Go.RowKit

/-- The skeleton of data: what decides where its parts lie. -/
inductive Sk where
  | one
  | arr (n : Nat)
  | st (fs : List Sk)
  deriving Inhabited

mutual
def sk : D → Sk
  | .arr _ n _ => .arr n
  | .st fs => .st (sks fs)
  | .val _ => .one
  | .ints _ _ => .one
  | .slc _ _ => .one
  | .tup _ => .one
  | .str _ => .one
  | .ref _ => .one
  | .clo _ _ => .one
def sks : List D → List Sk
  | [] => []
  | d :: ds => sk d :: sks ds
end

mutual
def Sk.size : Sk → Nat
  | .one => 1
  | .arr n => n
  | .st fs => Sk.sizes fs
def Sk.sizes : List Sk → Nat
  | [] => 0
  | d :: ds => d.size + Sk.sizes ds
end

def offS : Sk → List Nat → Nat
  | .st fs, i :: p => Sk.sizes (fs.take i) + offS (fs.getD i .one) p
  | .arr _, i :: _ => i
  | _, _ => 0

def subS : Sk → List Nat → Sk
  | s, [] => s
  | .st fs, i :: p => subS (fs.getD i .one) p
  | .arr _, _ :: _ => .one
  | .one, _ :: _ => .one

def numOf : D → Int
  | .val (.int _ n) => n
  | _ => 0

def getP : D → List Nat → D
  | d, [] => d
  | .st fs, i :: p => getP (fs.getD i default) p
  | .arr k _ l, i :: _ => .val (.int k (l.getD i 0))
  | d, _ :: _ => d

def setP : D → List Nat → D → D
  | _, [], x => x
  | .st fs, i :: p, x => .st (fs.set i (setP (fs.getD i default) p x))
  | .arr k n l, i :: _, x => .arr k n (l.set i (numOf x))
  | d, _ :: _, _ => d

/-- The path leads somewhere. -/
def okP : D → List Nat → Prop
  | _, [] => True
  | .st fs, i :: p => i < fs.length ∧ okP (fs.getD i default) p
  | .arr _ n _, i :: p => i < n ∧ p = []
  | _, _ :: _ => False

def isIntK (k : IntKind) : D → Bool
  | .val (.int k' _) => decide (k' = k)
  | _ => false

/-- The path leads somewhere, and x may be written there. -/
def stP : D → List Nat → D → Prop
  | d, [], x => sk x = sk d
  | .st fs, i :: p, x => i < fs.length ∧ stP (fs.getD i default) p x
  | .arr k n _, i :: p, x => i < n ∧ p = [] ∧ isIntK k x = true
  | _, _ :: _, _ => False

mutual
theorem sk_size : ∀ d : D, d.isTup = false → (∀ vs w X, CR w X d vs → (sk d).size = vs.length)
  | .val _, _, vs, w, X, h => by simp only [CR] at h; simp [sk, Sk.size, h.1]
  | .arr _ n _, _, vs, w, X, h => by simp only [CR] at h; simp [sk, Sk.size, h.2, h.1]
  | .st fs, _, vs, w, X, h => by simp only [CR] at h; simp only [sk, Sk.size]; exact sks_size fs vs w X h
  | .ints _ _, _, vs, w, X, h => by simp only [CR] at h; obtain ⟨a, c, e, _⟩ := h; simp [sk, Sk.size, e]
  | .slc _ _, _, vs, w, X, h => by simp only [CR] at h; obtain ⟨a, c, cs, e, _⟩ := h; simp [sk, Sk.size, e]
  | .tup _, h, _, _, _, _ => by cases h
  | .str _, _, vs, w, X, h => by simp only [CR] at h; simp [sk, Sk.size, h.1]
  | .ref _, _, vs, w, X, h => by simp only [CR] at h; obtain ⟨β, o, cs, e, _⟩ := h; simp [sk, Sk.size, e]
  | .clo _ _, _, vs, w, X, h => by simp only [CR] at h; obtain ⟨ps, e, _⟩ := h; simp [sk, Sk.size, e]
theorem sks_size : ∀ (ds : List D) (vs : List Value) (w : World) (X : Nat → Prop), CRs w X ds vs → Sk.sizes (sks ds) = vs.length
  | [], vs, w, X, h => by simp only [CRs] at h; simp [sks, Sk.sizes, h]
  | d :: ds, vs, w, X, h => by
    simp only [CRs] at h
    obtain ⟨v1, v2, rfl, h1, h2⟩ := h
    have hd : d.isTup = false := by cases d <;> first | rfl | (simp only [CR] at h1)
    simp only [sks, Sk.sizes, List.length_append]
    rw [sk_size d hd v1 w X h1, sks_size ds v2 w X h2]
end

theorem CR.sklen {w : World} {X : Nat → Prop} {d : D} {vs : List Value} (h : CR w X d vs) : (sk d).size = vs.length := by
  have hd : d.isTup = false := by cases d <;> first | rfl | (simp only [CR] at h)
  exact sk_size d hd vs w X h

theorem sks_length : ∀ ds : List D, (sks ds).length = ds.length
  | [] => rfl
  | d :: ds => by simp [sks, sks_length ds]

theorem sks_take : ∀ (ds : List D) (i : Nat), (sks ds).take i = sks (ds.take i)
  | [], i => by simp [sks]
  | d :: ds, 0 => by simp [sks]
  | d :: ds, i + 1 => by simp [sks, sks_take ds i]

theorem sks_getD : ∀ (ds : List D) (i : Nat), i < ds.length → (sks ds).getD i .one = sk (ds.getD i default)
  | [], i, h => by simp at h
  | d :: ds, 0, _ => by simp [sks]
  | d :: ds, i + 1, h => by
    have := sks_getD ds i (by simpa using h)
    simpa [sks] using this

/-- A part of a list of parts. -/
theorem CRs.nth {w : World} {X : Nat → Prop} : ∀ (fs : List D) (vs : List Value) (i : Nat), CRs w X fs vs → i < fs.length →
    ∃ v1 v2 v3, vs = v1 ++ v2 ++ v3 ∧ v1.length = Sk.sizes ((sks fs).take i) ∧ CR w X (fs.getD i default) v2 ∧
      ∀ (x : D) (us : List Value), CR w X x us → CRs w X (fs.set i x) (v1 ++ us ++ v3)
  | [], _, i, _, h => by simp at h
  | d :: ds, vs, 0, hc, _ => by
    simp only [CRs] at hc
    obtain ⟨v1, v2, rfl, h1, h2⟩ := hc
    refine ⟨[], v1, v2, by simp, by simp [Sk.sizes], by simpa using h1, fun x us hx => ?_⟩
    simp only [List.set_cons_zero, CRs, List.nil_append]
    exact ⟨us, v2, rfl, hx, h2⟩
  | d :: ds, vs, i + 1, hc, h => by
    simp only [CRs] at hc
    obtain ⟨v1, v2, rfl, h1, h2⟩ := hc
    obtain ⟨u1, u2, u3, rfl, hl, hg, hs⟩ := CRs.nth ds v2 i h2 (by simpa using h)
    refine ⟨v1 ++ u1, u2, u3, by simp, ?_, by simpa using hg, fun x us hx => ?_⟩
    · simp only [sks, List.take_succ_cons, Sk.sizes, List.length_append, hl, CR.sklen h1]
    · simp only [List.set_cons_succ, CRs]
      exact ⟨v1, u1 ++ us ++ u3, by simp, h1, hs x us hx⟩

/-- What lies at a path. -/
theorem getP_reads {w : World} {X : Nat → Prop} : ∀ (p : List Nat) (d : D) (vs : List Value), CR w X d vs → okP d p →
    ∃ v1 v2 v3, vs = v1 ++ v2 ++ v3 ∧ v1.length = offS (sk d) p ∧ CR w X (getP d p) v2
  | [], d, vs, h, _ => ⟨[], vs, [], by simp, by cases d <;> simp [sk, offS], by simpa [getP] using h⟩
  | i :: p, .st fs, vs, h, hok => by
    simp only [CR] at h
    obtain ⟨hi, hp⟩ := hok
    obtain ⟨v1, v2, v3, rfl, hl, hg, _⟩ := CRs.nth fs vs i h hi
    obtain ⟨u1, u2, u3, rfl, hl', hg'⟩ := getP_reads p _ v2 hg hp
    refine ⟨v1 ++ u1, u2, u3 ++ v3, by simp, ?_, by simpa [getP] using hg'⟩
    simp only [sk, offS, List.length_append, hl, hl', sks_getD fs i hi]
  | i :: p, .arr k n l, vs, h, hok => by
    simp only [CR] at h
    obtain ⟨hl, rfl⟩ := h
    obtain ⟨hi, rfl⟩ := hok
    have hi' : i < l.length := by omega
    refine ⟨(l.map (Value.int k)).take i, [Value.int k (l.getD i 0)], (l.map (Value.int k)).drop (i + 1), ?_, ?_, ?_⟩
    · have e : (l.map (Value.int k))[i]? = some (Value.int k (l.getD i 0)) := by simp [List.getElem?_eq_getElem hi']
      have hlt : i < (l.map (Value.int k)).length := by simpa using hi'
      have e2 : (l.map (Value.int k))[i] = Value.int k (l.getD i 0) := by
        rw [List.getElem?_eq_getElem hlt] at e; exact Option.some.inj e
      rw [List.append_assoc, ← e2, List.singleton_append, List.getElem_cons_drop hlt, List.take_append_drop]
    · simp [sk, offS]; omega
    · simp [getP, CR, isCell]
  | i :: p, .val _, _, _, hok => hok.elim
  | i :: p, .ints _ _, _, _, hok => hok.elim
  | i :: p, .slc _ _, _, _, hok => hok.elim
  | i :: p, .tup _, _, _, hok => hok.elim
  | i :: p, .str _, _, _, hok => hok.elim
  | i :: p, .ref _, _, _, hok => hok.elim
  | i :: p, .clo _ _, _, _, hok => hok.elim

theorem isIntK_eq {k : IntKind} {x : D} (h : isIntK k x = true) : x = .val (.int k (numOf x)) := by
  unfold isIntK at h
  split at h
  · simp at h; subst h; rfl
  · cases h

theorem set_split {α : Type} (l : List α) (i : Nat) (x : α) (h : i < l.length) : l.set i x = l.take i ++ [x] ++ l.drop (i + 1) := by
  rw [List.set_eq_take_append_cons_drop, if_pos h]; simp

/-- What lies at a path may be replaced by data of the same skeleton. -/
theorem setP_reads {w : World} {X : Nat → Prop} : ∀ (p : List Nat) (d x : D) (vs us : List Value), CR w X d vs → stP d p x → CR w X x us →
    ∃ v1 v2 v3, vs = v1 ++ v2 ++ v3 ∧ v1.length = offS (sk d) p ∧ v2.length = us.length ∧ CR w X (setP d p x) (v1 ++ us ++ v3)
  | [], d, x, vs, us, h, hok, hx => by
    refine ⟨[], vs, [], by simp, by cases d <;> simp [sk, offS], ?_, by simpa [setP] using hx⟩
    have : sk x = sk d := hok
    rw [← CR.sklen h, ← CR.sklen hx, this]
  | i :: p, .st fs, x, vs, us, h, hok, hx => by
    simp only [CR] at h
    obtain ⟨hi, hp⟩ := hok
    obtain ⟨v1, v2, v3, rfl, hl, hg, hs⟩ := CRs.nth fs vs i h hi
    obtain ⟨u1, u2, u3, rfl, hl', hll, hg'⟩ := setP_reads p _ x v2 us hg hp hx
    refine ⟨v1 ++ u1, u2, u3 ++ v3, by simp, ?_, hll, ?_⟩
    · simp only [sk, offS, List.length_append, hl, hl', sks_getD fs i hi]
    · have := hs _ _ hg'
      simp only [setP, CR]
      simpa [List.append_assoc] using this
  | i :: p, .arr k n l, x, vs, us, h, hok, hx => by
    simp only [CR] at h
    obtain ⟨hl, rfl⟩ := h
    obtain ⟨hi, rfl, hk⟩ := hok
    have hi' : i < l.length := by omega
    have hx' := isIntK_eq hk
    rw [hx'] at hx
    simp only [CR] at hx
    obtain ⟨rfl, _⟩ := hx
    have hlt : i < (l.map (Value.int k)).length := by simpa using hi'
    refine ⟨(l.map (Value.int k)).take i, [(l.map (Value.int k))[i]], (l.map (Value.int k)).drop (i + 1), ?_, ?_, by simp, ?_⟩
    · rw [List.append_assoc, List.singleton_append, List.getElem_cons_drop hlt, List.take_append_drop]
    · simp [sk, offS]; omega
    · simp only [setP, CR, List.length_set]
      refine ⟨hl, ?_⟩
      rw [set_split l i _ hi']
      simp [List.map_take, List.map_drop]
  | i :: p, .val _, _, _, _, _, hok, _ => hok.elim
  | i :: p, .ints _ _, _, _, _, _, hok, _ => hok.elim
  | i :: p, .slc _ _, _, _, _, _, hok, _ => hok.elim
  | i :: p, .tup _, _, _, _, _, hok, _ => hok.elim
  | i :: p, .str _, _, _, _, _, hok, _ => hok.elim
  | i :: p, .ref _, _, _, _, _, hok, _ => hok.elim
  | i :: p, .clo _ _, _, _, _, _, hok, _ => hok.elim

theorem sks_set : ∀ (ds : List D) (i : Nat) (x : D), i < ds.length → sk x = sk (ds.getD i default) → sks (ds.set i x) = sks ds
  | [], i, _, h, _ => by simp at h
  | d :: ds, 0, x, _, h => by simp at h; simp [sks, h]
  | d :: ds, i + 1, x, h, hs => by
    simp only [List.set_cons_succ, sks]
    rw [sks_set ds i x (by simpa using h) (by simpa using hs)]

/-- The skeleton stays. -/
theorem sk_setP : ∀ (p : List Nat) (d x : D), stP d p x → sk (setP d p x) = sk d
  | [], d, x, h => by have h' : sk x = sk d := h; simpa [setP] using h'
  | i :: p, .st fs, x, h => by
    obtain ⟨hi, hp⟩ := h
    simp only [setP, sk]
    rw [sks_set fs i _ hi (sk_setP p _ x hp)]
  | i :: p, .arr k n l, x, h => by simp [setP, sk]
  | i :: p, .val _, _, h => h.elim
  | i :: p, .ints _ _, _, h => h.elim
  | i :: p, .slc _ _, _, h => h.elim
  | i :: p, .tup _, _, h => h.elim
  | i :: p, .str _, _, h => h.elim
  | i :: p, .ref _, _, h => h.elim
  | i :: p, .clo _ _, _, h => h.elim

/-- Where a part of a part lies. -/
theorem offS_append : ∀ (p : List Nat) (s : Sk) (q : List Nat), (∀ i, i < p.length → True) → (q = [] ∨ subS s p ≠ .one) → offS s (p ++ q) = offS s p + offS (subS s p) q
  | [], s, q, _, _ => by simp only [List.nil_append, subS]; cases s <;> simp [offS]
  | i :: p, .st fs, q, _, hq => by
    simp only [List.cons_append, offS, subS]
    rw [offS_append p _ q (fun _ _ => trivial) (by simpa [subS] using hq)]
    omega
  | i :: p, .arr n, q, _, hq => by
    rcases hq with rfl | hq
    · simp only [List.append_nil, subS]; simp [offS]
    · exact absurd rfl hq
  | i :: p, .one, q, _, hq => by
    rcases hq with rfl | hq
    · simp only [List.append_nil, subS]; simp [offS]
    · exact absurd rfl hq

theorem subS_getP : ∀ (p : List Nat) (d : D), okP d p → subS (sk d) p = sk (getP d p)
  | [], d, _ => by simp [subS, getP]
  | i :: p, .st fs, h => by
    obtain ⟨hi, hp⟩ := h
    simp only [sk, subS, getP]
    rw [sks_getD fs i hi]
    exact subS_getP p _ hp
  | i :: p, .arr k n l, h => by simp [sk, subS, getP]
  | i :: p, .val _, h => h.elim
  | i :: p, .ints _ _, h => h.elim
  | i :: p, .slc _ _, h => h.elim
  | i :: p, .tup _, h => h.elim
  | i :: p, .str _, h => h.elim
  | i :: p, .ref _, h => h.elim
  | i :: p, .clo _ _, h => h.elim

end Go.Vg
