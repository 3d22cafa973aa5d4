/- Vg, part O: the check of a types' table against the program's. -/
import Derived.Test.YtcdjhhepgkcabaaDoorVgN
namespace Go.Vg
open Go Go.RowKit

def vEq : Value → Value → Bool
  | .bool a, .bool b => a == b
  | .int k a, .int k' b => decide (k = k') && decide (a = b)
  | .float k a, .float k' b => decide (k = k') && Nat.beq a b
  | .string s, .string t => decide (s.data.toList = t.data.toList)
  | .pointer none, .pointer none => true
  | .slice none a b, .slice none c d => Nat.beq a c && Nat.beq b d
  | .map none, .map none => true
  | .chan none, .chan none => true
  | .nilFunc, .nilFunc => true
  | .nilIface, .nilIface => true
  | _, _ => false

theorem vEq_eq {a b : Value} (h : vEq a b = true) : a = b := by
  unfold vEq at h
  split at h <;> first
    | rfl
    | cases h
    | (simp only [Bool.and_eq_true, decide_eq_true_eq, beq_iff_eq, Nat.beq_eq] at h; first | (obtain ⟨h1, h2⟩ := h; rw [h1, h2]) | rw [h])
    | skip
  rename_i s t
  have h' := of_decide_eq_true h
  congr 1
  apply ByteArray.ext
  exact Array.toList_inj.1 h'

def vsEq : List Value → List Value → Bool
  | [], [] => true
  | a :: as, b :: bs => vEq a b && vsEq as bs
  | _, _ => false

theorem vsEq_eq : ∀ {as bs : List Value}, vsEq as bs = true → as = bs
  | [], [], _ => rfl
  | [], _ :: _, h => by cases h
  | _ :: _, [], h => by cases h
  | a :: as, b :: bs, h => by
    simp only [vsEq, Bool.and_eq_true] at h
    rw [vEq_eq h.1, vsEq_eq h.2]

mutual
/-- Data without memory: its cells. -/
def zC : D → Option (List Value)
  | .val v => bif isCell v then some [v] else none
  | .arr k n l => bif Nat.beq l.length n then some (l.map (Value.int k)) else none
  | .st fs => zCs fs
  | .ints _ [] => some [.slice none 0 0]
  | .slc _ [] => some [.slice none 0 0]
  | .str [] => some [.string (bstr [])]
  | _ => none
def zCs : List D → Option (List Value)
  | [] => some []
  | d :: ds => match zC d, zCs ds with
    | some a, some b => some (a ++ b)
    | _, _ => none
end

mutual
theorem zC_CR (w : World) (X : Nat → Prop) : ∀ (d : D) (vs : List Value), zC d = some vs → CR w X d vs
  | .val v, vs, h => by
    simp only [zC] at h
    cases hc : isCell v <;> rw [hc] at h
    · cases h
    · obtain rfl := Option.some.inj h; exact ⟨rfl, hc⟩
  | .arr k n l, vs, h => by
    simp only [zC] at h
    rcases beq_cases l.length n with ⟨hb, hn⟩ | ⟨hb, _⟩ <;> rw [hb] at h
    · obtain rfl := Option.some.inj h; exact ⟨hn, rfl⟩
    · cases h
  | .st fs, vs, h => by simp only [zC] at h; simp only [CR]; exact zCs_CRs w X fs vs h
  | .ints k [], vs, h => by
    obtain rfl := Option.some.inj h
    exact ⟨none, 0, rfl, Nat.le_refl _, .inl rfl⟩
  | .ints k (_ :: _), vs, h => by cases h
  | .slc sz [], vs, h => by
    obtain rfl := Option.some.inj h
    exact ⟨none, 0, [], rfl, Nat.le_refl _, .inl rfl, rfl⟩
  | .slc sz (_ :: _), vs, h => by cases h
  | .str [], vs, h => by
    obtain rfl := Option.some.inj h
    exact ⟨rfl, fun x hx => by cases hx⟩
  | .str (_ :: _), vs, h => by cases h
  | .ref _, vs, h => by cases h
  | .clo _ _, vs, h => by cases h
  | .tup _, vs, h => by cases h
theorem zCs_CRs (w : World) (X : Nat → Prop) : ∀ (ds : List D) (vs : List Value), zCs ds = some vs → CRs w X ds vs
  | [], vs, h => by obtain rfl := Option.some.inj h; simp only [CRs]
  | d :: ds, vs, h => by
    simp only [zCs] at h
    split at h
    · rename_i a b ha hb
      obtain rfl := Option.some.inj h
      simp only [CRs]
      exact ⟨a, b, rfl, zC_CR w X d a ha, zCs_CRs w X ds b hb⟩
    · cases h
end

def zeroB (d : D) (z : Value) : Bool :=
  match zC d with
  | none => false
  | some vs => match z with
    | .agg cs => d.isAgg && vsEq vs cs.toList
    | v => !d.isAgg && vsEq vs [v]

theorem zeroB_VR {d : D} {z : Value} (h : zeroB d z = true) (w : World) (X : Nat → Prop) : VR1 w X d z := by
  unfold zeroB at h
  split at h
  · cases h
  · rename_i vs hz
    have hc := zC_CR w X d vs hz
    split at h
    · rename_i cs
      simp only [Bool.and_eq_true] at h
      have := vsEq_eq h.2
      have e : cs = vs.toArray := by rw [this]
      rw [e]
      exact VR1.of_agg hc h.1
    · simp only [Bool.and_eq_true, Bool.not_eq_true'] at h
      rw [vsEq_eq h.2] at hc
      exact VR1.of_cell hc h.1

def fieldsB (tab : Tab) (zs : List D) : Nat → List (Nat × TypeId) → List Field → Bool
  | _, [], [] => true
  | i, (o, t) :: ts, f :: fs => Nat.beq f.offset o && Nat.beq f.type t && Nat.beq o (Sk.sizes ((sks zs).take i)) && !Nat.beq (tg tab t).size 0 && Nat.beq (sk (zs.getD i default)).size (tg tab t).size && fieldsB tab zs (i + 1) ts fs
  | _, _, _ => false

def descB (tab : Tab) (ti : TI) : Option TypeDesc → Bool
  | some (.int k) => (match ti.ty with | .int k' => decide (k' = k) && (match ti.zero with | .val (.int k2 n) => decide (k2 = k) && decide (n = 0) | _ => false) | _ => false)
  | some .bool => (match ti.ty with | .bool => true | _ => false)
  | some .string => (match ti.ty with | .str => true | _ => false)
  | some (.slice e) => (match ti.ty with | .slice e' => Nat.beq e' e | _ => false)
  | some (.array n e) => (match ti.ty with | .arr n' e' => Nat.beq n' n && Nat.beq e' e | _ => false)
  | some (.struct fa) => (match ti.ty with | .st ts => (match ti.zero with | .st zs => Nat.beq zs.length ts.length && fieldsB tab zs 0 ts fa.toList | _ => false) | _ => false)
  | some (.pointer e) => (match ti.ty with | .ptr e' => Nat.beq e' e | .other => true | _ => false)
  | some _ => (match ti.ty with | .other => true | _ => false)
  | none => false

def rowB (P : Program) (tab : Tab) (t : TypeId) : Bool :=
  match P.info? t with
  | none => false
  | some i => match i.zero with
    | none => false
    | some z => Nat.beq i.size (tg tab t).size && Nat.beq i.bytes (tg tab t).bytes && zeroB (tg tab t).zero z && Nat.beq (sk (tg tab t).zero).size (tg tab t).size && descB tab (tg tab t) (P.underlying t)

def hasB (ti : TI) : Bool := !Nat.beq ti.size 0 || (match ti.ty with | .other => false | _ => true)

def tabB (P : Program) (tab : Tab) : Bool := (List.range tab.length).all fun t => !hasB (tg tab t) || rowB P tab t

theorem fieldsB_get {tab : Tab} {zs : List D} : ∀ (ts : List (Nat × TypeId)) (fs : List Field) (k : Nat), fieldsB tab zs k ts fs = true → fs.length = ts.length ∧ ∀ i o t', ts[i]? = some (o, t') → ∃ f, fs[i]? = some f ∧ f.offset = o ∧ f.type = t' ∧ o = Sk.sizes ((sks zs).take (k + i)) ∧ (tg tab t').size ≠ 0 ∧ (sk (zs.getD (k + i) default)).size = (tg tab t').size
  | [], [], k, _ => ⟨rfl, fun i o t' h => by simp at h⟩
  | [], _ :: _, k, h => by cases h
  | _ :: _, [], k, h => by cases h
  | (o, t) :: ts, f :: fs, k, h => by
    simp only [fieldsB, Bool.and_eq_true, Nat.beq_eq, Bool.not_eq_true'] at h
    obtain ⟨⟨⟨⟨⟨h1, h2⟩, h3⟩, h4⟩, h5⟩, h6⟩ := h
    obtain ⟨hl, hg⟩ := fieldsB_get ts fs (k + 1) h6
    refine ⟨by simp [hl], fun i o' t' hi => ?_⟩
    cases i with
    | zero =>
      simp only [List.getElem?_cons_zero, Option.some.injEq, Prod.mk.injEq] at hi
      obtain ⟨rfl, rfl⟩ := hi
      exact ⟨f, rfl, h1, h2, by simpa using h3, fun h0 => by rw [h0] at h4; simp at h4, by simpa using h5⟩
    | succ i =>
      have := hg i o' t' (by simpa using hi)
      rw [show k + 1 + i = k + (i + 1) from by omega] at this
      simpa using this

theorem rowB_ok {P : Program} {tab : Tab} {t : TypeId} (h : rowB P tab t = true) : RowOk P tab t := by
  unfold rowB at h
  split at h
  · cases h
  · rename_i i hi
    split at h
    · cases h
    · rename_i z hz
      simp only [Bool.and_eq_true, Nat.beq_eq] at h
      obtain ⟨⟨⟨⟨h1, h2⟩, h3⟩, h4⟩, h5⟩ := h
      have hu : ∃ d, P.underlying t = some d := by
        cases hd : P.underlying t with
        | none => rw [hd] at h5; cases h5
        | some d => exact ⟨d, rfl⟩
      obtain ⟨d, hd⟩ := hu
      rw [hd] at h5
      refine ⟨⟨i, z, hi, h1, h2, hz, fun w X => zeroB_VR h3 w X⟩, h4, ?_, ?_, ?_, ?_, ?_, ?_, ?_, ?_⟩
      · intro k hk
        cases d <;> simp [descB, hk] at h5
        rw [hd, h5.1]
      · intro k hk
        cases d <;> simp only [descB, hk] at h5 <;> first | cases h5 | skip
        simp only [Bool.and_eq_true, decide_eq_true_eq] at h5
        obtain ⟨rfl, h5⟩ := h5
        split at h5
        · rename_i k2 n hzz
          simp only [Bool.and_eq_true, decide_eq_true_eq] at h5
          rw [hzz, h5.1, h5.2]
        · cases h5
      · intro hk
        cases d <;> simp [descB, hk] at h5
        exact hd
      · intro hk
        cases d <;> simp [descB, hk] at h5
        exact hd
      · intro e hk
        cases d <;> simp [descB, hk] at h5
        rw [hd, h5]
      · intro n e hk
        cases d <;> simp [descB, hk] at h5
        rw [hd, h5.1, h5.2]
      · intro ts hk
        cases d <;> simp only [descB, hk] at h5 <;> first | cases h5 | skip
        rename_i fa
        split at h5
        · rename_i zs hzz
          simp only [Bool.and_eq_true, Nat.beq_eq] at h5
          obtain ⟨hl, hg⟩ := fieldsB_get ts fa.toList 0 h5.2
          refine ⟨fa, zs, hd, hzz, h5.1, by simpa using hl, fun i o t' hi' => ?_⟩
          obtain ⟨f, hf, rest⟩ := hg i o t' hi'
          rw [Nat.zero_add] at rest
          exact ⟨f, by simpa using hf, rest⟩
        · cases h5
      · refine ⟨d, hd, ?_⟩
        cases hty : (tg tab t).ty <;> cases d <;> first | rfl | (simp [descB, hty] at h5; done) | skip

theorem tabB_ok {P : Program} {tab : Tab} (h : tabB P tab = true) : TabOk P tab := by
  intro t ht
  have hlt : t < tab.length := by
    rcases Nat.lt_or_ge t tab.length with h' | h'
    · exact h'
    · have e : tg tab t = ⟨.other, 0, 0, default⟩ := by unfold tg; rw [List.getD_eq_getElem?_getD, List.getElem?_eq_none h']; rfl
      rcases ht with h0 | h0
      · rw [e] at h0; exact absurd rfl h0
      · rw [e] at h0; exact absurd rfl h0
  have hb : hasB (tg tab t) = true := by
    unfold hasB
    rcases ht with h0 | h0
    · have : Nat.beq (tg tab t).size 0 = false := by
        rcases beq_cases (tg tab t).size 0 with ⟨_, hb⟩ | ⟨hb, _⟩
        · exact absurd hb h0
        · exact hb
      simp [this]
    · cases hty : (tg tab t).ty <;> first | exact absurd hty h0 | simp
  unfold tabB at h
  rw [List.all_eq_true] at h
  have := h t (List.mem_range.2 hlt)
  rw [hb] at this
  exact rowB_ok (by simpa using this)

end Go.Vg
