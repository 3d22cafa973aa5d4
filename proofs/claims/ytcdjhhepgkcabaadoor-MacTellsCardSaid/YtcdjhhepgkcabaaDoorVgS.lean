/- Vg, part S: words for invariants. -/
import Derived.Test.YtcdjhhepgkcabaaDoorVgR
namespace Go.Vg
open Go Go.RowKit

abbrev i64 (n : Int) : D := .val (.int .i64 n)
abbrev u64 (n : Int) : D := .val (.int .u64 n)
abbrev i32 (n : Int) : D := .val (.int .i32 n)
abbrev u32 (n : Int) : D := .val (.int .u32 n)
abbrev u16 (n : Int) : D := .val (.int .u16 n)
abbrev u8 (n : Int) : D := .val (.int .u8 n)
abbrev bl (b : Bool) : D := .val (.bool b)
abbrev bys (l : List Int) : D := .ints .u8 l

def slotN (s : St) (i : Nat) : Int := match s.T.getD i .any with
  | .d (.val (.int _ n)) => n
  | _ => 0

def slotB (s : St) (i : Nat) : Bool := match s.T.getD i .any with
  | .d (.val (.bool b)) => b
  | _ => false

def slotD (s : St) (i : Nat) : D := match s.T.getD i .any with
  | .d d => d
  | _ => .val (.bool false)

def rowD (s : St) (i : Nat) : List Int := match look s.M i with
  | some (.row _ (.ints _ l)) => l
  | some (.fix (.arr _ _ l)) => l
  | _ => []

def bodyOf (f : Func) : Code := f.body.getD .skip

def entry (f : Func) (ds : List D) : St := ⟨ds.map .d ++ List.replicate (f.ntmps - ds.length) .any, []⟩

/-- What is owed for a function, of inputs. -/
def owed (C : Ctx) (inv : Nat → Option Inv) (f : Func) (ds : List D) (want : D) : Prop :=
  vc C inv (bodyOf f) (fin C f.results.toList f.resultTypes.toList want) (entry f ds)

/-- A loop that counts up in one slot. -/
def upTo (slot : Nat) (lo hi : Int) : Inv := ⟨Int, fun i => [(slot, .d (i64 i))], fun _ => [], fun s => slotN s slot, fun _ i => lo ≤ i ∧ i ≤ hi, fun i => (hi - i).toNat⟩

theorem meets_of_owed {P : Program} {C : Ctx} (K : CtxOk P C) (hm : P.follows .mixedOrders = true) {f : FuncId} {fn : Func} (hf : P.funcs[f]? = some fn) (hb : fn.body.isSome = true) (hname : (fn.name == "runtime.NumGoroutine") = false)
    (hst : statOK C (bodyOf fn) = true) (sp : Spec)
    (h : ∀ ds, sp.pre ds → (sp.flat = true → flatD (sp.f ds) = true) ∧ ∃ inv, owed C inv fn ds (sp.f ds)) : Meets P f sp := by
  obtain ⟨c, hc⟩ := Option.isSome_iff_exists.1 hb
  have e : bodyOf fn = c := by unfold bodyOf; rw [hc]; rfl
  refine meets_of_vc K hm hf hc hname (by rw [← e]; exact hst) sp (fun ds => Classical.epsilon fun inv => owed C inv fn ds (sp.f ds)) fun ds hp => ?_
  obtain ⟨h1, h2⟩ := h ds hp
  have h3 := Classical.epsilon_spec h2
  exact ⟨h1, by rw [← e]; exact h3⟩

/-- Functions that are met, by number. -/
def lkS : List (Nat × Spec) → Nat → Option Spec
  | [], _ => none
  | (k, s) :: l, f => bif Nat.beq k f then some s else lkS l f

def AllM (P : Program) : List (Nat × Spec) → Prop
  | [] => True
  | (k, s) :: l => Meets P k s ∧ AllM P l

theorem lkS_ok {P : Program} : ∀ {l : List (Nat × Spec)}, AllM P l → ∀ f s, lkS l f = some s → Meets P f s
  | [], _, f, s, h => by cases h
  | (k, t) :: l, hl, f, s, h => by
    simp only [lkS] at h
    rcases beq_cases k f with ⟨hb, rfl⟩ | ⟨hb, hn⟩
    · simp only [hb, cond_true, Option.some.injEq] at h
      subst h
      exact hl.1
    · simp only [hb, cond_false] at h
      exact lkS_ok hl.2 f s h

theorem w8 (n : Int) : IntKind.u8.wrap n = n % 256 := by simp [IntKind.wrap, IntKind.bits, IntKind.signed]
theorem w16 (n : Int) : IntKind.u16.wrap n = n % 65536 := by simp [IntKind.wrap, IntKind.bits, IntKind.signed]
theorem w32 (n : Int) : IntKind.u32.wrap n = n % 4294967296 := by simp [IntKind.wrap, IntKind.bits, IntKind.signed]
theorem w64 (n : Int) : IntKind.u64.wrap n = n % 18446744073709551616 := by simp [IntKind.wrap, IntKind.bits, IntKind.signed]
theorem wi64 (n : Int) : IntKind.i64.wrap n = (n + 9223372036854775808) % 18446744073709551616 - 9223372036854775808 := by
  simp [IntKind.wrap, IntKind.bits, IntKind.signed]
  split <;> omega
theorem wi {n : Int} (h : -9223372036854775808 ≤ n) (h2 : n ≤ 9223372036854775807) : IntKind.i64.wrap n = n := by
  rw [wi64]
  omega


theorem getD_map {α : Type} (f : α → D) (L : List α) (x : Int) (h0 : 0 ≤ x) (h : x < (L.length : Int)) (d : D) :
    ∃ e ∈ L, (L.map f).getD x.toNat d = f e ∧ L.take (x + 1).toNat = L.take x.toNat ++ [e] := by
  obtain ⟨n, rfl⟩ := Int.eq_ofNat_of_zero_le h0
  have hn : n < L.length := by omega
  refine ⟨L[n], List.getElem_mem hn, ?_, ?_⟩
  · simp [List.getD_eq_getElem?_getD, hn]
  · rw [show ((n : Int) + 1).toNat = n + 1 by omega, show (n : Int).toNat = n by omega, List.take_add_one]
    simp [hn]


theorem ishr_eq (k : IntKind) (x : Int) (m : Nat) (h : m ≤ k.bits) : ishr k x (m : Int) = x / 2 ^ m := by
  unfold ishr
  rw [Int.fdiv_eq_ediv_of_nonneg _ (by exact Int.le_of_lt (Int.pow_pos (by decide))), show min (m : Int).toNat k.bits = m by rw [Int.toNat_natCast]; omega]

theorem tdivN (n m : Nat) : (n : Int).tdiv m = (n / m : Nat) := by rw [Int.tdiv_eq_ediv_of_nonneg (Int.natCast_nonneg n)]; simp
theorem tmodN (n m : Nat) : (n : Int).tmod m = (n % m : Nat) := by rw [Int.tmod_eq_emod_of_nonneg (Int.natCast_nonneg n)]; simp

/-- Sealed: a check by reckoning stops here. -/
noncomputable def opq {α : Type} (a : α) : α := Classical.choose (⟨a, rfl⟩ : ∃ b, b = a)
theorem opq_eq {α : Type} (a : α) : opq a = a := Classical.choose_spec (⟨a, rfl⟩ : ∃ b, b = a)

end Go.Vg
