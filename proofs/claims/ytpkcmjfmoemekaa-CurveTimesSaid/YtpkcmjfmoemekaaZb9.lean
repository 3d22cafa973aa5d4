/- Vg, part R: a law's row, out of its meaning. -/
import Derived.Test.YtpkcmjfmoemekaaZb8
import Derived.SizedLaws
import Derived.WalkKit
import Derived.ShutString
import Derived.ChangeOld
import Derived.Test.YtpkcmjfmoemekaaZb7
namespace Go.Vg
open Go Go.RowKit
def OkAll (tab : Tab) (n : Nat) : List TypeId → List D → Prop
 | [], [] => True
 | t :: ts, d :: ds => OkT tab n t d ∧ OkAll tab n ts ds
 | _, _ => False
def supAll (tab : Tab) (n : Nat) (ts : List TypeId) : Bool := ts.all (supB tab n)
def lawSpec (tab : Tab) (ts : List TypeId) : Spec := ⟨OkAll tab 8 ts, fun _ => .val (.bool true), true, ts⟩
theorem args_D {H : Type} {enc : TypeId × Value → H} {P : Program} {tab : Tab} (T : TabOk P tab) {n : Nat} {w : World} {sp : Nat → Bool} {held : Bool} {r : Reach} {b0 : Nat} : ∀ (ts : List TypeId) (vs : List Value) (ds : List (DataW H)) (ps : List MemPlace), supAll tab n ts = true →
  (∀ (j : Nat) t v, ts[j]? = some t → vs[j]? = some v → Value.okWide P w r b0 t v) → DataW.TrodAll enc P w 0 sp held ts vs ds ps → Sz (DataW.weightsEach P ts ds) → ∃ xs, All2 (VR w (fun β => True ∧ β < w.heap.size)) xs vs ∧ OkAll tab n ts xs
 | [], [], [], _, _, _, _, _ => ⟨[], .nil, trivial⟩
 | t :: ts, v :: vs, d :: ds, ps, hs, hval, h, hw => by
  simp only [DataW.weightsEach] at hw
  obtain ⟨p, q, h1, h2, _⟩ := h
  simp only [supAll, List.all_cons, Bool.and_eq_true] at hs
  obtain ⟨x, g1, g2⟩ := arg_D T hs.1 (hval 0 t v rfl rfl) h1 (fun k hk => hw k (List.mem_append.2 (.inl hk)))
  obtain ⟨xs, g3, g4⟩ := args_D T ts vs ds q hs.2 (fun j t' v' ht hv => hval (j + 1) t' v' (by simpa using ht) (by simpa using hv)) h2 (fun k hk => hw k (List.mem_append.2 (.inr hk)))
  exact ⟨x :: xs, .cons (VR.mono (fun β hβ => ⟨⟨trivial, hβ⟩, rfl⟩) _ _ g1) g3, ⟨g2, g4⟩⟩
 | [], _ :: _, _, _, _, _, h, _ => h.elim
 | [], [], _ :: _, _, _, _, h, _ => h.elim
 | _ :: _, [], _, _, _, _, h, _ => h.elim
 | _ :: _, _ :: _, [], _, _, _, h, _ => h.elim
theorem weights_app {H : Type} {P : Program} : ∀ (ts ts' : List TypeId) (ds ds' : List (DataW H)) (n : Nat), n ∈ DataW.weightsEach P ts ds → n ∈ DataW.weightsEach P (ts ++ ts') (ds ++ ds')
 | [], _, _, _, n, h => by simp [DataW.weightsEach] at h
 | _ :: _, _, [], _, n, h => by simp [DataW.weightsEach] at h
 | t :: ts, ts', d :: ds, ds', n, h => by
  simp only [DataW.weightsEach, List.mem_append, List.cons_append] at h ⊢
  exact h.imp id fun h => weights_app ts ts' ds ds' n h
theorem law_sz {H : Type} {P : Program} {ts ts' : List TypeId} {ds ds' : List (DataW H)} (h : (DataW.weightsEach P (ts ++ ts') (ds ++ ds')).all (· ≤ reachBytes) = true) : (DataW.weightsEach P ts ds).all (· ≤ reachBytes) = true :=
 List.all_eq_true.2 fun n hn => List.all_eq_true.1 h n (weights_app ts ts' ds ds' n hn)
theorem gw_none {w : World} {X : Nat → Prop} (h : gls = []) : GW w X := fun g d hd => by rw [h] at hd; cases hd
theorem law_calls {H : Type} {enc : TypeId × Value → H} {P : Program} {tab : Tab} (T : TabOk P tab) {f : FuncId} {fn : Func} (hf : P.funcs[f]? = some fn) (hb : fn.body.isSome = true) (hname : (fn.name == "runtime.NumGoroutine") = false) (hsup : supAll tab 8 fn.params.toList = true)
  (M : Meets P f (lawSpec tab fn.params.toList)) (W : World) (base : Nat) (args : Array Value) (ds : List (DataW H)) (p : List MemPlace) (hval : ∀ (j : Nat) t v, fn.params[j]? = some t → args[j]? = some v → Value.okWide P W .any base t v)
  (hA : DataW.TrodAll enc P W 0 (fun _ => true) true fn.params.toList args.toList ds p) (hw : (DataW.weightsEach P fn.params.toList ds).all (· ≤ reachBytes) = true) (hgw : GW W fun _ => True) : Calls P f args W fun e w' => e = .returned (.bool true) ∧ Below W.heap.size W w' := by
 obtain ⟨xs, h1, h2⟩ := args_D T fn.params.toList args.toList ds p hsup (fun j t v ht hv => hval j t v (by simpa using ht) (by simpa using hv)) hA (fun n hn => show n ≤ reachBytes by simpa using List.all_eq_true.1 hw n hn)
 have hu := (M xs h2).2 (fun _ => True) W args.toList hgw h1
 unfold UponCall at hu
 obtain ⟨c, hc⟩ := Option.isSome_iff_exists.1 hb
 have hn : ¬ fn.name = "runtime.NumGoroutine" := by simpa using hname
 have hcall : (callFunc f args.toList.toArray).run P W = .ok (.enter f args) W := by
  simp [callFunc, program, Sem.run, hf, hn, hc]
 rw [hcall] at hu
 refine Calls.mono hu ?_
 rintro e w' ⟨v, rfl, hg, hv⟩
 have ev := vr_val (X := fun β => (True ∨ W.heap.size ≤ β) ∧ β < w'.heap.size) hv
 subst ev
 exact ⟨rfl, hg.os, hg.tape, hg.output, hg.size, hg.block⟩
end Go.Vg
namespace Go.Vg
open Go Go.RowKit
section
variable {P : Program} {C : Ctx} {w0 : World} {F : Env} {σ : Sg} {s : St} {a : Act} {w : World}
end
end Go.Vg
namespace Go.Vg
open Go Go.RowKit
abbrev i64 (n : Int) : D := .val (.int .i64 n)
abbrev u64 (n : Int) : D := .val (.int .u64 n)
abbrev i32 (n : Int) : D := .val (.int .i32 n)
abbrev u32 (n : Int) : D := .val (.int .u32 n)
abbrev u8 (n : Int) : D := .val (.int .u8 n)
abbrev bl (b : Bool) : D := .val (.bool b)
def slotN (s : St) (i : Nat) : Int := match s.T.getD i .any with
 | .d (.val (.int _ n)) => n
 | _ => 0
def slotD (s : St) (i : Nat) : D := match s.T.getD i .any with
 | .d d => d
 | _ => .val (.bool false)
def rowD (s : St) (i : Nat) : List Int := match look s.M i with
 | some (.row _ (.ints _ l)) => l
 | some (.fix (.arr _ _ l)) => l
 | _ => []
def bodyOf (f : Func) : Code := f.body.getD .skip
def entry (f : Func) (ds : List D) : St := ⟨ds.map .d ++ List.replicate (f.ntmps - ds.length) .any, []⟩
def owed (C : Ctx) (inv : Nat → Option Inv) (f : Func) (ds : List D) (want : D) : Prop :=
 vc C inv (bodyOf f) (fin C f.results.toList f.resultTypes.toList want) (entry f ds)
theorem meets_of_owed {P : Program} {C : Ctx} (K : CtxOk P C) (hm : P.follows .mixedOrders = true) {f : FuncId} {fn : Func} (hf : P.funcs[f]? = some fn) (hb : fn.body.isSome = true) (hname : (fn.name == "runtime.NumGoroutine") = false)
  (hst : statOK C (bodyOf fn) = true) (sp : Spec)
  (h : ∀ ds, sp.pre ds → (sp.flat = true → flatD (sp.f ds) = true) ∧ ∃ inv, owed C inv fn ds (sp.f ds)) : Meets P f sp := by
 obtain ⟨c, hc⟩ := Option.isSome_iff_exists.1 hb
 have e : bodyOf fn = c := by unfold bodyOf; rw [hc]; rfl
 refine meets_of_vc K hm hf hc hname (by rw [← e]; exact hst) sp (fun ds => Classical.epsilon fun inv => owed C inv fn ds (sp.f ds)) fun ds hp => ?_
 obtain ⟨h1, h2⟩ := h ds hp
 have h3 := Classical.epsilon_spec h2
 exact ⟨h1, by rw [← e]; exact h3⟩
def lkS : List (Nat × Spec) → Nat → Option Spec
 | [], _ => none
 | (k, s) :: l, f => bif Nat.beq k f then some s else lkS l f
def AllM (P : Program) : List (Nat × Spec) → Prop
 | [] => True
 | (k, s) :: l => MeetsQ P k s ∧ AllM P l
theorem lkS_ok {P : Program} : ∀ {l : List (Nat × Spec)}, AllM P l → ∀ f s, lkS l f = some s → MeetsQ P f s
 | [], _, f, s, h => by cases h
 | (k, t) :: l, hl, f, s, h => by
  simp only [lkS] at h
  rcases beq_cases k f with ⟨hb, rfl⟩ | ⟨hb, hn⟩
  ·simp only [hb, cond_true, Option.some.injEq] at h
   subst h
   exact hl.1
  ·simp only [hb, cond_false] at h
   exact lkS_ok hl.2 f s h
theorem w8 (n : Int) : IntKind.u8.wrap n = n % 256 := by simp [IntKind.wrap, IntKind.bits, IntKind.signed]
theorem w64 (n : Int) : IntKind.u64.wrap n = n % 18446744073709551616 := by simp [IntKind.wrap, IntKind.bits, IntKind.signed]
theorem wi64 (n : Int) : IntKind.i64.wrap n = (n + 9223372036854775808) % 18446744073709551616 - 9223372036854775808 := by
 simp [IntKind.wrap, IntKind.bits, IntKind.signed]
 split <;> omega
theorem wi {n : Int} (h : -9223372036854775808 ≤ n) (h2 : n ≤ 9223372036854775807) : IntKind.i64.wrap n = n := by
 rw [wi64]
 omega
theorem ishr_eq (k : IntKind) (x : Int) (m : Nat) (h : m ≤ k.bits) : ishr k x (m : Int) = x / 2 ^ m := by
 unfold ishr
 rw [Int.fdiv_eq_ediv_of_nonneg _ (by exact Int.le_of_lt (Int.pow_pos (by decide))), show min (m : Int).toNat k.bits = m by rw [Int.toNat_natCast]; omega]
theorem tdivN (n m : Nat) : (n : Int).tdiv m = (n / m : Nat) := by rw [Int.tdiv_eq_ediv_of_nonneg (Int.natCast_nonneg n)]; simp
theorem tmodN (n m : Nat) : (n : Int).tmod m = (n % m : Nat) := by rw [Int.tmod_eq_emod_of_nonneg (Int.natCast_nonneg n)]; simp
noncomputable def opq {α : Type} (a : α) : α := Classical.choose (⟨a, rfl⟩ : ∃ b, b = a)
theorem opq_eq {α : Type} (a : α) : opq a = a := Classical.choose_spec (⟨a, rfl⟩ : ∃ b, b = a)
end Go.Vg
namespace Go.Vg
def okd (l : List Int) : Prop := ∀ x ∈ l, 0 ≤ x ∧ x < 65536
def okw (l : List Int) : Prop := ∀ x ∈ l, 0 ≤ x ∧ x < 18446744073709551616
def vB (b : Nat) : List Int → Nat
 | [] => 0
 | x :: l => x.toNat + b * vB b l
def nB (b : Nat) : Nat → Nat → List Int
 | 0, _ => []
 | n + 1, v => ((v % b : Nat) : Int) :: nB b n (v / b)
theorem nB_length (b : Nat) : ∀ n v, (nB b n v).length = n
 | 0, _ => rfl
 | n + 1, v => by simp [nB, nB_length b n]
theorem nB_ok {b : Nat} (hb : 0 < b) : ∀ n v, ∀ x ∈ nB b n v, 0 ≤ x ∧ x < (b : Int)
 | 0, _, x, h => by simp [nB] at h
 | n + 1, v, x, h => by
  simp only [nB, List.mem_cons] at h
  rcases h with rfl | h
  ·have := Nat.mod_lt v hb
   exact ⟨by omega, by omega⟩
  ·exact nB_ok hb n _ x h
theorem vB_nB (b : Nat) : ∀ n v, vB b (nB b n v) = v % b ^ n
 | 0, v => by simp [nB, vB, Nat.mod_one]
 | n + 1, v => by
  simp only [nB, vB, vB_nB b n, Int.toNat_natCast]
  rw [Nat.pow_succ, Nat.mul_comm (b ^ n) b, Nat.mod_mul]
theorem vB_lt {b : Nat} : ∀ {l : List Int}, (∀ x ∈ l, 0 ≤ x ∧ x < (b : Int)) → vB b l < b ^ l.length
 | [], _ => by simp [vB]
 | x :: l, h => by
  have h1 := h x (by simp)
  have h2 := vB_lt fun y hy => h y (List.mem_cons_of_mem _ hy)
  simp only [vB, List.length_cons, Nat.pow_succ]
  have h3 : x.toNat + 1 ≤ b := by omega
  calc x.toNat + b * vB b l < b + b * vB b l := by omega
   _ = b * (vB b l + 1) := by rw [Nat.mul_add, Nat.mul_one, Nat.add_comm]
   _ ≤ b * b ^ l.length := Nat.mul_le_mul_left _ h2
   _ = b ^ l.length * b := Nat.mul_comm _ _
theorem vB_append (b : Nat) : ∀ l m, vB b (l ++ m) = vB b l + b ^ l.length * vB b m
 | [], m => by simp [vB]
 | x :: l, m => by
  simp only [List.cons_append, vB, vB_append b l m, List.length_cons, Nat.pow_succ, Nat.mul_add, Nat.add_assoc]
  congr 2
  rw [← Nat.mul_assoc, Nat.mul_comm b]
theorem nB_vB {b : Nat} : ∀ {l : List Int}, (∀ x ∈ l, 0 ≤ x ∧ x < (b : Int)) → nB b l.length (vB b l) = l
 | [], _ => rfl
 | x :: l, h => by
  have h1 := h x (by simp)
  have hx : x.toNat < b := by omega
  simp only [List.length_cons, nB, vB, Nat.add_mul_mod_self_left, Nat.mod_eq_of_lt hx]
  rw [Nat.add_mul_div_left _ _ (by omega), Nat.div_eq_of_lt hx, Nat.zero_add, nB_vB fun y hy => h y (List.mem_cons_of_mem _ hy)]
  rw [Int.toNat_of_nonneg h1.1]
theorem nB_push (b : Nat) : ∀ n v, nB b (n + 1) v = nB b n v ++ [((v / b ^ n % b : Nat) : Int)]
 | 0, v => by simp [nB]
 | n + 1, v => by
  rw [nB, nB_push b n (v / b), nB, List.cons_append, Nat.div_div_eq_div_mul, Nat.pow_succ, Nat.mul_comm b]
theorem nB_mod (b : Nat) : ∀ n v, nB b n (v % b ^ n) = nB b n v
 | 0, v => rfl
 | n + 1, v => by
  simp only [nB]
  have h1 : v % b ^ (n + 1) % b = v % b := Nat.mod_mod_of_dvd _ (Nat.dvd_mul_left _ _)
  have h2 : v % b ^ (n + 1) / b = v / b % b ^ n := by
   rw [Nat.pow_succ, Nat.mul_comm, Nat.mod_mul_right_div_self]
  rw [h1, h2, nB_mod b n]
theorem nB_get (b : Nat) : ∀ n v i, i < n → (nB b n v).getD i 0 = ((v / b ^ i % b : Nat) : Int)
 | 0, v, i, h => absurd h (Nat.not_lt_zero i)
 | n + 1, v, 0, _ => by simp [nB]
 | n + 1, v, i + 1, h => by
  have := nB_get b n (v / b) i (by omega)
  simp only [nB, List.getD_cons_succ, this, Nat.div_div_eq_div_mul, Nat.pow_succ, Nat.mul_comm b]
theorem vB_get {b : Nat} {l : List Int} (h : ∀ x ∈ l, 0 ≤ x ∧ x < (b : Int)) {i : Nat} (hi : i < l.length) : l.getD i 0 = ((vB b l / b ^ i % b : Nat) : Int) := by
 rw [← nB_get b l.length (vB b l) i hi, nB_vB h]
theorem vB_take {b : Nat} {l : List Int} (h : ∀ x ∈ l, 0 ≤ x ∧ x < (b : Int)) (i : Nat) : vB b (l.take i) = vB b l % b ^ i := by
 rcases Nat.lt_or_ge i l.length with hi | hi
 ·have e := vB_append b (l.take i) (l.drop i)
  rw [List.take_append_drop] at e
  have hl : (l.take i).length = i := by rw [List.length_take]; omega
  have hlt : vB b (l.take i) < b ^ (l.take i).length := vB_lt fun x hx => h x (List.mem_of_mem_take hx)
  rw [hl] at e hlt
  rw [e, Nat.add_mul_mod_self_left, Nat.mod_eq_of_lt hlt]
 ·rw [List.take_of_length_le hi]
  rcases Nat.eq_zero_or_pos b with rfl | hb
  ·cases l with
   | nil => simp [vB]
   | cons x l => have := h x (by simp); omega
  ·exact (Nat.mod_eq_of_lt (Nat.lt_of_lt_of_le (vB_lt h) (Nat.pow_le_pow_right hb hi))).symm
theorem vB_set {b : Nat} : ∀ (l : List Int) (i : Nat) (x : Int), i < l.length → vB b (l.set i x) + b ^ i * (l.getD i 0).toNat = vB b l + b ^ i * x.toNat
 | [], i, x, h => absurd h (Nat.not_lt_zero i)
 | y :: l, 0, x, _ => by simp [vB]; omega
 | y :: l, i + 1, x, h => by
  have := vB_set (b := b) l i x (by simpa using h)
  simp only [List.set_cons_succ, vB, List.getD_cons_succ, Nat.pow_succ]
  have e1 : ∀ z : Nat, b ^ i * b * z = b * (b ^ i * z) := fun z => by rw [← Nat.mul_assoc, Nat.mul_comm b]
  rw [e1, e1, Nat.add_assoc, Nat.add_assoc, ← Nat.mul_add, ← Nat.mul_add, this]
def dgF : Nat → Nat → List Int
 | 0, _ => []
 | f + 1, n => if n = 0 then [] else ((n % 65536 : Nat) : Int) :: dgF f (n / 65536)
def dg (n : Nat) : List Int := dgF n n
theorem dgF_eq : ∀ f g n, n ≤ f → n ≤ g → dgF f n = dgF g n
 | 0, 0, n, _, _ => rfl
 | 0, g + 1, n, h, _ => by
  obtain rfl : n = 0 := by omega
  simp [dgF]
 | f + 1, 0, n, _, h => by
  obtain rfl : n = 0 := by omega
  simp [dgF]
 | f + 1, g + 1, n, h1, h2 => by
  simp only [dgF]
  split
  ·rfl
  ·rw [dgF_eq f g (n / 65536) (by omega) (by omega)]
theorem dg_zero : dg 0 = [] := rfl
theorem dg_pos {n : Nat} (h : n ≠ 0) : dg n = ((n % 65536 : Nat) : Int) :: dg (n / 65536) := by
 unfold dg
 obtain ⟨m, rfl⟩ := Nat.exists_eq_succ_of_ne_zero h
 rw [dgF, if_neg h]
 congr 1
 exact dgF_eq _ _ _ (by omega) (Nat.le_refl _)
theorem dg_ok : ∀ n, okd (dg n) := by
 intro n
 induction n using Nat.strongRecOn with
 | _ n ih =>
  intro x hx
  by_cases h : n = 0
  ·subst h
   simp [dg_zero] at hx
  ·rw [dg_pos h] at hx
   simp only [List.mem_cons] at hx
   rcases hx with rfl | hx
   ·omega
   ·exact ih _ (by omega) x hx
theorem vl_dg : ∀ n, vB 65536 (dg n) = n := by
 intro n
 induction n using Nat.strongRecOn with
 | _ n ih =>
  by_cases h : n = 0
  ·subst h; rfl
  ·rw [dg_pos h]
   show _ + 65536 * vB 65536 (dg (n / 65536)) = n
   rw [ih _ (by omega), Int.toNat_natCast]
   omega
theorem dg_nil {n : Nat} (h : dg n = []) : n = 0 := by
 have := vl_dg n
 rw [h] at this
 exact this.symm
theorem dg_len : ∀ k n, n < 65536 ^ k → (dg n).length ≤ k
 | 0, n, h => by
  obtain rfl : n = 0 := by simpa using h
  simp [dg_zero]
 | k + 1, n, h => by
  by_cases hn : n = 0
  ·subst hn
   simp [dg_zero]
  ·rw [dg_pos hn]
   have := dg_len k (n / 65536) (by rw [Nat.pow_succ] at h; exact Nat.div_lt_of_lt_mul (by rw [Nat.mul_comm]; exact h))
   simp only [List.length_cons]
   omega
def trimL : List Int → List Int
 | [] => []
 | x :: l => match trimL l with
  | [] => if x = 0 then [] else [x]
  | y :: m => x :: y :: m
theorem trim_eq : ∀ {l : List Int}, okd l → trimL l = dg (vB 65536 l)
 | [], _ => rfl
 | x :: l, h => by
  have h1 := h x (by simp)
  have ih := trim_eq fun y hy => h y (List.mem_cons_of_mem _ hy)
  simp only [trimL, ih]
  cases hd : dg (vB 65536 l) with
  | nil =>
   have hz := dg_nil hd
   show (if x = 0 then [] else [x]) = dg (x.toNat + 65536 * vB 65536 l)
   rw [hz]
   by_cases hx : x = 0
   ·subst hx; rfl
   ·rw [if_neg hx, dg_pos (by omega)]
    rw [show (x.toNat + 65536 * 0) / 65536 = 0 by omega, dg_zero, show (x.toNat + 65536 * 0) % 65536 = x.toNat by omega]
    simp; omega
  | cons y m =>
   have hz : vB 65536 l ≠ 0 := fun e => by rw [e, dg_zero] at hd; cases hd
   show x :: y :: m = dg (x.toNat + 65536 * vB 65536 l)
   rw [dg_pos (by omega), show (x.toNat + 65536 * vB 65536 l) / 65536 = vB 65536 l by omega, hd, show (x.toNat + 65536 * vB 65536 l) % 65536 = x.toNat by omega]
   congr 1
   omega
theorem trim_last : ∀ (l : List Int), trimL (l ++ [0]) = trimL l
 | [] => rfl
 | x :: l => by simp only [List.cons_append, trimL, trim_last l]
theorem trim_keep : ∀ (l : List Int) {x : Int}, x ≠ 0 → trimL (l ++ [x]) = l ++ [x]
 | [], x, h => by simp [trimL, h]
 | y :: l, x, h => by
  simp only [List.cons_append, trimL, trim_keep l h]
  cases hl : l ++ [x] with
  | nil => simp at hl
  | cons a b => rfl
def dig (l : List Int) (i : Int) : Int := if 0 ≤ i ∧ i < l.length then l.getD i.toNat 0 else 0
theorem dig_nat {l : List Int} (h : okd l) (i : Nat) : dig l i = ((vB 65536 l / 65536 ^ i % 65536 : Nat) : Int) := by
 unfold dig
 split
 ·rename_i hi
  rw [Int.toNat_natCast]
  exact vB_get h (by omega)
 ·rename_i hi
  have : vB 65536 l < 65536 ^ i := Nat.lt_of_lt_of_le (vB_lt h) (Nat.pow_le_pow_right (by decide) (by omega))
  rw [Nat.div_eq_of_lt this]
  rfl
theorem vB_drop {b : Nat} {l : List Int} (h : ∀ x ∈ l, 0 ≤ x ∧ x < (b : Int)) (i : Nat) : vB b (l.drop i) = vB b l / b ^ i := by
 rcases Nat.lt_or_ge i l.length with hi | hi
 ·have e := vB_append b (l.take i) (l.drop i)
  rw [List.take_append_drop] at e
  have hl : (l.take i).length = i := by rw [List.length_take]; omega
  have hlt : vB b (l.take i) < b ^ (l.take i).length := vB_lt fun x hx => h x (List.mem_of_mem_take hx)
  rw [hl] at e hlt
  rw [e, Nat.add_mul_div_left _ _ (by omega), Nat.div_eq_of_lt hlt, Nat.zero_add]
 ·rw [List.drop_eq_nil_of_le hi]
  rcases Nat.eq_zero_or_pos b with rfl | hb
  ·cases l with
   | nil => simp [vB]
   | cons x l => have := h x (by simp); omega
  ·exact (Nat.div_eq_of_lt (Nat.lt_of_lt_of_le (vB_lt h) (Nat.pow_le_pow_right hb hi))).symm
def wl (n : Nat) (l : List Int) (m : Nat) : List Int := (List.range n).map fun j => ((vB 65536 ((l.take (4 * j + 4)).drop (max m (4 * j))) : Nat) : Int)
theorem wl_length (n : Nat) (l : List Int) (m : Nat) : (wl n l m).length = n := by simp [wl]
theorem wl_get {n : Nat} {l : List Int} {m j : Nat} (h : j < n) : (wl n l m).getD j 0 = ((vB 65536 ((l.take (4 * j + 4)).drop (max m (4 * j))) : Nat) : Int) := by
 simp [wl, List.getD_eq_getElem?_getD, h]
theorem ext_getD {l m : List Int} (h : l.length = m.length) (hg : ∀ i, i < l.length → l.getD i 0 = m.getD i 0) : l = m := by
 apply List.ext_getElem h
 intro i h1 h2
 have := hg i h1
 rw [List.getD_eq_getElem?_getD, List.getD_eq_getElem?_getD, List.getElem?_eq_getElem h1, List.getElem?_eq_getElem h2] at this
 exact this
theorem drop_nil {l : List Int} {a m : Nat} (h : a ≤ m) : (l.take a).drop m = [] := List.drop_eq_nil_of_le (by rw [List.length_take]; omega)
theorem wl_end (n : Nat) (l : List Int) (m : Nat) (h : l.length ≤ m) : wl n l m = List.replicate n 0 := by
 apply ext_getD
 ·simp [wl_length]
 intro j hj
 rw [wl_length] at hj
 rw [wl_get hj, List.drop_eq_nil_of_le (by rw [List.length_take]; omega)]
 simp [vB, List.getD_eq_getElem?_getD, hj]
theorem wl_past (n : Nat) (l : List Int) (i : Nat) (h : 4 * n ≤ i) : wl n l i = wl n l (i + 1) := by
 apply ext_getD
 ·simp [wl_length]
 intro j hj
 rw [wl_length] at hj
 rw [wl_get hj, wl_get hj, drop_nil (by omega), drop_nil (by omega)]
theorem wl_step (n : Nat) (l : List Int) (i : Nat) (h : i < l.length) (hi : i < 4 * n) (h0 : 0 ≤ l.getD i 0) : wl n l i = (wl n l (i + 1)).set (i / 4) ((wl n l (i + 1)).getD (i / 4) 0 * 65536 + l.getD i 0) := by
 apply ext_getD
 ·simp [wl_length]
 intro j hj
 rw [wl_length] at hj
 rw [wl_get hj, List.getD_eq_getElem?_getD, List.getElem?_set]
 split
 ·rename_i e
  subst e
  rw [if_pos (by rw [wl_length]; omega), wl_get (by omega), Option.getD_some, show max i (4 * (i / 4)) = i by omega, show max (i + 1) (4 * (i / 4)) = i + 1 by omega]
  have hlt : i < (l.take (4 * (i / 4) + 4)).length := by rw [List.length_take]; omega
  rw [List.drop_eq_getElem_cons hlt]
  have e : l.getD i 0 = (l.take (4 * (i / 4) + 4))[i] := by rw [List.getElem_take]; simp [List.getD_eq_getElem?_getD, h]
  rw [e] at h0 ⊢
  simp only [vB]
  omega
 ·rename_i e
  rw [← List.getD_eq_getElem?_getD, wl_get hj]
  rcases Nat.lt_or_ge i (4 * j) with hij | hij
  ·rw [show max i (4 * j) = max (i + 1) (4 * j) by omega]
  ·rw [drop_nil (by omega), drop_nil (by omega)]
theorem wl_lt {n : Nat} {l : List Int} (h : okd l) (m j : Nat) (hj : j < n) (hm : 4 * j < m) : (wl n l m).getD j 0 < 281474976710656 := by
 rw [wl_get hj]
 have hlt : vB 65536 ((l.take (4 * j + 4)).drop (max m (4 * j))) < 65536 ^ ((l.take (4 * j + 4)).drop (max m (4 * j))).length := vB_lt fun x hx => h x (List.mem_of_mem_take (List.mem_of_mem_drop hx))
 have hle : ((l.take (4 * j + 4)).drop (max m (4 * j))).length ≤ 3 := by rw [List.length_drop, List.length_take]; omega
 have := Nat.lt_of_lt_of_le hlt (Nat.pow_le_pow_right (by decide : 0 < 65536) hle)
 omega
theorem wl_zero {l : List Int} (h : okd l) (n : Nat) : wl n l 0 = nB 18446744073709551616 n (vB 65536 l) := by
 apply ext_getD
 ·rw [wl_length, nB_length]
 intro j hj
 rw [wl_length] at hj
 rw [wl_get hj, nB_get _ _ _ _ hj, show max 0 (4 * j) = 4 * j by omega, vB_drop (fun x hx => h x (List.mem_of_mem_take hx)), vB_take h]
 congr 1
 rw [show (18446744073709551616 : Nat) = 65536 ^ 4 by decide, ← Nat.pow_mul, Nat.pow_add, Nat.mod_mul_right_div_self]
theorem wl_nonneg (n : Nat) (l : List Int) (m j : Nat) : 0 ≤ (wl n l m).getD j 0 := by
 rcases Nat.lt_or_ge j n with h | h
 ·rw [wl_get h]
  omega
 ·rw [List.getD_eq_getElem?_getD, List.getElem?_eq_none (by rw [wl_length]; exact h)]
  exact Int.le_refl _
def outW (l : List Int) : List Int := l.flatMap fun x => nB 65536 4 x.toNat
theorem outW_ok (l : List Int) : okd (outW l) := by
 intro x hx
 simp only [outW, List.mem_flatMap] at hx
 obtain ⟨y, _, hy⟩ := hx
 exact nB_ok (by decide) _ _ x hy
theorem outW_len : ∀ l, (outW l).length = 4 * l.length
 | [] => rfl
 | x :: l => by
  have := outW_len l
  simp only [outW, List.flatMap_cons, List.length_append, nB_length, List.length_cons] at this ⊢
  omega
theorem outW_val : ∀ {l : List Int}, okw l → vB 65536 (outW l) = vB 18446744073709551616 l
 | [], _ => rfl
 | x :: l, h => by
  have h1 := h x (by simp)
  have ih := outW_val fun y hy => h y (List.mem_cons_of_mem _ hy)
  simp only [outW, List.flatMap_cons] at ih ⊢
  rw [vB_append, vB_nB, nB_length, ih]
  show _ = x.toNat + 18446744073709551616 * vB 18446744073709551616 l
  rw [Nat.mod_eq_of_lt (by omega)]
end Go.Vg
namespace Go.Vg.EdP
open Lean.Grind.CommRing
abbrev m (a b : Lean.Grind.CommRing.Expr) : Lean.Grind.CommRing.Expr := .mul a b
abbrev s (a b : Lean.Grind.CommRing.Expr) : Lean.Grind.CommRing.Expr := .add a b
abbrev n (a : Lean.Grind.CommRing.Expr) : Lean.Grind.CommRing.Expr := .neg a
abbrev k (a : Int) : Lean.Grind.CommRing.Expr := .num a
abbrev mi (a b : Lean.Grind.CommRing.Expr) : Lean.Grind.CommRing.Expr := .sub a b
abbrev v0 : Lean.Grind.CommRing.Expr := .var 0
abbrev v1 : Lean.Grind.CommRing.Expr := .var 1
abbrev v2 : Lean.Grind.CommRing.Expr := .var 2
abbrev v3 : Lean.Grind.CommRing.Expr := .var 3
abbrev v4 : Lean.Grind.CommRing.Expr := .var 4
abbrev v5 : Lean.Grind.CommRing.Expr := .var 5
abbrev v6 : Lean.Grind.CommRing.Expr := .var 6
def N1 := s (m v1 v4) (m v2 v3)
def N2 := s (m v2 v4) (m v1 v3)
def t12 := m (m (m (m v0 v1) v3) v2) v4
def D1 := s (k 1) t12
def D2 := mi (k 1) t12
def M1 := s (m v3 v6) (m v4 v5)
def M2 := s (m v4 v6) (m v3 v5)
def t23 := m (m (m (m v0 v3) v5) v4) v6
def E1 := s (k 1) t23
def E2 := mi (k 1) t23
def S := m (m (m (m v0 N1) N2) v5) v6
def T := m (m (m (m v0 v1) M1) v2) M2
def cu (x y : Lean.Grind.CommRing.Expr) : Lean.Grind.CommRing.Expr := mi (m y y) (s (s (k 1) (m x x)) (m (m (m (m v0 x) x) y) y))
def lX := m (s (m (m N1 D2) v6) (m (m N2 D1) v5)) (s (m E1 E2) T)
def rX := m (s (m (m v1 M2) E1) (m (m v2 M1) E2)) (s (m D1 D2) S)
def lY := m (s (m (m N2 D1) v6) (m (m N1 D2) v5)) (mi (m E1 E2) T)
def rY := m (s (m (m v2 M2) E1) (m (m v1 M1) E2)) (mi (m D1 D2) S)
def cX1 : Lean.Grind.CommRing.Expr := (s (s (s (s (n (m (m (m (m (m (m (m (m (m (m (m (m v0 v0) v1) v3) v3) v3) v3) v4) v4) v4) v5) v5) v6)) (n (m (m (m (m (m (m (m (m (m (m (m (m v0 v0) v1) v3) v3) v3) v4) v4) v4) v4) v5) v6) v6))) (s (m (m (m (m (m (m (m (m (m (m (m (m v0 v0) v2) v3) v3) v3) v3) v4) v4) v4) v5) v6) v6) (m (m (m (m (m (m (m (m (m (m (m (m v0 v0) v2) v3) v3) v3) v4) v4) v4) v4) v5) v5) v6))) (s (s (n (m (m (m (m (m (m (m (m (m v0 v1) v3) v3) v3) v3) v4) v5) v5) v6)) (n (m (m (m (m (m (m (m (m (m v0 v1) v3) v3) v3) v4) v4) v5) v5) v5))) (s (n (m (m (m (m (m (m (m v0 v1) v3) v3) v3) v4) v4) v5)) (m (m (m (m (m (m (m (m (m v0 v1) v3) v3) v4) v4) v4) v6) v6) v6)))) (s (s (s (n (m (m (m (m (m (m (m v0 v1) v3) v3) v4) v4) v4) v6)) (m (m (m (m (m (m (m (m (m v0 v1) v3) v4) v4) v4) v4) v5) v6) v6)) (s (m (m (m (m (m (m (m (m (m v0 v2) v3) v3) v3) v3) v4) v5) v6) v6) (m (m (m (m (m (m (m (m (m v0 v2) v3) v3) v3) v4) v4) v6) v6) v6))) (s (s (n (m (m (m (m (m (m (m v0 v2) v3) v3) v3) v4) v4) v6)) (n (m (m (m (m (m (m (m (m (m v0 v2) v3) v3) v4) v4) v4) v5) v5) v5))) (s (n (m (m (m (m (m (m (m v0 v2) v3) v3) v4) v4) v4) v5)) (n (m (m (m (m (m (m (m (m (m v0 v2) v3) v4) v4) v4) v4) v5) v5) v6))))))
def cX2 : Lean.Grind.CommRing.Expr := (s (s (s (s (s (s (m (m (m (m (m (m (m (m (m (m (m (m v0 v0) v1) v1) v2) v3) v3) v4) v5) v5) v5) v6) v6) (n (m (m (m (m (m (m (m (m (m (m (m (m v0 v0) v1) v1) v2) v3) v4) v4) v5) v5) v6) v6) v6))) (s (n (m (m (m (m (m (m (m (m (m (m (m (m v0 v0) v1) v2) v2) v3) v3) v4) v5) v5) v6) v6) v6)) (m (m (m (m (m (m (m (m (m (m (m (m v0 v0) v1) v2) v2) v3) v4) v4) v5) v5) v5) v6) v6))) (s (s (m (m (m (m (m (m (m (m (m v0 v1) v1) v1) v3) v3) v4) v5) v5) v6) (m (m (m (m (m (m (m (m (m v0 v1) v1) v1) v3) v4) v4) v5) v6) v6)) (s (m (m (m (m (m (m (m (m (m v0 v1) v1) v1) v3) v5) v5) v5) v6) v6) (m (m (m (m (m (m (m (m (m v0 v1) v1) v1) v4) v5) v5) v6) v6) v6)))) (s (s (s (n (m (m (m (m (m (m (m (m (m v0 v1) v1) v2) v3) v3) v4) v5) v6) v6)) (n (m (m (m (m (m (m (m (m (m v0 v1) v1) v2) v3) v4) v4) v5) v5) v6))) (s (m (m (m (m (m (m (m (m (m v0 v1) v1) v2) v3) v5) v5) v6) v6) v6) (m (m (m (m (m (m (m (m (m v0 v1) v1) v2) v4) v5) v5) v5) v6) v6))) (s (s (n (m (m (m (m (m (m (m (m (m v0 v1) v2) v2) v3) v3) v4) v5) v5) v6)) (n (m (m (m (m (m (m (m (m (m v0 v1) v2) v2) v3) v4) v4) v5) v6) v6))) (s (n (m (m (m (m (m (m (m (m (m v0 v1) v2) v2) v3) v5) v5) v5) v6) v6)) (n (m (m (m (m (m (m (m (m (m v0 v1) v2) v2) v4) v5) v5) v6) v6) v6)))))) (s (s (s (s (m (m (m (m (m (m (m v0 v1) v3) v3) v4) v5) v5) v6) (m (m (m (m (m (m (m v0 v1) v3) v4) v4) v5) v6) v6)) (s (m (m (m (m (m (m (m v0 v1) v3) v5) v5) v5) v6) v6) (m (m (m (m (m (m (m v0 v1) v4) v5) v5) v6) v6) v6))) (s (s (m (m (m (m (m (m (m (m (m v0 v2) v2) v2) v3) v3) v4) v5) v6) v6) (m (m (m (m (m (m (m (m (m v0 v2) v2) v2) v3) v4) v4) v5) v5) v6)) (s (n (m (m (m (m (m (m (m (m (m v0 v2) v2) v2) v3) v5) v5) v6) v6) v6)) (n (m (m (m (m (m (m (m (m (m v0 v2) v2) v2) v4) v5) v5) v5) v6) v6))))) (s (s (s (n (m (m (m (m (m (m (m v0 v2) v3) v3) v4) v5) v6) v6)) (n (m (m (m (m (m (m (m v0 v2) v3) v4) v4) v5) v5) v6))) (s (m (m (m (m (m (m (m v0 v2) v3) v5) v5) v6) v6) v6) (m (m (m (m (m (m (m v0 v2) v4) v5) v5) v5) v6) v6))) (s (s (m (m (m (m (m (m v1 v1) v1) v3) v5) v5) v5) (n (m (m (m (m (m (m v1 v1) v1) v3) v5) v6) v6))) (s (m (m (m (m v1 v1) v1) v3) v5) (m (m (m (m (m (m v1 v1) v1) v4) v5) v5) v6)))))) (s (s (s (s (s (n (m (m (m (m (m (m v1 v1) v1) v4) v6) v6) v6)) (m (m (m (m v1 v1) v1) v4) v6)) (s (m (m (m (m (m (m v1 v1) v2) v3) v5) v5) v6) (n (m (m (m (m (m (m v1 v1) v2) v3) v6) v6) v6)))) (s (s (m (m (m (m v1 v1) v2) v3) v6) (m (m (m (m (m (m v1 v1) v2) v4) v5) v5) v5)) (s (n (m (m (m (m (m (m v1 v1) v2) v4) v5) v6) v6)) (m (m (m (m v1 v1) v2) v4) v5)))) (s (s (s (n (m (m (m (m (m (m v1 v2) v2) v3) v5) v5) v5)) (m (m (m (m (m (m v1 v2) v2) v3) v5) v6) v6)) (s (n (m (m (m (m v1 v2) v2) v3) v5)) (n (m (m (m (m (m (m v1 v2) v2) v4) v5) v5) v6)))) (s (s (m (m (m (m (m (m v1 v2) v2) v4) v6) v6) v6) (n (m (m (m (m v1 v2) v2) v4) v6))) (s (m (m (m (m v1 v3) v5) v5) v5) (n (m (m (m (m v1 v3) v5) v6) v6)))))) (s (s (s (s (m (m v1 v3) v5) (m (m (m (m v1 v4) v5) v5) v6)) (s (n (m (m (m (m v1 v4) v6) v6) v6)) (m (m v1 v4) v6))) (s (s (n (m (m (m (m (m (m v2 v2) v2) v3) v5) v5) v6)) (m (m (m (m (m (m v2 v2) v2) v3) v6) v6) v6)) (s (n (m (m (m (m v2 v2) v2) v3) v6)) (n (m (m (m (m (m (m v2 v2) v2) v4) v5) v5) v5))))) (s (s (s (m (m (m (m (m (m v2 v2) v2) v4) v5) v6) v6) (n (m (m (m (m v2 v2) v2) v4) v5))) (s (m (m (m (m v2 v3) v5) v5) v6) (n (m (m (m (m v2 v3) v6) v6) v6)))) (s (s (m (m v2 v3) v6) (m (m (m (m v2 v4) v5) v5) v5)) (s (n (m (m (m (m v2 v4) v5) v6) v6)) (m (m v2 v4) v5)))))))
def cX3 : Lean.Grind.CommRing.Expr := (s (s (s (s (s (n (m (m (m (m (m (m (m v0 v1) v1) v2) v3) v3) v4) v5)) (m (m (m (m (m (m (m v0 v1) v1) v2) v3) v4) v4) v6)) (s (m (m (m (m (m (m (m v0 v1) v2) v2) v3) v3) v4) v6) (s (n (m (m (m (m (m (m (m v0 v1) v2) v2) v3) v4) v4) v5)) (n (m (m (m (m (m (m v1 v1) v1) v3) v3) v3) v5))))) (s (s (n (m (m (m (m (m (m v1 v1) v1) v3) v3) v4) v6)) (m (m (m (m (m (m v1 v1) v1) v3) v4) v4) v5)) (s (n (m (m (m (m v1 v1) v1) v3) v5)) (s (m (m (m (m (m (m v1 v1) v1) v4) v4) v4) v6) (n (m (m (m (m v1 v1) v1) v4) v6)))))) (s (s (s (n (m (m (m (m (m (m v1 v1) v2) v3) v3) v3) v6)) (n (m (m (m (m (m (m v1 v1) v2) v3) v3) v4) v5))) (s (m (m (m (m (m (m v1 v1) v2) v3) v4) v4) v6) (s (n (m (m (m (m v1 v1) v2) v3) v6)) (m (m (m (m (m (m v1 v1) v2) v4) v4) v4) v5)))) (s (s (n (m (m (m (m v1 v1) v2) v4) v5)) (m (m (m (m (m (m v1 v2) v2) v3) v3) v3) v5)) (s (m (m (m (m (m (m v1 v2) v2) v3) v3) v4) v6) (s (n (m (m (m (m (m (m v1 v2) v2) v3) v4) v4) v5)) (m (m (m (m v1 v2) v2) v3) v5)))))) (s (s (s (s (n (m (m (m (m (m (m v1 v2) v2) v4) v4) v4) v6)) (m (m (m (m v1 v2) v2) v4) v6)) (s (n (m (m (m (m v1 v3) v3) v3) v5)) (s (n (m (m (m (m v1 v3) v3) v4) v6)) (m (m (m (m v1 v3) v4) v4) v5)))) (s (s (n (m (m v1 v3) v5)) (m (m (m (m v1 v4) v4) v4) v6)) (s (n (m (m v1 v4) v6)) (s (m (m (m (m (m (m v2 v2) v2) v3) v3) v3) v6) (m (m (m (m (m (m v2 v2) v2) v3) v3) v4) v5))))) (s (s (s (n (m (m (m (m (m (m v2 v2) v2) v3) v4) v4) v6)) (m (m (m (m v2 v2) v2) v3) v6)) (s (n (m (m (m (m (m (m v2 v2) v2) v4) v4) v4) v5)) (s (m (m (m (m v2 v2) v2) v4) v5) (n (m (m (m (m v2 v3) v3) v3) v6))))) (s (s (n (m (m (m (m v2 v3) v3) v4) v5)) (m (m (m (m v2 v3) v4) v4) v6)) (s (n (m (m v2 v3) v6)) (s (m (m (m (m v2 v4) v4) v4) v5) (n (m (m v2 v4) v5))))))))
set_option maxRecDepth 100000 in
theorem idX : ((mi lX rX).toPoly == (s (s (m cX1 (cu v1 v2)) (m cX2 (cu v3 v4))) (m cX3 (cu v5 v6))).toPoly) = true := by kernel_rfl
def cY1 : Lean.Grind.CommRing.Expr := (s (s (s (s (m (m (m (m (m (m (m (m (m (m (m (m v0 v0) v1) v3) v3) v3) v3) v4) v4) v4) v5) v6) v6) (m (m (m (m (m (m (m (m (m (m (m (m v0 v0) v1) v3) v3) v3) v4) v4) v4) v4) v5) v5) v6)) (s (n (m (m (m (m (m (m (m (m (m (m (m (m v0 v0) v2) v3) v3) v3) v3) v4) v4) v4) v5) v5) v6)) (n (m (m (m (m (m (m (m (m (m (m (m (m v0 v0) v2) v3) v3) v3) v4) v4) v4) v4) v5) v6) v6)))) (s (s (m (m (m (m (m (m (m (m (m v0 v1) v3) v3) v3) v3) v4) v5) v6) v6) (m (m (m (m (m (m (m (m (m v0 v1) v3) v3) v3) v4) v4) v6) v6) v6)) (s (n (m (m (m (m (m (m (m v0 v1) v3) v3) v3) v4) v4) v6)) (n (m (m (m (m (m (m (m (m (m v0 v1) v3) v3) v4) v4) v4) v5) v5) v5))))) (s (s (s (n (m (m (m (m (m (m (m v0 v1) v3) v3) v4) v4) v4) v5)) (n (m (m (m (m (m (m (m (m (m v0 v1) v3) v4) v4) v4) v4) v5) v5) v6))) (s (n (m (m (m (m (m (m (m (m (m v0 v2) v3) v3) v3) v3) v4) v5) v5) v6)) (n (m (m (m (m (m (m (m (m (m v0 v2) v3) v3) v3) v4) v4) v5) v5) v5)))) (s (s (n (m (m (m (m (m (m (m v0 v2) v3) v3) v3) v4) v4) v5)) (m (m (m (m (m (m (m (m (m v0 v2) v3) v3) v4) v4) v4) v6) v6) v6)) (s (n (m (m (m (m (m (m (m v0 v2) v3) v3) v4) v4) v4) v6)) (m (m (m (m (m (m (m (m (m v0 v2) v3) v4) v4) v4) v4) v5) v6) v6)))))
def cY2 : Lean.Grind.CommRing.Expr := (s (s (s (s (s (s (m (m (m (m (m (m (m (m (m (m (m (m v0 v0) v1) v1) v2) v3) v3) v4) v5) v5) v6) v6) v6) (n (m (m (m (m (m (m (m (m (m (m (m (m v0 v0) v1) v1) v2) v3) v4) v4) v5) v5) v5) v6) v6))) (s (n (m (m (m (m (m (m (m (m (m (m (m (m v0 v0) v1) v2) v2) v3) v3) v4) v5) v5) v5) v6) v6)) (m (m (m (m (m (m (m (m (m (m (m (m v0 v0) v1) v2) v2) v3) v4) v4) v5) v5) v6) v6) v6))) (s (s (n (m (m (m (m (m (m (m (m (m v0 v1) v1) v1) v3) v3) v4) v5) v6) v6)) (n (m (m (m (m (m (m (m (m (m v0 v1) v1) v1) v3) v4) v4) v5) v5) v6))) (s (m (m (m (m (m (m (m (m (m v0 v1) v1) v1) v3) v5) v5) v6) v6) v6) (m (m (m (m (m (m (m (m (m v0 v1) v1) v1) v4) v5) v5) v5) v6) v6)))) (s (s (s (m (m (m (m (m (m (m (m (m v0 v1) v1) v2) v3) v3) v4) v5) v5) v6) (m (m (m (m (m (m (m (m (m v0 v1) v1) v2) v3) v4) v4) v5) v6) v6)) (s (m (m (m (m (m (m (m (m (m v0 v1) v1) v2) v3) v5) v5) v5) v6) v6) (m (m (m (m (m (m (m (m (m v0 v1) v1) v2) v4) v5) v5) v6) v6) v6))) (s (s (m (m (m (m (m (m (m (m (m v0 v1) v2) v2) v3) v3) v4) v5) v6) v6) (m (m (m (m (m (m (m (m (m v0 v1) v2) v2) v3) v4) v4) v5) v5) v6)) (s (n (m (m (m (m (m (m (m (m (m v0 v1) v2) v2) v3) v5) v5) v6) v6) v6)) (n (m (m (m (m (m (m (m (m (m v0 v1) v2) v2) v4) v5) v5) v5) v6) v6)))))) (s (s (s (s (n (m (m (m (m (m (m (m v0 v1) v3) v3) v4) v5) v6) v6)) (n (m (m (m (m (m (m (m v0 v1) v3) v4) v4) v5) v5) v6))) (s (m (m (m (m (m (m (m v0 v1) v3) v5) v5) v6) v6) v6) (m (m (m (m (m (m (m v0 v1) v4) v5) v5) v5) v6) v6))) (s (s (n (m (m (m (m (m (m (m (m (m v0 v2) v2) v2) v3) v3) v4) v5) v5) v6)) (n (m (m (m (m (m (m (m (m (m v0 v2) v2) v2) v3) v4) v4) v5) v6) v6))) (s (n (m (m (m (m (m (m (m (m (m v0 v2) v2) v2) v3) v5) v5) v5) v6) v6)) (n (m (m (m (m (m (m (m (m (m v0 v2) v2) v2) v4) v5) v5) v6) v6) v6))))) (s (s (s (m (m (m (m (m (m (m v0 v2) v3) v3) v4) v5) v5) v6) (m (m (m (m (m (m (m v0 v2) v3) v4) v4) v5) v6) v6)) (s (m (m (m (m (m (m (m v0 v2) v3) v5) v5) v5) v6) v6) (m (m (m (m (m (m (m v0 v2) v4) v5) v5) v6) v6) v6))) (s (s (m (m (m (m (m (m v1 v1) v1) v3) v5) v5) v6) (n (m (m (m (m (m (m v1 v1) v1) v3) v6) v6) v6))) (s (m (m (m (m v1 v1) v1) v3) v6) (m (m (m (m (m (m v1 v1) v1) v4) v5) v5) v5)))))) (s (s (s (s (s (n (m (m (m (m (m (m v1 v1) v1) v4) v5) v6) v6)) (m (m (m (m v1 v1) v1) v4) v5)) (s (m (m (m (m (m (m v1 v1) v2) v3) v5) v5) v5) (n (m (m (m (m (m (m v1 v1) v2) v3) v5) v6) v6)))) (s (s (m (m (m (m v1 v1) v2) v3) v5) (m (m (m (m (m (m v1 v1) v2) v4) v5) v5) v6)) (s (n (m (m (m (m (m (m v1 v1) v2) v4) v6) v6) v6)) (m (m (m (m v1 v1) v2) v4) v6)))) (s (s (s (n (m (m (m (m (m (m v1 v2) v2) v3) v5) v5) v6)) (m (m (m (m (m (m v1 v2) v2) v3) v6) v6) v6)) (s (n (m (m (m (m v1 v2) v2) v3) v6)) (n (m (m (m (m (m (m v1 v2) v2) v4) v5) v5) v5)))) (s (s (m (m (m (m (m (m v1 v2) v2) v4) v5) v6) v6) (n (m (m (m (m v1 v2) v2) v4) v5))) (s (m (m (m (m v1 v3) v5) v5) v6) (n (m (m (m (m v1 v3) v6) v6) v6)))))) (s (s (s (s (m (m v1 v3) v6) (m (m (m (m v1 v4) v5) v5) v5)) (s (n (m (m (m (m v1 v4) v5) v6) v6)) (m (m v1 v4) v5))) (s (s (n (m (m (m (m (m (m v2 v2) v2) v3) v5) v5) v5)) (m (m (m (m (m (m v2 v2) v2) v3) v5) v6) v6)) (s (n (m (m (m (m v2 v2) v2) v3) v5)) (n (m (m (m (m (m (m v2 v2) v2) v4) v5) v5) v6))))) (s (s (s (m (m (m (m (m (m v2 v2) v2) v4) v6) v6) v6) (n (m (m (m (m v2 v2) v2) v4) v6))) (s (m (m (m (m v2 v3) v5) v5) v5) (n (m (m (m (m v2 v3) v5) v6) v6)))) (s (s (m (m v2 v3) v5) (m (m (m (m v2 v4) v5) v5) v6)) (s (n (m (m (m (m v2 v4) v6) v6) v6)) (m (m v2 v4) v6)))))))
def cY3 : Lean.Grind.CommRing.Expr := (s (s (s (s (s (n (m (m (m (m (m (m (m v0 v1) v1) v2) v3) v3) v4) v6)) (m (m (m (m (m (m (m v0 v1) v1) v2) v3) v4) v4) v5)) (s (m (m (m (m (m (m (m v0 v1) v2) v2) v3) v3) v4) v5) (s (n (m (m (m (m (m (m (m v0 v1) v2) v2) v3) v4) v4) v6)) (n (m (m (m (m (m (m v1 v1) v1) v3) v3) v3) v6))))) (s (s (n (m (m (m (m (m (m v1 v1) v1) v3) v3) v4) v5)) (m (m (m (m (m (m v1 v1) v1) v3) v4) v4) v6)) (s (n (m (m (m (m v1 v1) v1) v3) v6)) (s (m (m (m (m (m (m v1 v1) v1) v4) v4) v4) v5) (n (m (m (m (m v1 v1) v1) v4) v5)))))) (s (s (s (n (m (m (m (m (m (m v1 v1) v2) v3) v3) v3) v5)) (n (m (m (m (m (m (m v1 v1) v2) v3) v3) v4) v6))) (s (m (m (m (m (m (m v1 v1) v2) v3) v4) v4) v5) (s (n (m (m (m (m v1 v1) v2) v3) v5)) (m (m (m (m (m (m v1 v1) v2) v4) v4) v4) v6)))) (s (s (n (m (m (m (m v1 v1) v2) v4) v6)) (m (m (m (m (m (m v1 v2) v2) v3) v3) v3) v6)) (s (m (m (m (m (m (m v1 v2) v2) v3) v3) v4) v5) (s (n (m (m (m (m (m (m v1 v2) v2) v3) v4) v4) v6)) (m (m (m (m v1 v2) v2) v3) v6)))))) (s (s (s (s (n (m (m (m (m (m (m v1 v2) v2) v4) v4) v4) v5)) (m (m (m (m v1 v2) v2) v4) v5)) (s (n (m (m (m (m v1 v3) v3) v3) v6)) (s (n (m (m (m (m v1 v3) v3) v4) v5)) (m (m (m (m v1 v3) v4) v4) v6)))) (s (s (n (m (m v1 v3) v6)) (m (m (m (m v1 v4) v4) v4) v5)) (s (n (m (m v1 v4) v5)) (s (m (m (m (m (m (m v2 v2) v2) v3) v3) v3) v5) (m (m (m (m (m (m v2 v2) v2) v3) v3) v4) v6))))) (s (s (s (n (m (m (m (m (m (m v2 v2) v2) v3) v4) v4) v5)) (m (m (m (m v2 v2) v2) v3) v5)) (s (n (m (m (m (m (m (m v2 v2) v2) v4) v4) v4) v6)) (s (m (m (m (m v2 v2) v2) v4) v6) (n (m (m (m (m v2 v3) v3) v3) v5))))) (s (s (n (m (m (m (m v2 v3) v3) v4) v6)) (m (m (m (m v2 v3) v4) v4) v5)) (s (n (m (m v2 v3) v5)) (s (m (m (m (m v2 v4) v4) v4) v6) (n (m (m v2 v4) v6))))))))
set_option maxRecDepth 100000 in
theorem idY : ((mi lY rY).toPoly == (s (s (m cY1 (cu v1 v2)) (m cY2 (cu v3 v4))) (m cY3 (cu v5 v6))).toPoly) = true := by kernel_rfl
def g1 : Lean.Grind.CommRing.Expr := (s (s (s (m (m (m (m (m (m (m (m (m (m (m (m (m (m v0 v0) v0) v1) v1) v2) v2) v3) v3) v3) v3) v4) v4) v4) v4) (s (n (m (m (m (m (m (m (m (m (m (m (m v0 v0) v1) v1) v3) v3) v3) v3) v4) v4) v4) v4)) (m (m (m (m (m (m (m (m (m (m (m v0 v0) v2) v2) v3) v3) v3) v3) v4) v4) v4) v4))) (s (s (n (m (m (m (m (m (m (m (m (m v0 v0) v3) v3) v3) v3) v4) v4) v4) v4)) (n (m (m (m (m (m (m (m (m v0 v1) v1) v3) v3) v3) v3) v4) v4))) (s (m (m (m (m (m (m (m (m v0 v1) v1) v3) v3) v4) v4) v4) v4) (m (m (m (m (m (m (m (m v0 v2) v2) v3) v3) v3) v3) v4) v4)))) (s (s (s (n (m (m (m (m (m (m (m (m v0 v2) v2) v3) v3) v4) v4) v4) v4)) (m (k (-2)) (m (m (m (m (m (m (m (m v0 v3) v3) v3) v3) v4) v4) v4) v4))) (s (m (k (-2)) (m (m (m (m v0 v3) v3) v4) v4)) (m (k (-2)) (m (m (m (m (m v3 v3) v3) v3) v4) v4)))) (s (s (m (m (m v3 v3) v3) v3) (m (k (2)) (m (m (m (m (m v3 v3) v4) v4) v4) v4))) (s (m (k (-4)) (m (m (m v3 v3) v4) v4)) (m (m (m v4 v4) v4) v4)))))
def g2 : Lean.Grind.CommRing.Expr := (s (s (s (m (m (m (m (m (m (m (m v0 v1) v1) v1) v1) v3) v3) v4) v4) (s (m (k (2)) (m (m (m (m (m (m v0 v1) v1) v3) v3) v4) v4)) (m (m (m (m (m (m (m (m v0 v2) v2) v2) v2) v3) v3) v4) v4))) (s (s (m (k (-2)) (m (m (m (m (m (m v0 v2) v2) v3) v3) v4) v4)) (m (m (m (m v0 v3) v3) v4) v4)) (s (m (k (2)) (m (m (m (m (m v1 v1) v3) v3) v4) v4)) (n (m (m (m v1 v1) v3) v3))))) (s (s (s (m (m (m v1 v1) v4) v4) (m (k (-2)) (m (m (m (m (m v2 v2) v3) v3) v4) v4))) (s (m (m (m v2 v2) v3) v3) (n (m (m (m v2 v2) v4) v4)))) (s (s (m (k (2)) (m (m (m v3 v3) v4) v4)) (n (m v3 v3))) (s (m v4 v4) (k 1)))))
set_option maxRecDepth 100000 in
theorem idG : ((mi (m (m N2 D1) (m N2 D1)) (s (s (m (m D1 D2) (m D1 D2)) (m (m N1 D2) (m N1 D2))) (m (m (m (m v0 N1) N1) N2) N2))).toPoly == (s (m g1 (cu v1 v2)) (m g2 (cu v3 v4))).toPoly) = true := by kernel_rfl
end Go.Vg.EdP
namespace Go.Vg
open Lean.Grind
structure EdF (F : Type) [CommRing F] where
 d : F
 i : F
 iv : F → F
 one0 : (1 : F) ≠ 0
 two0 : (1 : F) + 1 ≠ 0
 ii : i * i = -1
 dom : ∀ a b : F, a * b = 0 → a = 0 ∨ b = 0
 nsq : ∀ a b : F, a * a = d * (b * b) → b = 0
 inv : ∀ a, a ≠ 0 → a * iv a = 1
namespace EdF
variable {F : Type} [CommRing F] (E : EdF F)
def cv (x y : F) : Prop := y * y - (1 + x * x + E.d * x * x * y * y) = 0
include E in
theorem ne_mul {a b : F} (ha : a ≠ 0) (hb : b ≠ 0) : a * b ≠ 0 := fun h => (E.dom a b h).elim ha hb
include E in
theorem cancel {a b c : F} (hc : c ≠ 0) (h : a * c = b * c) : a = b := by
 have h1 : (a - b) * c = 0 := by grind
 rcases E.dom _ _ h1 with h2 | h2
 ·grind
 ·exact absurd h2 hc
theorem sqA {d i x1 y1 x2 y2 e : F} (h1 : y1 * y1 - (1 + x1 * x1 + d * x1 * x1 * y1 * y1) = 0) (h2 : y2 * y2 - (1 + x2 * x2 + d * x2 * x2 * y2 * y2) = 0)
  (hi : i * i = -1) (he : e * e = 1) (ht : d * x1 * x2 * y1 * y2 = e) :
  (i * x1 + e * y1) * (i * x1 + e * y1) = d * ((x1 * y1 * (i * x2 + y2)) * (x1 * y1 * (i * x2 + y2))) := by grind
theorem comp {x1 y1 x2 y2 e : F} (h1 : E.cv x1 y1) (h2 : E.cv x2 y2) (he : e * e = 1) : E.d * x1 * x2 * y1 * y2 ≠ e := fun ht => by
 have hA := E.nsq _ _ (sqA h1 h2 E.ii he ht)
 have h2' : (-y2) * (-y2) - (1 + x2 * x2 + E.d * x2 * x2 * (-y2) * (-y2)) = 0 := by
  have := h2
  unfold cv at this
  grind
 have hB := E.nsq _ _ (sqA (e := -e) h1 h2' E.ii (by grind) (by grind))
 have one := E.one0
 rcases E.dom _ _ hA with h | h
 ·grind
 ·rcases E.dom _ _ hB with h' | h'
  ·grind
  ·have : (1 + 1) * y2 = 0 := by grind
   rcases E.dom _ _ this with h3 | h3
   ·exact E.two0 h3
   ·grind
end EdF
namespace EdF
open Lean.Grind.CommRing
variable {F : Type} [CommRing F] (E : EdF F)
def ctx (d x1 y1 x2 y2 x3 y3 : F) : Lean.Grind.CommRing.Context F := .branch 3 (.branch 1 (.leaf d) (.branch 2 (.leaf x1) (.leaf y1))) (.branch 5 (.branch 4 (.leaf x2) (.leaf y2)) (.branch 6 (.leaf x3) (.leaf y3)))
theorem pX {d x1 y1 x2 y2 x3 y3 : F} (h1 : y1 * y1 - (1 + x1 * x1 + d * x1 * x1 * y1 * y1) = 0) (h2 : y2 * y2 - (1 + x2 * x2 + d * x2 * x2 * y2 * y2) = 0) (h3 : y3 * y3 - (1 + x3 * x3 + d * x3 * x3 * y3 * y3) = 0) :
  ((x1 * y2 + y1 * x2) * (1 - d * x1 * x2 * y1 * y2) * y3 + (y1 * y2 + x1 * x2) * (1 + d * x1 * x2 * y1 * y2) * x3) * ((1 + d * x2 * x3 * y2 * y3) * (1 - d * x2 * x3 * y2 * y3) + d * x1 * (x2 * y3 + y2 * x3) * y1 * (y2 * y3 + x2 * x3)) -
  (x1 * (y2 * y3 + x2 * x3) * (1 + d * x2 * x3 * y2 * y3) + y1 * (x2 * y3 + y2 * x3) * (1 - d * x2 * x3 * y2 * y3)) * ((1 + d * x1 * x2 * y1 * y2) * (1 - d * x1 * x2 * y1 * y2) + d * (x1 * y2 + y1 * x2) * (y1 * y2 + x1 * x2) * x3 * y3) = 0 := by
 have h := Lean.Grind.CommRing.Expr.eq_of_toPoly_eq (ctx d x1 y1 x2 y2 x3 y3) _ _ EdP.idX
 have e : (ctx d x1 y1 x2 y2 x3 y3 |> fun c => Lean.Grind.CommRing.Expr.denote c EdP.cX1 * (y1 * y1 - (1 + x1 * x1 + d * x1 * x1 * y1 * y1)) + Lean.Grind.CommRing.Expr.denote c EdP.cX2 * (y2 * y2 - (1 + x2 * x2 + d * x2 * x2 * y2 * y2)) + Lean.Grind.CommRing.Expr.denote c EdP.cX3 * (y3 * y3 - (1 + x3 * x3 + d * x3 * x3 * y3 * y3))) = 0 := by
  rw [h1, h2, h3]
  grind
 exact h.trans e
theorem pY {d x1 y1 x2 y2 x3 y3 : F} (h1 : y1 * y1 - (1 + x1 * x1 + d * x1 * x1 * y1 * y1) = 0) (h2 : y2 * y2 - (1 + x2 * x2 + d * x2 * x2 * y2 * y2) = 0) (h3 : y3 * y3 - (1 + x3 * x3 + d * x3 * x3 * y3 * y3) = 0) :
  ((y1 * y2 + x1 * x2) * (1 + d * x1 * x2 * y1 * y2) * y3 + (x1 * y2 + y1 * x2) * (1 - d * x1 * x2 * y1 * y2) * x3) * ((1 + d * x2 * x3 * y2 * y3) * (1 - d * x2 * x3 * y2 * y3) - d * x1 * (x2 * y3 + y2 * x3) * y1 * (y2 * y3 + x2 * x3)) -
  (y1 * (y2 * y3 + x2 * x3) * (1 + d * x2 * x3 * y2 * y3) + x1 * (x2 * y3 + y2 * x3) * (1 - d * x2 * x3 * y2 * y3)) * ((1 + d * x1 * x2 * y1 * y2) * (1 - d * x1 * x2 * y1 * y2) - d * (x1 * y2 + y1 * x2) * (y1 * y2 + x1 * x2) * x3 * y3) = 0 := by
 have h := Lean.Grind.CommRing.Expr.eq_of_toPoly_eq (ctx d x1 y1 x2 y2 x3 y3) _ _ EdP.idY
 have e : (ctx d x1 y1 x2 y2 x3 y3 |> fun c => Lean.Grind.CommRing.Expr.denote c EdP.cY1 * (y1 * y1 - (1 + x1 * x1 + d * x1 * x1 * y1 * y1)) + Lean.Grind.CommRing.Expr.denote c EdP.cY2 * (y2 * y2 - (1 + x2 * x2 + d * x2 * x2 * y2 * y2)) + Lean.Grind.CommRing.Expr.denote c EdP.cY3 * (y3 * y3 - (1 + x3 * x3 + d * x3 * x3 * y3 * y3))) = 0 := by
  rw [h1, h2, h3]
  grind
 exact h.trans e
theorem pG {d x1 y1 x2 y2 : F} (h1 : y1 * y1 - (1 + x1 * x1 + d * x1 * x1 * y1 * y1) = 0) (h2 : y2 * y2 - (1 + x2 * x2 + d * x2 * x2 * y2 * y2) = 0) :
  (y1 * y2 + x1 * x2) * (1 + d * x1 * x2 * y1 * y2) * ((y1 * y2 + x1 * x2) * (1 + d * x1 * x2 * y1 * y2)) -
  ((1 + d * x1 * x2 * y1 * y2) * (1 - d * x1 * x2 * y1 * y2) * ((1 + d * x1 * x2 * y1 * y2) * (1 - d * x1 * x2 * y1 * y2)) + (x1 * y2 + y1 * x2) * (1 - d * x1 * x2 * y1 * y2) * ((x1 * y2 + y1 * x2) * (1 - d * x1 * x2 * y1 * y2)) +
   d * (x1 * y2 + y1 * x2) * (x1 * y2 + y1 * x2) * (y1 * y2 + x1 * x2) * (y1 * y2 + x1 * x2)) = 0 := by
 have h := Lean.Grind.CommRing.Expr.eq_of_toPoly_eq (ctx d x1 y1 x2 y2 d d) _ _ EdP.idG
 have e : (ctx d x1 y1 x2 y2 d d |> fun c => Lean.Grind.CommRing.Expr.denote c EdP.g1 * (y1 * y1 - (1 + x1 * x1 + d * x1 * x1 * y1 * y1)) + Lean.Grind.CommRing.Expr.denote c EdP.g2 * (y2 * y2 - (1 + x2 * x2 + d * x2 * x2 * y2 * y2))) = 0 := by
  rw [h1, h2]
  grind
 exact h.trans e
def adX (x1 y1 x2 y2 : F) : F := (x1 * y2 + y1 * x2) * E.iv (1 + E.d * x1 * x2 * y1 * y2)
def adY (x1 y1 x2 y2 : F) : F := (y1 * y2 + x1 * x2) * E.iv (1 - E.d * x1 * x2 * y1 * y2)
theorem comp1 {x1 y1 x2 y2 : F} (h1 : E.cv x1 y1) (h2 : E.cv x2 y2) : 1 + E.d * x1 * x2 * y1 * y2 ≠ 0 := fun h => E.comp h1 h2 (e := -1) (by grind) (by grind)
theorem comp2 {x1 y1 x2 y2 : F} (h1 : E.cv x1 y1) (h2 : E.cv x2 y2) : 1 - E.d * x1 * x2 * y1 * y2 ≠ 0 := fun h => E.comp h1 h2 (e := 1) (by grind) (by grind)
theorem adX_eq {x1 y1 x2 y2 : F} (h1 : E.cv x1 y1) (h2 : E.cv x2 y2) : E.adX x1 y1 x2 y2 * (1 + E.d * x1 * x2 * y1 * y2) = x1 * y2 + y1 * x2 := by
 have := E.inv _ (E.comp1 h1 h2)
 unfold adX
 generalize E.iv _ = w at *
 grind
theorem adY_eq {x1 y1 x2 y2 : F} (h1 : E.cv x1 y1) (h2 : E.cv x2 y2) : E.adY x1 y1 x2 y2 * (1 - E.d * x1 * x2 * y1 * y2) = y1 * y2 + x1 * x2 := by
 have := E.inv _ (E.comp2 h1 h2)
 unfold adY
 generalize E.iv _ = w at *
 grind
theorem cv_ad {x1 y1 x2 y2 : F} (h1 : E.cv x1 y1) (h2 : E.cv x2 y2) : E.cv (E.adX x1 y1 x2 y2) (E.adY x1 y1 x2 y2) := by
 have a1 := E.comp1 h1 h2
 have a2 := E.comp2 h1 h2
 have b1 := E.adX_eq h1 h2
 have b2 := E.adY_eq h1 h2
 have g := pG h1 h2
 rw [← b1, ← b2] at g
 generalize E.adX x1 y1 x2 y2 = X at *
 generalize E.adY x1 y1 x2 y2 = Y at *
 generalize hD1 : 1 + E.d * x1 * x2 * y1 * y2 = D1 at *
 generalize hD2 : 1 - E.d * x1 * x2 * y1 * y2 = D2 at *
 unfold cv
 have g2 : (Y * Y - (1 + X * X + E.d * X * X * Y * Y)) * (D1 * D2 * (D1 * D2)) = 0 := by
  clear h1 h2 b1 b2 hD1 hD2
  grind
 rcases E.dom _ _ g2 with h | h
 ·exact h
 ·exact absurd h (E.ne_mul (E.ne_mul a1 a2) (E.ne_mul a1 a2))
theorem assoc {x1 y1 x2 y2 x3 y3 : F} (h1 : E.cv x1 y1) (h2 : E.cv x2 y2) (h3 : E.cv x3 y3) :
  E.adX (E.adX x1 y1 x2 y2) (E.adY x1 y1 x2 y2) x3 y3 = E.adX x1 y1 (E.adX x2 y2 x3 y3) (E.adY x2 y2 x3 y3) ∧
  E.adY (E.adX x1 y1 x2 y2) (E.adY x1 y1 x2 y2) x3 y3 = E.adY x1 y1 (E.adX x2 y2 x3 y3) (E.adY x2 y2 x3 y3) := by
 have h12 := E.cv_ad h1 h2
 have h23 := E.cv_ad h2 h3
 have a1 := E.comp1 h1 h2
 have a2 := E.comp2 h1 h2
 have a3 := E.comp1 h2 h3
 have a4 := E.comp2 h2 h3
 have a5 := E.comp1 h12 h3
 have a6 := E.comp2 h12 h3
 have a7 := E.comp1 h1 h23
 have a8 := E.comp2 h1 h23
 have b1 := E.adX_eq h1 h2
 have b2 := E.adY_eq h1 h2
 have b3 := E.adX_eq h2 h3
 have b4 := E.adY_eq h2 h3
 have b5 := E.adX_eq h12 h3
 have b6 := E.adY_eq h12 h3
 have b7 := E.adX_eq h1 h23
 have b8 := E.adY_eq h1 h23
 have gX := pX h1 h2 h3
 have gY := pY h1 h2 h3
 clear h12 h23 h1 h2 h3
 rw [← b1, ← b2, ← b3, ← b4] at gX gY
 generalize E.adX (E.adX x1 y1 x2 y2) (E.adY x1 y1 x2 y2) x3 y3 = X5 at *
 generalize E.adY (E.adX x1 y1 x2 y2) (E.adY x1 y1 x2 y2) x3 y3 = Y5 at *
 generalize E.adX x1 y1 (E.adX x2 y2 x3 y3) (E.adY x2 y2 x3 y3) = X7 at *
 generalize E.adY x1 y1 (E.adX x2 y2 x3 y3) (E.adY x2 y2 x3 y3) = Y7 at *
 generalize E.adX x1 y1 x2 y2 = X1 at *
 generalize E.adY x1 y1 x2 y2 = Y1 at *
 generalize E.adX x2 y2 x3 y3 = X3 at *
 generalize E.adY x2 y2 x3 y3 = Y3 at *
 generalize 1 + E.d * x1 * x2 * y1 * y2 = D1 at *
 generalize 1 - E.d * x1 * x2 * y1 * y2 = D2 at *
 generalize 1 + E.d * x2 * x3 * y2 * y3 = E1 at *
 generalize 1 - E.d * x2 * x3 * y2 * y3 = E2 at *
 clear b1 b2 b3 b4
 have c := E.ne_mul (E.ne_mul a1 a2) (E.ne_mul a3 a4)
 constructor
 ·clear gY b6 b8
  have g2 : (D1 * D2 * (E1 * E2)) * ((X1 * y3 + Y1 * x3) * (1 + E.d * x1 * X3 * y1 * Y3) - (x1 * Y3 + y1 * X3) * (1 + E.d * X1 * x3 * Y1 * y3)) = 0 := by
   refine Eq.trans ?_ gX
   clear gX b5 b7 a1 a2 a3 a4 a5 a6 a7 a8 c
   grind
  have g3 := (E.dom _ _ g2).resolve_left c
  rw [← b5, ← b7] at g3
  refine E.cancel (E.ne_mul a5 a7) ?_
  generalize 1 + E.d * X1 * x3 * Y1 * y3 = K at *
  generalize 1 + E.d * x1 * X3 * y1 * Y3 = L at *
  clear gX g2 b5 b7 a1 a2 a3 a4 a5 a6 a7 a8 c
  grind
 ·clear gX b5 b7
  have g2 : (D1 * D2 * (E1 * E2)) * ((Y1 * y3 + X1 * x3) * (1 - E.d * x1 * X3 * y1 * Y3) - (y1 * Y3 + x1 * X3) * (1 - E.d * X1 * x3 * Y1 * y3)) = 0 := by
   refine Eq.trans ?_ gY
   clear gY b6 b8 a1 a2 a3 a4 a5 a6 a7 a8 c
   grind
  have g3 := (E.dom _ _ g2).resolve_left c
  rw [← b6, ← b8] at g3
  refine E.cancel (E.ne_mul a6 a8) ?_
  generalize 1 - E.d * X1 * x3 * Y1 * y3 = K at *
  generalize 1 - E.d * x1 * X3 * y1 * Y3 = L at *
  clear gY g2 b6 b8 a1 a2 a3 a4 a5 a6 a7 a8 c
  grind
end EdF
namespace EdF
variable {F : Type} [CommRing F] (E : EdF F)
theorem iv_one : E.iv 1 = 1 := by
 have := E.inv 1 E.one0
 grind
theorem cv0 : E.cv 0 1 := by
 unfold cv
 grind
theorem ad0 (x y : F) : E.adX x y 0 1 = x ∧ E.adY x y 0 1 = y := by
 have h1 : 1 + E.d * x * 0 * y * 1 = 1 := by grind
 have h2 : 1 - E.d * x * 0 * y * 1 = 1 := by grind
 unfold adX adY
 rw [h1, h2, iv_one]
 constructor <;> grind
theorem ad0' (x y : F) : E.adX 0 1 x y = x ∧ E.adY 0 1 x y = y := by
 have h1 : 1 + E.d * 0 * x * 1 * y = 1 := by grind
 have h2 : 1 - E.d * 0 * x * 1 * y = 1 := by grind
 unfold adX adY
 rw [h1, h2, iv_one]
 constructor <;> grind
def ml (x y : F) : Nat → F × F
 | 0 => (0, 1)
 | n + 1 => (E.adX (ml x y n).1 (ml x y n).2 x y, E.adY (ml x y n).1 (ml x y n).2 x y)
theorem cv_ml {x y : F} (h : E.cv x y) : ∀ n, E.cv (E.ml x y n).1 (E.ml x y n).2
 | 0 => E.cv0
 | n + 1 => E.cv_ad (cv_ml h n) h
theorem ml_one (x y : F) : E.ml x y 1 = (x, y) := by
 show (E.adX 0 1 x y, E.adY 0 1 x y) = (x, y)
 rw [(E.ad0' x y).1, (E.ad0' x y).2]
theorem ml_add {x y : F} (h : E.cv x y) (a : Nat) : ∀ b, (E.adX (E.ml x y a).1 (E.ml x y a).2 (E.ml x y b).1 (E.ml x y b).2, E.adY (E.ml x y a).1 (E.ml x y a).2 (E.ml x y b).1 (E.ml x y b).2) = E.ml x y (a + b)
 | 0 => by
  show (E.adX (E.ml x y a).1 (E.ml x y a).2 0 1, E.adY (E.ml x y a).1 (E.ml x y a).2 0 1) = E.ml x y a
  rw [(E.ad0 _ _).1, (E.ad0 _ _).2]
 | b + 1 => by
  have ih := ml_add h a b
  have as := E.assoc (E.cv_ml h a) (E.cv_ml h b) h
  show _ = (E.adX (E.ml x y (a + b)).1 (E.ml x y (a + b)).2 x y, E.adY (E.ml x y (a + b)).1 (E.ml x y (a + b)).2 x y)
  rw [← ih]
  exact Prod.ext as.1.symm as.2.symm
def rp (X Y Z : F) (P : F × F) : Prop := Z ≠ 0 ∧ X = P.1 * Z ∧ Y = P.2 * Z
def rq (X Y Z T : F) (P : F × F) : Prop := Z ≠ 0 ∧ X = P.1 * Z ∧ Y = P.2 * Z ∧ T = P.1 * P.2 * Z
def ad (P Q : F × F) : F × F := (E.adX P.1 P.2 Q.1 Q.2, E.adY P.1 P.2 Q.1 Q.2)
theorem rp_out {X Y Z : F} {P : F × F} (h : rp X Y Z P) : X * E.iv Z = P.1 ∧ Y * E.iv Z = P.2 := by
 obtain ⟨h0, rfl, rfl⟩ := h
 have := E.inv _ h0
 constructor <;> grind
theorem rp_ad {X Y Z X' Y' Z' : F} {P Q : F × F} (hP : E.cv P.1 P.2) (hQ : E.cv Q.1 Q.2) (h : rp X Y Z P) (h' : rp X' Y' Z' Q) :
  rp (Z * Z' * (Z * Z' * (Z * Z') - E.d * (X * X') * (Y * Y')) * (X * Y' + Y * X')) (Z * Z' * (Z * Z' * (Z * Z') + E.d * (X * X') * (Y * Y')) * (X * X' + Y * Y'))
   ((Z * Z' * (Z * Z') - E.d * (X * X') * (Y * Y')) * (Z * Z' * (Z * Z') + E.d * (X * X') * (Y * Y'))) (E.ad P Q) := by
 obtain ⟨x, y⟩ := P
 obtain ⟨u, v⟩ := Q
 obtain ⟨h0, rfl, rfl⟩ := h
 obtain ⟨h0', rfl, rfl⟩ := h'
 have a1 := E.comp1 hP hQ
 have a2 := E.comp2 hP hQ
 have b1 := E.adX_eq hP hQ
 have b2 := E.adY_eq hP hQ
 have c := E.ne_mul h0 h0'
 have c2 := E.ne_mul c c
 have eF : Z * Z' * (Z * Z') - E.d * (x * Z * (u * Z')) * (y * Z * (v * Z')) = Z * Z' * (Z * Z') * (1 - E.d * x * u * y * v) := by clear hP hQ a1 a2 b1 b2 c c2 h0 h0'; grind
 have eG : Z * Z' * (Z * Z') + E.d * (x * Z * (u * Z')) * (y * Z * (v * Z')) = Z * Z' * (Z * Z') * (1 + E.d * x * u * y * v) := by clear hP hQ a1 a2 b1 b2 c c2 h0 h0'; grind
 show _ ≠ 0 ∧ _ ∧ _
 simp only [eF, eG]
 refine ⟨E.ne_mul (E.ne_mul c2 a2) (E.ne_mul c2 a1), ?_, ?_⟩
 ·show _ = E.adX x y u v * _
  simp only at b1
  generalize E.adX x y u v = A at *
  generalize 1 + E.d * x * u * y * v = D1 at *
  generalize 1 - E.d * x * u * y * v = D2 at *
  clear hP hQ a1 a2 b2 c c2 h0 h0' eF eG
  have : x * Z * (v * Z') + y * Z * (u * Z') = A * D1 * (Z * Z') := by rw [b1]; grind
  rw [this]
  clear this b1
  grind
 ·show _ = E.adY x y u v * _
  simp only at b2
  generalize E.adY x y u v = A at *
  generalize 1 + E.d * x * u * y * v = D1 at *
  generalize 1 - E.d * x * u * y * v = D2 at *
  clear hP hQ a1 a2 b1 c c2 h0 h0' eF eG
  have : x * Z * (u * Z') + y * Z * (v * Z') = A * D2 * (Z * Z') := by rw [b2]; grind
  rw [this]
  clear this b2
  grind
theorem rq_ad {X Y Z T X' Y' Z' T' : F} {P Q : F × F} (hP : E.cv P.1 P.2) (hQ : E.cv Q.1 Q.2) (h : rq X Y Z T P) (h' : rq X' Y' Z' T' Q) {a b c z : F}
  (ha : a = (Y - X) * (Y' - X')) (hb : b = (Y + X) * (Y' + X')) (hc : c = T * T' * E.d + T * T' * E.d) (hz : z = Z * Z' + Z * Z') :
  rq ((b - a) * (z - c)) ((z + c) * (b + a)) ((z - c) * (z + c)) ((b - a) * (b + a)) (E.ad P Q) := by
 obtain ⟨x, y⟩ := P
 obtain ⟨u, v⟩ := Q
 obtain ⟨h0, rfl, rfl, rfl⟩ := h
 obtain ⟨h0', rfl, rfl, rfl⟩ := h'
 have a1 := E.comp1 hP hQ
 have a2 := E.comp2 hP hQ
 have b1 := E.adX_eq hP hQ
 have b2 := E.adY_eq hP hQ
 have cc := E.ne_mul (E.ne_mul h0 h0') E.two0
 have eF : z - c = Z * Z' * (1 + 1) * (1 - E.d * x * u * y * v) := by rw [hz, hc]; clear hP hQ a1 a2 b1 b2 cc h0 h0' ha hb hc hz; grind
 have eG : z + c = Z * Z' * (1 + 1) * (1 + E.d * x * u * y * v) := by rw [hz, hc]; clear hP hQ a1 a2 b1 b2 cc h0 h0' ha hb hc hz; grind
 have eE : b - a = (x * v + y * u) * (Z * Z' * (1 + 1)) := by rw [ha, hb]; clear hP hQ a1 a2 b1 b2 cc h0 h0' ha hb hc hz eF eG; grind
 have eH : b + a = (y * v + x * u) * (Z * Z' * (1 + 1)) := by rw [ha, hb]; clear hP hQ a1 a2 b1 b2 cc h0 h0' ha hb hc hz eF eG eE; grind
 rw [eF, eG, eE, eH]
 show _ ≠ 0 ∧ _ = E.adX x y u v * _ ∧ _ = E.adY x y u v * _ ∧ _ = E.adX x y u v * E.adY x y u v * _
 simp only at b1 b2 a1 a2
 refine ⟨E.ne_mul (E.ne_mul cc a2) (E.ne_mul cc a1), ?_⟩
 rw [← b1, ← b2]
 generalize E.adX x y u v = A at *
 generalize E.adY x y u v = B at *
 generalize 1 + E.d * x * u * y * v = D1 at *
 generalize 1 - E.d * x * u * y * v = D2 at *
 generalize Z * Z' * (1 + 1) = W at *
 clear hP hQ a1 a2 b1 b2 cc h0 h0' ha hb hc hz eF eG eE eH
 refine ⟨?_, ?_, ?_⟩ <;> grind
theorem rq_rp {X Y Z T : F} {P : F × F} (h : rq X Y Z T P) : rp X Y Z P := ⟨h.1, h.2.1, h.2.2.1⟩
include E in
theorem rp_in (x y : F) : rp x y 1 (x, y) := ⟨E.one0, by grind, by grind⟩
include E in
theorem rq_in (x y : F) : rq x y 1 (x * y) (x, y) := ⟨E.one0, by grind, by grind, by grind⟩
theorem ad_ml {x y : F} (h : E.cv x y) (a b : Nat) : E.ad (E.ml x y a) (E.ml x y b) = E.ml x y (a + b) := E.ml_add h a b
end EdF
end Go.Vg
namespace Go.Vg
def pm (m : Nat) : Nat → Nat → Nat → Nat
 | 0, _, _ => 1 % m
 | k + 1, b, e => if e % 2 = 1 then pm m k (b * b % m) (e / 2) * b % m else pm m k (b * b % m) (e / 2)
theorem pm_eq (m : Nat) : ∀ k b e, e < 2 ^ k → pm m k b e = b ^ e % m
 | 0, b, e, h => by
  have : e = 0 := by rw [Nat.pow_zero] at h; omega
  subst this
  rfl
 | k + 1, b, e, h => by
  have h2 : e / 2 < 2 ^ k := by rw [Nat.pow_succ] at h; omega
  have ih := pm_eq m k (b * b % m) (e / 2) h2
  have e1 : (b * b % m) ^ (e / 2) % m = b ^ (2 * (e / 2)) % m := by rw [← Nat.pow_mod, Nat.pow_mul, Nat.pow_two]
  unfold pm
  rw [ih, e1]
  split
  ·rw [Nat.mod_mul_mod, ← Nat.pow_succ]
   congr 2
   omega
  ·congr 2
   omega
end Go.Vg
namespace Go.Vg
def Prm (p : Nat) : Prop := 2 ≤ p ∧ ∀ d, d ∣ p → d = 1 ∨ d = p
def AllP : List Nat → Prop
 | [] => True
 | q :: qs => Prm q ∧ AllP qs
def lprod : List Nat → Nat
 | [] => 1
 | q :: qs => q * lprod qs
theorem lprod_dvd : ∀ {fs : List Nat} {q : Nat}, q ∈ fs → q ∣ lprod fs
 | [], _, h => by cases h
 | q :: qs, r, h => by
  rcases List.mem_cons.1 h with rfl | h
  ·exact ⟨_, rfl⟩
  ·exact Nat.dvd_trans (lprod_dvd h) ⟨q, Nat.mul_comm _ _⟩
theorem part_of : ∀ {fs : List Nat}, AllP fs → ∀ {e : Nat}, e ∣ lprod fs → e ≠ lprod fs → ∃ q ∈ fs, e ∣ lprod fs / q
 | [], _, e, h, hne => absurd (Nat.dvd_one.1 h) hne
 | q :: qs, hp, e, h, hne => by
  have hq0 : 0 < q := by have := hp.1.1; omega
  by_cases hqe : q ∣ e
  ·obtain ⟨e', rfl⟩ := hqe
   have h1 : e' ∣ lprod qs := Nat.dvd_of_mul_dvd_mul_left hq0 h
   have h2 : e' ≠ lprod qs := fun h => hne (by rw [h]; rfl)
   obtain ⟨r, hr, hd⟩ := part_of hp.2 h1 h2
   refine ⟨r, List.mem_cons_of_mem _ hr, ?_⟩
   show q * e' ∣ q * lprod qs / r
   rw [Nat.mul_div_assoc _ (lprod_dvd hr)]
   exact Nat.mul_dvd_mul_left q hd
  ·refine ⟨q, List.mem_cons_self .., ?_⟩
   show e ∣ q * lprod qs / q
   rw [Nat.mul_div_cancel_left _ hq0]
   have hc : Nat.Coprime e q := by
    rcases hp.1.2 (Nat.gcd e q) (Nat.gcd_dvd_right e q) with h1 | h1
    ·exact h1
    ·exact absurd (h1 ▸ Nat.gcd_dvd_left e q) hqe
   exact hc.dvd_of_dvd_mul_left h
theorem no_inj : ∀ (n : Nat) (f : Nat → Nat), (∀ i, i < n + 1 → f i < n) → (∀ i j, i < n + 1 → j < n + 1 → f i = f j → i = j) → False
 | 0, f, h, _ => by have := h 0 (by omega); omega
 | n + 1, f, h, hi => by
  refine no_inj n (fun i => if f i = n then f (n + 1) else f i) ?_ ?_
  ·intro i hlt
   have h1 := h i (by omega)
   have h2 := h (n + 1) (by omega)
   show (if f i = n then f (n + 1) else f i) < n
   split
   ·rename_i he
    have : f (n + 1) ≠ n := fun h3 => by
     have := hi i (n + 1) (by omega) (by omega) (by rw [he, h3])
     omega
    omega
   ·omega
  ·intro i j hlt hlt' he
   have he : (if f i = n then f (n + 1) else f i) = (if f j = n then f (n + 1) else f j) := he
   split at he
   ·rename_i h1
    split at he
    ·rename_i h2
     exact hi i j (by omega) (by omega) (by rw [h1, h2])
    ·have := hi (n + 1) j (by omega) (by omega) he
     omega
   ·split at he
    ·have := hi i (n + 1) (by omega) (by omega) he
     omega
    ·exact hi i j (by omega) (by omega) he
theorem surj {n : Nat} {f : Nat → Nat} (h : ∀ i, i < n → f i < n) (hi : ∀ i j, i < n → j < n → f i = f j → i = j) {y : Nat} (hy : y < n) : ∃ i, i < n ∧ f i = y := by
 apply Classical.byContradiction
 intro hno
 have hno : ∀ i, i < n → f i ≠ y := fun i h1 h2 => hno ⟨i, h1, h2⟩
 obtain ⟨m, rfl⟩ : ∃ m, n = m + 1 := ⟨n - 1, by omega⟩
 refine no_inj m (fun i => if f i = m then y else f i) ?_ ?_
 ·intro i hlt
  have h1 := h i hlt
  have h2 := hno i hlt
  show (if f i = m then y else f i) < m
  split <;> omega
 ·intro i j hlt hlt' he
  have he : (if f i = m then y else f i) = (if f j = m then y else f j) := he
  split at he
  ·rename_i h1
   split at he
   ·rename_i h2
    exact hi i j hlt hlt' (by rw [h1, h2])
   ·exact absurd he.symm (hno j hlt')
  ·split at he
   ·exact absurd he (hno i hlt)
   ·exact hi i j hlt hlt' he
theorem pow_gcd {p g : Nat} (hp : 1 < p) : ∀ (a b : Nat), g ^ a % p = 1 → g ^ b % p = 1 → g ^ Nat.gcd a b % p = 1 := by
 intro a b
 refine Nat.gcd.induction (P := fun a b => g ^ a % p = 1 → g ^ b % p = 1 → g ^ Nat.gcd a b % p = 1) a b ?_ ?_
 ·intro b _ hb
  rw [Nat.gcd_zero_left]
  exact hb
 ·intro a b _ ih ha hb
  rw [Nat.gcd_rec]
  refine ih ?_ ha
  have e : g ^ b = (g ^ a) ^ (b / a) * g ^ (b % a) := by rw [← Nat.pow_mul, ← Nat.pow_add, Nat.div_add_mod]
  rw [e, Nat.mul_mod, Nat.pow_mod, ha, Nat.one_pow, Nat.mod_eq_of_lt hp, Nat.one_mul, Nat.mod_mod] at hb
  exact hb
theorem lucas {p g : Nat} {fs : List Nat} (hp : 2 ≤ p) (hprod : lprod fs = p - 1) (hfs : AllP fs) (h1 : g ^ (p - 1) % p = 1) (hq : ∀ q ∈ fs, g ^ ((p - 1) / q) % p ≠ 1) :
  Prm p ∧ ∀ a, a % p ≠ 0 → a ^ (p - 1) % p = 1 := by
 have hone : 1 % p = 1 := Nat.mod_eq_of_lt hp
 have ord : ∀ i, 0 < i → i < p - 1 → g ^ i % p ≠ 1 := by
  intro i hi0 hi h
  have he := pow_gcd hp i (p - 1) h h1
  have hd : Nat.gcd i (p - 1) ∣ lprod fs := by rw [hprod]; exact Nat.gcd_dvd_right _ _
  have hle : Nat.gcd i (p - 1) ≤ i := Nat.gcd_le_left _ hi0
  have hne : Nat.gcd i (p - 1) ≠ lprod fs := by rw [hprod]; omega
  obtain ⟨q, hqm, k, hk⟩ := part_of hfs hd hne
  rw [hprod] at hk
  refine hq q hqm ?_
  rw [hk, Nat.pow_mul, Nat.pow_mod, he, Nat.one_pow, hone]
 have inv : ∀ i, i < p - 1 → g ^ (p - 1 - i) * g ^ i % p = 1 := by
  intro i hi
  rw [← Nat.pow_add, Nat.sub_add_cancel (by omega), h1]
 have inj : ∀ i j, i < p - 1 → j < p - 1 → i < j → g ^ i % p = g ^ j % p → False := by
  intro i j hi hj hij he
  have e1 : g ^ (p - 1 - i) * g ^ j % p = g ^ (j - i) % p := by
   have : g ^ j = g ^ i * g ^ (j - i) := by rw [← Nat.pow_add]; congr 1; omega
   rw [this, ← Nat.mul_assoc, Nat.mul_mod, inv i hi, Nat.one_mul, Nat.mod_mod]
  have e2 : g ^ (p - 1 - i) * g ^ j % p = 1 := by
   rw [Nat.mul_mod, ← he, ← Nat.mul_mod, inv i hi]
  exact ord (j - i) (by omega) (by omega) (by rw [← e1, e2])
 have nz : ∀ i, i < p - 1 → g ^ i % p ≠ 0 := by
  intro i hi h0
  have := inv i hi
  rw [Nat.mul_mod, h0, Nat.mul_zero, Nat.zero_mod] at this
  omega
 have fermat : ∀ a, a % p ≠ 0 → a ^ (p - 1) % p = 1 := by
  intro a ha
  have hlt := Nat.mod_lt a (show 0 < p by omega)
  obtain ⟨i, hi, hie⟩ := surj (n := p - 1) (f := fun i => g ^ i % p - 1) (by
    intro i hi
    have := Nat.mod_lt (g ^ i) (show 0 < p by omega)
    have := nz i hi
    show g ^ i % p - 1 < p - 1
    omega) (by
    intro i j hi hj he
    have he : g ^ i % p - 1 = g ^ j % p - 1 := he
    have n1 := nz i hi
    have n2 := nz j hj
    rcases Nat.lt_trichotomy i j with h | h | h
    ·exact (inj i j hi hj h (by omega)).elim
    ·exact h
    ·exact (inj j i hj hi h (by omega)).elim) (y := a % p - 1) (by omega)
  have hie : g ^ i % p - 1 = a % p - 1 := hie
  have n1 := nz i hi
  have ha2 : a % p = g ^ i % p := by omega
  rw [Nat.pow_mod, ha2, ← Nat.pow_mod, ← Nat.pow_mul, Nat.mul_comm, Nat.pow_mul, Nat.pow_mod, h1, Nat.one_pow, hone]
 refine ⟨⟨hp, ?_⟩, fermat⟩
 intro d hd
 apply Classical.byContradiction
 intro hno
 have hd1 : d ≠ 1 := fun h => hno (.inl h)
 have hdp : d ≠ p := fun h => hno (.inr h)
 have hle := Nat.le_of_dvd (by omega) hd
 have hd0 : d ≠ 0 := by
  intro h
  subst h
  have := Nat.zero_dvd.1 hd
  omega
 have hm : d % p ≠ 0 := by rw [Nat.mod_eq_of_lt (by omega)]; exact hd0
 have hf := fermat d hm
 have hdd : d ∣ d ^ (p - 1) := by
  obtain ⟨n, hn⟩ : ∃ n, p - 1 = n + 1 := ⟨p - 2, by omega⟩
  rw [hn, Nat.pow_succ]
  exact ⟨_, Nat.mul_comm _ _⟩
 have h3 : d ∣ d ^ (p - 1) % p := (Nat.dvd_mod_iff hd).2 hdd
 rw [hf] at h3
 exact hd1 (Nat.dvd_one.1 h3)
def lucasB (p g : Nat) (fs : List Nat) : Bool := Nat.ble 2 p && Nat.beq (lprod fs) (p - 1) && Nat.ble (p - 1) (2 ^ 256 - 1) && Nat.beq (pm p 256 g (p - 1)) 1 && fs.all (fun q => !Nat.beq (pm p 256 g ((p - 1) / q)) 1)
theorem lucas_of {p g : Nat} {fs : List Nat} (h : lucasB p g fs = true) (hf : AllP fs) : Prm p ∧ ∀ a, a % p ≠ 0 → a ^ (p - 1) % p = 1 := by
 unfold lucasB at h
 rw [Bool.and_eq_true, Bool.and_eq_true, Bool.and_eq_true, Bool.and_eq_true] at h
 obtain ⟨⟨⟨⟨a1, a2⟩, a3⟩, a4⟩, a5⟩ := h
 have a1 := Nat.le_of_ble_eq_true a1
 have a2 := Nat.eq_of_beq_eq_true a2
 have a3 := Nat.le_of_ble_eq_true a3
 have a4 := Nat.eq_of_beq_eq_true a4
 have hlt : p - 1 < 2 ^ 256 := by
  have : (2 : Nat) ^ 256 - 1 + 1 = 2 ^ 256 := rfl
  omega
 rw [pm_eq p 256 g (p - 1) hlt] at a4
 refine lucas a1 a2 hf a4 ?_
 intro q hq
 have := List.all_eq_true.1 a5 q hq
 rw [pm_eq p 256 g ((p - 1) / q) (Nat.lt_of_le_of_lt (Nat.div_le_self _ _) hlt)] at this
 intro he
 rw [he] at this
 exact absurd this (by decide)
def smallB (p : Nat) : Bool := Nat.ble 2 p && (List.range p).all (fun d => Nat.ble d 1 || !Nat.beq (p % d) 0)
theorem small_of {p : Nat} (h : smallB p = true) : Prm p := by
 unfold smallB at h
 rw [Bool.and_eq_true] at h
 have a1 := Nat.le_of_ble_eq_true h.1
 refine ⟨a1, ?_⟩
 intro d hd
 have hle := Nat.le_of_dvd (by omega) hd
 rcases Nat.lt_or_ge d p with hlt | hge
 ·have := List.all_eq_true.1 h.2 d (List.mem_range.2 hlt)
  rw [Bool.or_eq_true] at this
  rcases this with h1 | h1
  ·have := Nat.le_of_ble_eq_true h1
   have h0 : d ≠ 0 := by
    intro h; subst h
    have := Nat.zero_dvd.1 hd
    omega
   exact .inl (by omega)
  ·have h2 : p % d = 0 := Nat.mod_eq_zero_of_dvd hd
   rw [h2] at h1
   exact absurd h1 (by decide)
 ·exact .inr (by omega)
end Go.Vg
namespace Go.Vg
def Fer (p : Nat) : Prop := ∀ a, a % p ≠ 0 → a ^ (p - 1) % p = 1
theorem fer_dom {p : Nat} (hp : 2 < p) (hF : Fer p) {a b : Nat} (h : a * b % p = 0) : a % p = 0 ∨ b % p = 0 := by
 by_cases ha : a % p = 0
 ·exact Or.inl ha
 ·refine Or.inr ?_
  have h1 := hF a ha
  have e : p - 1 = (p - 2) + 1 := by omega
  have h2 : a ^ (p - 1) * b % p = 0 := by
   rw [e, Nat.pow_succ, Nat.mul_assoc, Nat.mul_mod, h, Nat.mul_zero, Nat.zero_mod]
  rw [Nat.mul_mod, h1, Nat.one_mul, Nat.mod_mod] at h2
  exact h2
theorem fer_nsq {p d h : Nat} (hp : 2 < p) (hF : Fer p) (h2 : h + h = p - 1) (hd : d ^ h % p = p - 1) {A B : Nat} (hAB : A * A % p = d * (B * B) % p) : B % p = 0 := by
 refine Classical.byContradiction fun hB => ?_
 have e1 : (A * A) ^ h % p = (d * (B * B)) ^ h % p := by rw [Nat.pow_mod, hAB, ← Nat.pow_mod]
 rw [Nat.mul_pow, ← Nat.pow_add, h2, Nat.mul_pow, Nat.mul_pow, ← Nat.pow_add, h2, Nat.mul_mod, hd, hF B hB, Nat.mul_one, Nat.mod_eq_of_lt (show p - 1 < p by omega)] at e1
 by_cases hA : A % p = 0
 ·have h0 : A ^ (p - 1) % p = 0 := by
   have e : p - 1 = (p - 2) + 1 := by omega
   rw [e, Nat.pow_succ, Nat.mul_mod, hA, Nat.mul_zero, Nat.zero_mod]
  omega
 ·have := hF A hA
  omega
section
variable (p : Nat) [NeZero p]
theorem fz_mul (a b : Nat) : Fin.ofNat p (a * b) = Fin.ofNat p a * Fin.ofNat p b := Fin.ext (Nat.mul_mod a b p)
theorem fz_add (a b : Nat) : Fin.ofNat p (a + b) = Fin.ofNat p a + Fin.ofNat p b := Fin.ext (Nat.add_mod a b p)
theorem fz_mod (a : Nat) : Fin.ofNat p (a % p) = Fin.ofNat p a := Fin.ext (Nat.mod_mod a p)
theorem fz_val (u : Fin p) : Fin.ofNat p u.val = u := Fin.ext (Nat.mod_eq_of_lt u.isLt)
theorem fz_zero {a : Nat} (h : Fin.ofNat p a = 0) : a % p = 0 := by
 have := congrArg Fin.val h
 have : a % p = 0 % p := this
 rwa [Nat.zero_mod] at this
theorem fz_zero' {a : Nat} (h : a % p = 0) : Fin.ofNat p a = 0 := by
 refine Fin.ext ?_
 show a % p = 0 % p
 rw [h, Nat.zero_mod]
theorem fz_sub (a b : Nat) : Fin.ofNat p ((a % p + p - b % p) % p) = Fin.ofNat p a - Fin.ofNat p b := by
 have h := Nat.mod_lt b (Nat.pos_of_ne_zero (NeZero.ne p))
 have e : Fin.ofNat p ((a % p + p - b % p) % p) + Fin.ofNat p b = Fin.ofNat p a := by
  rw [← fz_add]
  refine Fin.ext ?_
  show ((a % p + p - b % p) % p + b) % p = a % p
  rw [Nat.mod_add_mod, Nat.add_mod _ b]
  have e1 : (a % p + p - b % p) % p + b % p = (a % p + p - b % p) % p + b % p % p := by rw [Nat.mod_mod]
  rw [e1, ← Nat.add_mod, show a % p + p - b % p + b % p = a % p + p by omega, Nat.add_mod_right, Nat.mod_mod]
 rw [← e]
 grind
def edOf (d i h : Nat) (w : Nat → Nat) (hp : 2 < p) (hF : Fer p) (h2 : h + h = p - 1) (hd : d ^ h % p = p - 1) (hi : (i * i + 1) % p = 0) (hw : ∀ a, w a = a ^ (p - 2) % p) : EdF (Fin p) where
 d := Fin.ofNat p d
 i := Fin.ofNat p i
 iv u := Fin.ofNat p (w u.val)
 one0 := fun h => by
  have := fz_zero p (a := 1) h
  rw [Nat.mod_eq_of_lt (by omega)] at this
  omega
 two0 := fun h => by
  have h : Fin.ofNat p 1 + Fin.ofNat p 1 = 0 := h
  rw [← fz_add] at h
  have := fz_zero p h
  rw [Nat.mod_eq_of_lt (by omega)] at this
  omega
 ii := by
  have h := fz_zero' p hi
  rw [fz_add, fz_mul] at h
  have h : Fin.ofNat p i * Fin.ofNat p i + 1 = 0 := h
  grind
 dom a b h := by
  rw [← fz_val p a, ← fz_val p b, ← fz_mul] at h
  rcases fer_dom hp hF (fz_zero p h) with h | h
  ·left; rw [← fz_val p a]; exact fz_zero' p h
  ·right; rw [← fz_val p b]; exact fz_zero' p h
 nsq a b h := by
  rw [← fz_val p a, ← fz_val p b, ← fz_mul, ← fz_mul, ← fz_mul] at h
  have h : a.val * a.val % p = d * (b.val * b.val) % p := congrArg Fin.val h
  rw [← fz_val p b]
  exact fz_zero' p (fer_nsq hp hF h2 hd h)
 inv a h := by
  have ha : a.val % p ≠ 0 := fun e => h (by rw [← fz_val p a]; exact fz_zero' p e)
  have e : Fin.ofNat p a.val * Fin.ofNat p (w a.val) = Fin.ofNat p 1 := by
   rw [hw, fz_mod, ← fz_mul, Nat.mul_comm, ← Nat.pow_succ, show (p - 2).succ = p - 1 by omega, ← fz_mod, hF _ ha]
  rw [fz_val] at e
  exact e
end
end Go.Vg
