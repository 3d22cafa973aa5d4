/- Vg, part I: what an operation reads and writes; two operations that do not touch each other may change places. -/
import Derived.Test.YtcdjhhepgkcabaaDoorVgH
namespace Go.Vg
open Go Go.RowKit

theorem evA_set {T : List AV} {d : Nat} {v : AV} {x : Operand} (h : x ≠ .tmp d) : evA (T.set d v) x = evA T x := by
  cases x with
  | tmp t =>
    have : t ≠ d := fun e => h (by rw [e])
    simp only [evA, List.getD_eq_getElem?_getD]
    rw [List.getElem?_set_ne (Ne.symm this)]
  | _ => rfl

theorem evA_put {s : St} {dst : Option Nat} {v : AV} {x : Operand} (h : ∀ d, dst = some d → x ≠ .tmp d) : evA (s.put dst v).T x = evA s.T x := by
  cases dst with
  | none => rfl
  | some d => exact evA_set (h d rfl)

theorem put_put {T : List AV} {M M' : Mem} {d1 d2 : Option Nat} {v1 v2 : AV} (h : ∀ d, d1 = some d → d2 ≠ some d) : ((St.put ⟨T, M⟩ d1 v1).put d2 v2).T = ((St.put ⟨T, M'⟩ d2 v2).put d1 v1).T := by
  cases d1 with
  | none => cases d2 <;> rfl
  | some d1 => cases d2 with
    | none => rfl
    | some d2 =>
      have hne : d1 ≠ d2 := fun e => h d1 rfl (by rw [e])
      simp only [St.put]
      exact (List.set_comm _ _ hne)

/-- The step asks of the slots only what the operation names. -/
theorem act_congr {C : Ctx} {o : Oper} {ρ ρ' : Operand → AV} {M : Mem} (h : ∀ x ∈ o.op.operands.toList, ρ x = ρ' x) : act C o ρ M = act C o ρ' M := by
  unfold act
  cases hop : o.op <;> rw [hop] at h <;> simp only [Op.operands] at h ⊢
  case move x => rw [h x (by simp)]
  case assign x => rw [h x (by simp)]
  case pick c x y => rw [h c (by simp), h x (by simp), h y (by simp)]
  case box t x => rw [h x (by simp)]
  case load t x => rw [h x (by simp)]
  case store t x y => rw [h x (by simp), h y (by simp)]
  case binOp op t x y t2 => rw [h x (by simp), h y (by simp)]
  case unOp op t x => rw [h x (by simp)]
  case convert t u x => rw [h x (by simp)]
  case makeSlice t x y => rw [h x (by simp), h y (by simp)]
  case fieldAddr t x f => rw [h x (by simp)]
  case field t x f => rw [h x (by simp)]
  case indexAddr t x y => rw [h x (by simp), h y (by simp)]
  case index t x y => rw [h x (by simp), h y (by simp)]
  case extract x i => rw [h x (by simp)]
  case makeFunc fn first captured =>
    congr 1
    exact List.map_congr_left fun x hx => h x (by simp; exact .inr (by simpa using hx))
  case build t ps =>
    congr 1
    refine List.map_congr_left fun p hp => ?_
    rw [h p.2 (by simp; exact ⟨p.1, by simpa using hp⟩)]
  case buildSlice t len ps =>
    congr 1
    refine List.map_congr_left fun p hp => ?_
    rw [h p.2 (by simp; exact ⟨p.1, by simpa using hp⟩)]
  case slice t x lo hi mx =>
    have hm : ∀ z : Option Operand, (∀ q, z = some q → ρ q = ρ' q) → z.map ρ = z.map ρ' := by
      intro z hz
      cases z with
      | none => rfl
      | some q => simp [hz q rfl]
    rw [h x (by simp), hm lo (fun q hq => h q (by simp [hq])), hm hi (fun q hq => h q (by simp [hq])), hm mx (fun q hq => h q (by simp [hq]))]
  case call c =>
    have ha : ∀ x ∈ c.args.toList, ρ x = ρ' x := fun x hx => h x (by simp [Call.operands]; exact .inr (by simpa using hx))
    have hl : c.args.toList.map ρ = c.args.toList.map ρ' := List.map_congr_left ha
    cases hcal : c.callee with
    | builtin b =>
      generalize c.args.toList = l at ha hl
      generalize c.argTypes.toList = m
      cases b <;> first | rfl | (simp only [hl]; done) | skip
      · match l, m, ha with
        | [], _, _ => rfl
        | [x], _, _ => rfl
        | [x, y], [], _ => rfl
        | [x, y], [t], _ => rfl
        | [x, y], [t, t2], ha => simp only [ha x (by simp), ha y (by simp)]
        | [x, y], _ :: _ :: _ :: _, _ => rfl
        | _ :: _ :: _ :: _, _, _ => rfl
      · match l, m, ha with
        | [], _, _ => rfl
        | [x], _, _ => rfl
        | [x, y], [], _ => rfl
        | [x, y], t :: _, ha => simp only [ha x (by simp), ha y (by simp)]
        | _ :: _ :: _ :: _, _, _ => rfl
      · match l, m, ha with
        | [], _, _ => rfl
        | [x], [], _ => rfl
        | [x], [t], ha => simp only [ha x (by simp)]
        | [x], _ :: _ :: _, _ => rfl
        | _ :: _ :: _, _, _ => rfl
    | value f => simp only [hl, h f (by simp [Call.operands, hcal])]
    | invoke x n => rfl

/-- 0: the slots alone; 1: memory read, too; 2: memory written; 3: all slots looked at. -/
def cls (C : Ctx) (o : Oper) : Nat :=
  match kindOf C o with
  | .plain => match o.op with
    | .move _ | .pick _ _ _ | .binOp _ _ _ _ _ | .unOp _ _ _ | .extract _ _ | .field _ _ _ | .index _ _ _ | .build _ _ => 0
    | .assign _ => match o.dst with
      | some d => bif C.rows.contains d then 2 else 0
      | none => 0
    | .buildSlice _ _ _ => match o.dst with
      | some d => bif C.rows.contains d then 2 else 0
      | none => 2
    | .load _ _ | .convert _ _ _ | .slice _ _ _ _ _ | .fieldAddr _ _ _ | .indexAddr _ _ _ => 1
    | .call c => match c.callee with
      | .builtin .copy => 2
      | _ => 1
    | _ => 2
  | _ => 3

theorem aBin_M {tab : Tab} {op : BinOp} {t : TypeId} {x y : AV} (M M' : Mem) : (aBin tab op t x y M).c = (aBin tab op t x y M').c ∧ (aBin tab op t x y M).v = (aBin tab op t x y M').v ∧ (aBin tab op t x y M).M = M := by
  unfold aBin
  cases nilQ tab op t x y
  case true => exact ⟨rfl, rfl, rfl⟩
  simp only [cond_false]
  split
  · unfold binD
    split
    · split
      · exact ⟨rfl, rfl, rfl⟩
      · exact ⟨rfl, rfl, rfl⟩
      · rename_i k m k' n _ _ _
        by_cases h : k = k'
        · simp only [decide_eq_true h, cond_true]
          unfold binI
          split <;> exact ⟨rfl, rfl, rfl⟩
        · simp only [decide_eq_false h, cond_false]; exact ⟨rfl, rfl, rfl⟩
    · split <;> exact ⟨rfl, rfl, rfl⟩
    · split <;> exact ⟨rfl, rfl, rfl⟩
    · split
      · split <;> exact ⟨rfl, rfl, rfl⟩
      · split <;> exact ⟨rfl, rfl, rfl⟩
      · exact ⟨rfl, rfl, rfl⟩
    · exact ⟨rfl, rfl, rfl⟩
  · exact ⟨rfl, rfl, rfl⟩

/-- An operation of class 0 asks nothing of memory. -/
theorem act_pure {C : Ctx} {o : Oper} (h : cls C o = 0) (ρ : Operand → AV) (M M' : Mem) :
    (act C o ρ M).c = (act C o ρ M').c ∧ (act C o ρ M).v = (act C o ρ M').v ∧ (act C o ρ M).M = M := by
  unfold cls at h
  split at h
  · unfold act
    split at h <;> rename_i ho
    · simp only [ho, and_self]
    · simp only [ho, aPick]; split <;> exact ⟨rfl, rfl, rfl⟩
    · simp only [ho]; exact aBin_M M M'
    · simp only [ho, aUn]; split <;> exact ⟨rfl, rfl, rfl⟩
    · simp only [ho, aExtract]; split <;> exact ⟨rfl, rfl, rfl⟩
    · simp only [ho, aField]
      split
      · split <;> exact ⟨rfl, rfl, rfl⟩
      · exact ⟨rfl, rfl, rfl⟩
    · simp only [ho, aIndex]
      split
      · split <;> exact ⟨rfl, rfl, rfl⟩
      · split <;> exact ⟨rfl, rfl, rfl⟩
      · exact ⟨rfl, rfl, rfl⟩
    · simp only [ho, aBuild]; split <;> exact ⟨rfl, rfl, rfl⟩
    · simp only [ho, aAssign]
      split at h
      · rename_i d hd
        simp only [hd]
        cases hr : C.rows.contains d <;> rw [hr] at h
        · exact ⟨rfl, rfl, rfl⟩
        · cases h
      · rename_i hd
        simp only [hd, and_self]
    · simp only [ho, aBuildSlice]
      split at h
      · rename_i d hd
        simp only [hd]
        cases hr : C.rows.contains d <;> rw [hr] at h
        · simp only [cond_false]
          split
          · split
            · split <;> exact ⟨rfl, rfl, rfl⟩
            · split <;> exact ⟨rfl, rfl, rfl⟩
          · exact ⟨rfl, rfl, rfl⟩
        · cases h
      · cases h
    all_goals first | cases h | skip
    all_goals (split at h <;> cases h)
  · cases h

theorem fail_M (M : Mem) : (fail M).M = M := rfl
theorem ok_M (v : D) (M : Mem) : (ok v M).M = M := rfl
theorem okIf_M (c : Prop) (v : D) (M : Mem) : (okIf c v M).M = M := rfl

theorem aLoad_M {tab : Tab} {t : TypeId} {x : AV} {M : Mem} : (aLoad tab t x M).M = M := by unfold aLoad; split <;> first | rfl | (split <;> rfl)
theorem aConv_M {tab : Tab} {t u : TypeId} {x : AV} {M : Mem} : (aConv tab t u x M).M = M := by
  unfold aConv
  split
  · split <;> rfl
  · split
    · split
      · split <;> rfl
      · rfl
    · split <;> rfl
    · rfl
  · split
    · split <;> rfl
    · rfl
  · rfl
theorem aSlice_M {tab : Tab} {t : TypeId} {x : AV} {lo hi mx : Option AV} {M : Mem} : (aSlice tab t x lo hi mx M).M = M := by
  unfold aSlice
  split
  · rfl
  · split
    · split <;> rfl
    · split <;> rfl
    · split <;> rfl
    · split <;> rfl
    · split
      · split
        · split <;> rfl
        · rfl
      · rfl
    · rfl
theorem aFieldAddr_M {tab : Tab} {t : TypeId} {x : AV} {f : Nat} {M : Mem} : (aFieldAddr tab t x f M).M = M := by
  unfold aFieldAddr
  split
  · split <;> rfl
  · split <;> rfl
  · rfl
theorem aIndexAddr_M {tab : Tab} {t : TypeId} {x y : AV} {M : Mem} : (aIndexAddr tab t x y M).M = M := by
  unfold aIndexAddr
  split
  · split
    · split
      · split <;> rfl
      · rfl
    · split <;> rfl
    · split <;> rfl
    · split <;> rfl
    · split <;> rfl
    · split <;> rfl
    · rfl
  · rfl
theorem aLen_M {tab : Tab} {t : TypeId} {x : AV} {M : Mem} : (aLen tab t x M).M = M := by
  unfold aLen
  split <;> first | rfl | (split <;> rfl)
theorem aNew_M {tab : Tab} {t t2 : TypeId} {x y : AV} {M : Mem} : (aNew tab t t2 x y M).M = M := by
  unfold aNew
  split
  · split
    · split <;> rfl
    · rfl
  · rfl
theorem aMin_M {lt : Int → Int → Bool} {as : List AV} {M : Mem} : (aMin lt as M).M = M := by unfold aMin; split <;> rfl
theorem aCall_M {C : Ctx} {f : FuncId} {as : List AV} {M : Mem} : (aCall C f as M).M = M := by
  unfold aCall
  split
  · rfl
  · rename_i sp _
    cases (sp.flat || allData as)
    · rfl
    · simp only [cond_true]; split <;> rfl

/-- An operation of class 0 or 1 leaves memory alone. -/
theorem act_read {C : Ctx} {o : Oper} (h : cls C o ≤ 1) (ρ : Operand → AV) (M : Mem) : (act C o ρ M).M = M := by
  rcases Nat.eq_zero_or_pos (cls C o) with h0 | h0
  · exact (act_pure h0 ρ M M).2.2
  · have h1 : cls C o = 1 := by omega
    unfold cls at h1
    split at h1
    · unfold act
      split at h1 <;> rename_i ho <;> first | cases h1 | skip
      · split at h1
        · rename_i d _
          cases hr : C.rows.contains d <;> rw [hr] at h1 <;> cases h1
        · cases h1
      · split at h1
        · rename_i d _
          cases hr : C.rows.contains d <;> rw [hr] at h1 <;> cases h1
        · cases h1
      · simp only [ho]; rw [(cellR_vM _ _ _ _).2]; exact aLoad_M
      · simp only [ho]; exact aConv_M
      · simp only [ho]; exact aSlice_M
      · simp only [ho]; exact aFieldAddr_M
      · simp only [ho]; exact aIndexAddr_M
      · rename_i c
        simp only [ho]
        split at h1
        · cases h1
        · split
          · split
            · exact aLen_M
            · rfl
          · rename_i hn _ _ hcal
            exact absurd hcal (by assumption)
          · split
            · exact aNew_M
            · rfl
          · exact aMin_M
          · exact aMin_M
          · split
            · exact aCall_M
            · rfl
          · rfl
          · rfl
    · cases h1

end Go.Vg
