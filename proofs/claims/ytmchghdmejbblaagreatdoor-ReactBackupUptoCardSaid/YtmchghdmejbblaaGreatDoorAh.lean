/- Regions that draw their order: values told apart, what an operation looks at, new variables made late. -/
import Derived.Test.YtmchghdmejbblaaGreatDoorAg
import Derived.OrdersIn
set_option linter.unusedSimpArgs false
set_option linter.unusedVariables false
namespace Go.Ab

/-! ### The same value -/
theorem bytes_eq {a b : ByteArray} (h : (a.data.toList == b.data.toList) = true) : a = b := by
  have := eq_of_beq h
  cases a with | mk a => cases b with | mk b => simp only at this; rw [Array.toList_inj.1 this]
mutual
theorem same_eq : ∀ (a b : AV), AV.same a b = true → a = b
  | .bool _, b, h => by cases b <;> simp only [AV.same] at h <;> first | (cases h; done) | skip; simp at h; rw [h]
  | .int _ _, b, h => by cases b <;> simp only [AV.same] at h <;> first | (cases h; done) | skip; simp at h; rw [h.1, h.2]
  | .str _, b, h => by cases b <;> simp only [AV.same] at h <;> first | (cases h; done) | skip; rw [bytes_eq h]
  | .nilp, b, h => by cases b <;> simp only [AV.same] at h <;> first | (cases h; done) | rfl
  | .ptr _ _ _, b, h => by cases b <;> simp only [AV.same] at h <;> first | (cases h; done) | skip; simp at h; rw [h.1.1, h.1.2, h.2]
  | .nils, b, h => by cases b <;> simp only [AV.same] at h <;> first | (cases h; done) | rfl
  | .sl _ _ _ _ _ _ _, b, h => by
    cases b <;> simp only [AV.same] at h <;> first | (cases h; done) | skip
    simp at h
    obtain ⟨⟨⟨⟨⟨⟨h1, h2⟩, h3⟩, h4⟩, h5⟩, h6⟩, h7⟩ := h
    rw [h1, h2, h3, h4, h5, h6, h7]
  | .nilm, b, h => by cases b <;> simp only [AV.same] at h <;> first | (cases h; done) | rfl
  | .mp _, b, h => by cases b <;> simp only [AV.same] at h <;> first | (cases h; done) | skip; simp at h; rw [h]
  | .nilf, b, h => by cases b <;> simp only [AV.same] at h <;> first | (cases h; done) | rfl
  | .fn _ l m, b, h => by
    cases b <;> simp only [AV.same] at h <;> first | (cases h; done) | skip
    simp only [Bool.and_eq_true, beq_iff_eq] at h
    rw [h.1.1, sameL_eq l _ h.1.2, sameL_eq m _ h.2]
  | .yld _, b, h => by cases b <;> simp only [AV.same] at h <;> first | (cases h; done) | skip; simp at h; rw [h]
  | .rsl _ _ _, b, h => by cases b <;> simp only [AV.same] at h <;> first | (cases h; done) | skip; simp at h; rw [h.1.1, h.1.2, h.2]
  | .rptr _ _, b, h => by cases b <;> simp only [AV.same] at h <;> first | (cases h; done) | skip; simp at h; rw [h.1, h.2]
  | .esl, b, h => by cases b <;> simp only [AV.same] at h <;> first | (cases h; done) | rfl
  | .agg l, b, h => by
    cases b <;> simp only [AV.same] at h <;> first | (cases h; done) | skip
    rw [sameL_eq l _ h]
  | .tup l, b, h => by
    cases b <;> simp only [AV.same] at h <;> first | (cases h; done) | skip
    rw [sameL_eq l _ h]
theorem sameL_eq : ∀ (l m : List AV), AV.sameL l m = true → l = m
  | [], m, h => by cases m <;> simp only [AV.sameL] at h <;> first | (cases h; done) | rfl
  | a :: l, m, h => by
    cases m with
    | nil => simp [AV.sameL] at h
    | cons b m =>
      simp only [AV.sameL, Bool.and_eq_true] at h
      rw [same_eq a b h.1, sameL_eq l m h.2]
end

/-! ### What an operation looks at -/
theorem one1_congr {fr fr' : Fr} {x : Operand} {k k' : AV → Option (AN × St)} (h : evO fr x = evO fr' x) (hk : ∀ v, k v = k' v) : one1 fr x k = one1 fr' x k' := by
  unfold one1
  rw [h]
  cases evO fr' x with
  | none => rfl
  | some v => exact hk v
theorem evOs_congr {fr fr' : Fr} : ∀ {l : List Operand}, (∀ x ∈ l, evO fr x = evO fr' x) → evOs fr l = evOs fr' l
  | [], _ => rfl
  | x :: l, h => by
    simp only [evOs]
    rw [h x (by simp), evOs_congr (fun y hy => h y (by simp [hy]))]
theorem evParts_congr {fr fr' : Fr} : ∀ {l : List (Nat × Operand)}, (∀ x ∈ l.map (·.2), evO fr x = evO fr' x) → evParts fr l = evParts fr' l
  | [], _ => rfl
  | x :: l, h => by
    simp only [evParts]
    rw [h x.2 (by simp), evParts_congr (fun y hy => h y (by simp only [List.map_cons, List.mem_cons]; exact .inr hy))]
theorem evM_congr {fr fr' : Fr} {x : Option Operand} (h : ∀ y, x = some y → evO fr y = evO fr' y) : evM fr x = evM fr' x := by
  cases x with
  | none => rfl
  | some y => simp only [evM, h y rfl]

theorem aop_congr {T : Tb} {fr fr' : Fr} {o : Oper} {σ : St} (h : ∀ x ∈ o.op.operands, evO fr x = evO fr' x) : aop T fr o σ = aop T fr' o σ := by
  unfold aop
  cases hop : o.op <;> rw [hop] at h
  case move x => show val1 σ (evO fr x) = val1 σ (evO fr' x); rw [h x (by simp [Op.operands])]
  case assign x => show val1 σ (evO fr x) = val1 σ (evO fr' x); rw [h x (by simp [Op.operands])]
  case pick c x y => exact one1_congr (h c (by simp [Op.operands])) fun c => one1_congr (h x (by simp [Op.operands])) fun _ => one1_congr (h y (by simp [Op.operands])) fun _ => rfl
  case box e x => exact one1_congr (h x (by simp [Op.operands])) fun _ => rfl
  case build t parts => show opBuild T t σ (evParts fr parts.toList) = opBuild T t σ (evParts fr' parts.toList); rw [evParts_congr (fun x hx => h x (by simpa [Op.operands] using hx))]
  case buildSlice t len parts => show opBuildSlice T t len σ (evParts fr parts.toList) = opBuildSlice T t len σ (evParts fr' parts.toList); rw [evParts_congr (fun x hx => h x (by simpa [Op.operands] using hx))]
  case insert t m k x => exact one1_congr (h m (by simp [Op.operands])) fun _ => one1_congr (h k (by simp [Op.operands])) fun _ => one1_congr (h x (by simp [Op.operands])) fun _ => rfl
  case load t x => exact one1_congr (h x (by simp [Op.operands])) fun _ => rfl
  case store t x y => exact one1_congr (h x (by simp [Op.operands])) fun _ => one1_congr (h y (by simp [Op.operands])) fun _ => rfl
  case nilCheck x => exact one1_congr (h x (by simp [Op.operands])) fun _ => rfl
  case binOp op t x y yt => exact one1_congr (h x (by simp [Op.operands])) fun _ => one1_congr (h y (by simp [Op.operands])) fun _ => rfl
  case unOp op t x => cases op <;> first | rfl | exact one1_congr (h x (by simp [Op.operands])) fun _ => rfl
  case convert s d x => exact one1_congr (h x (by simp [Op.operands])) fun _ => rfl
  case makeFunc fn first cap =>
    cases fn <;> first
      | rfl
      | (rename_i f
         show opFunc f σ (evOs fr first.toList) (evOs fr cap.toList) = opFunc f σ (evOs fr' first.toList) (evOs fr' cap.toList)
         rw [evOs_congr (l := first.toList) (fun x hx => h x (by simp only [Op.operands, Array.mem_append]; exact .inl (by simpa using hx))),
           evOs_congr (l := cap.toList) (fun x hx => h x (by simp only [Op.operands, Array.mem_append]; exact .inr (by simpa using hx)))])
  case makeSlice t l c => exact one1_congr (h l (by simp [Op.operands])) fun _ => one1_congr (h c (by simp [Op.operands])) fun _ => rfl
  case slice t x lo hi mx =>
    refine one1_congr (h x (by simp [Op.operands])) fun _ => ?_
    rw [evM_congr (x := lo) (fun y hy => h y (by subst hy; simp [Op.operands])), evM_congr (x := hi) (fun y hy => h y (by subst hy; simp [Op.operands])), evM_congr (x := mx) (fun y hy => h y (by subst hy; simp [Op.operands]))]
  case fieldAddr s x f => exact one1_congr (h x (by simp [Op.operands])) fun _ => rfl
  case field t x f => exact one1_congr (h x (by simp [Op.operands])) fun _ => rfl
  case indexAddr t x i => exact one1_congr (h x (by simp [Op.operands])) fun _ => one1_congr (h i (by simp [Op.operands])) fun _ => rfl
  case index t x i => exact one1_congr (h x (by simp [Op.operands])) fun _ => one1_congr (h i (by simp [Op.operands])) fun _ => rfl
  case lookup t x k b => exact one1_congr (h x (by simp [Op.operands])) fun _ => one1_congr (h k (by simp [Op.operands])) fun _ => rfl
  case mapUpdate t m k x => exact one1_congr (h m (by simp [Op.operands])) fun _ => one1_congr (h k (by simp [Op.operands])) fun _ => one1_congr (h x (by simp [Op.operands])) fun _ => rfl
  case mapEntry t m k => exact one1_congr (h m (by simp [Op.operands])) fun _ => one1_congr (h k (by simp [Op.operands])) fun _ => rfl
  case entryStore t m s x => exact one1_congr (h m (by simp [Op.operands])) fun _ => one1_congr (h s (by simp [Op.operands])) fun _ => one1_congr (h x (by simp [Op.operands])) fun _ => rfl
  case range t x => exact one1_congr (h x (by simp [Op.operands])) fun _ => rfl
  case next it s => cases s <;> first | rfl | exact one1_congr (h it (by simp [Op.operands])) fun _ => rfl
  case extract t i => exact one1_congr (h t (by simp [Op.operands])) fun _ => rfl
  case call c =>
    show opCall T fr c σ = opCall T fr' c σ
    have ha : evOs fr c.args.toList = evOs fr' c.args.toList := evOs_congr fun x hx => h x (by
      simp only [Op.operands, Call.operands]
      cases c.callee <;> simp at hx ⊢ <;> simp [hx])
    unfold opCall
    rw [ha]
    cases evOs fr' c.args.toList with
    | none => rfl
    | some args =>
      show opCallee T fr c σ args c.callee = opCallee T fr' c σ args c.callee
      cases hc : c.callee with
      | value f =>
        unfold opCallee
        have : evO fr f = evO fr' f := h f (by simp [Op.operands, Call.operands, hc])
        simp only [this]
      | builtin b => cases b <;> rfl
      | invoke _ _ => rfl
  all_goals rfl

theorem evO_at {fr fr' : Fr} {x : Operand} (h : ∀ t, x = .tmp t → getT fr.tmps t = getT fr'.tmps t) : evO fr x = evO fr' x := by
  cases x with
  | tmp t => show some (getT fr.tmps t) = some (getT fr'.tmps t); rw [h t rfl]
  | _ => rfl

theorem exec1_congr {T : Tb} {e : Ev} {ops : Array Oper} {o : Oper} {fr fr' : Fr} {σ : St} (h : ∀ t ∈ o.looksAt ops, getT fr.tmps t = getT fr'.tmps t) : exec1 T e ops o fr σ = exec1 T e ops o fr' σ := by
  have h1 : Region.wanted o (yieldedA ops fr.tmps) = Region.wanted o (yieldedA ops fr'.tmps) := by
    unfold Region.wanted
    cases hg : o.guard with
    | none => rfl
    | some g =>
      obtain ⟨j, b⟩ := g
      have : yieldedA ops fr.tmps j = yieldedA ops fr'.tmps j := by
        unfold yieldedA
        cases hd : (ops[j]?).bind (·.dst) with
        | none => rfl
        | some d =>
          have := h d (by unfold Oper.looksAt; rw [hg]; simp [hd])
          simp only [this]
      simp only [this]
  have h2 : aop T fr o σ = aop T fr' o σ := aop_congr fun x hx => evO_at fun t ht => h t (by
    subst ht
    exact List.mem_append_left _ (List.mem_filterMap.2 ⟨.tmp t, by simpa using hx, rfl⟩))
  unfold exec1
  rw [h1, h2]

/-! ### Operations that write nothing -/
theorem val1_store {σ σ' : St} {x : Option AV} {n : AN} (h : val1 σ x = some (n, σ')) : σ' = σ ∧ ∃ v, n = .val v := by
  unfold val1 at h
  split at h
  · cases h; exact ⟨rfl, _, rfl⟩
  · cases h
theorem one1_some {fr : Fr} {x : Operand} {k : AV → Option (AN × St)} {r : AN × St} (h : one1 fr x k = some r) : ∃ v, k v = some r := by
  unfold one1 at h
  split at h
  · exact ⟨_, h⟩
  · cases h
theorem aop_silent {T : Tb} {fr : Fr} {o : Oper} {σ σ' : St} {n : AN} (hk : kindOf o = 0) (h : aop T fr o σ = some (n, σ')) : σ' = σ ∧ ∃ v, n = .val v := by
  unfold aop at h
  unfold kindOf at hk
  cases hop : o.op <;> rw [hop] at h hk <;> simp only at hk <;> try (exact absurd hk (by decide))
  case move x => exact val1_store h
  case assign x => exact val1_store h
  case pick c x y =>
    obtain ⟨cv, h⟩ := one1_some h
    obtain ⟨xv, h⟩ := one1_some h
    obtain ⟨yv, h⟩ := one1_some h
    unfold opPick at h
    split at h
    · cases h; exact ⟨rfl, _, rfl⟩
    · cases h; exact ⟨rfl, _, rfl⟩
    · simp [bad] at h
  case build t parts =>
    have h : opBuild T t σ (evParts fr parts.toList) = some (n, σ') := h
    unfold opBuild at h
    split at h
    · exact val1_store h
    · cases h
  case load t x => obtain ⟨v, h⟩ := one1_some h; exact val1_store h
  case nilCheck x =>
    obtain ⟨v, h⟩ := one1_some h
    unfold opNil at h
    split at h <;> first | (cases h; exact ⟨rfl, _, rfl⟩) | (simp [bad] at h)
  case binOp op t x y yt => obtain ⟨v, h⟩ := one1_some h; obtain ⟨v, h⟩ := one1_some h; exact val1_store h
  case unOp op t x =>
    cases op
    case not =>
      obtain ⟨v, h⟩ := one1_some h
      unfold opNot at h
      split at h <;> first | (cases h; exact ⟨rfl, _, rfl⟩) | (simp [bad] at h)
    all_goals
      have h : (bad "unary" : Option (AN × St)) = some (n, σ') := h
      simp [bad] at h
  case convert s d x => obtain ⟨v, h⟩ := one1_some h; exact val1_store h
  case makeFunc fn first cap =>
    cases fn
    case func f =>
      have h : opFunc f σ (evOs fr first.toList) (evOs fr cap.toList) = some (n, σ') := h
      unfold opFunc at h
      split at h
      · cases h; exact ⟨rfl, _, rfl⟩
      · cases h
    all_goals
      have h : (bad "function value" : Option (AN × St)) = some (n, σ') := h
      simp [bad] at h
  case slice t x lo hi mx =>
    obtain ⟨v, h⟩ := one1_some h
    unfold opSlice at h
    split at h
    · exact val1_store h
    · cases h
  case fieldAddr s x f => obtain ⟨v, h⟩ := one1_some h; exact val1_store h
  case field t x f => obtain ⟨v, h⟩ := one1_some h; exact val1_store h
  case indexAddr t x i => obtain ⟨v, h⟩ := one1_some h; obtain ⟨v, h⟩ := one1_some h; exact val1_store h
  case index t x i => obtain ⟨v, h⟩ := one1_some h; obtain ⟨v, h⟩ := one1_some h; exact val1_store h
  case lookup t x k b => obtain ⟨v, h⟩ := one1_some h; obtain ⟨v, h⟩ := one1_some h; exact val1_store h
  case extract t i =>
    obtain ⟨v, h⟩ := one1_some h
    unfold opExtract at h
    split at h
    · exact val1_store h
    · simp [bad] at h
  case call c =>
    have h : opCall T fr c σ = some (n, σ') := h
    unfold opCall at h
    split at h
    · cases hc : c.callee with
      | value f => rw [hc] at hk; simp at hk
      | invoke _ _ => rw [hc] at hk; simp at hk
      | builtin b =>
        rw [hc] at h hk
        cases b <;> first | exact absurd hk (by decide) | exact val1_store h
    · cases h

theorem exec1_silent {T : Tb} {e : Ev} {ops : Array Oper} {fr : Fr} {o : Oper} {σ σ' : St} {v : AV} (hk : kindOf o = 0) (h : exec1 T e ops o fr σ = some (v, σ')) : σ' = σ := by
  unfold exec1 at h
  split at h
  · unfold follow at h
    split at h
    · rename_i v1 σ1 ha
      cases h
      exact (aop_silent hk ha).1
    · rename_i ha
      obtain ⟨_, _, h2⟩ := aop_silent hk ha
      cases h2
    · rename_i ha
      obtain ⟨_, _, h2⟩ := aop_silent hk ha
      cases h2
    · cases h
  · cases h; rfl
end Go.Ab
