/- More fuel yields the same. -/
import Derived.Test.YtmchghdmejbblaaGreatDoorAl
set_option linter.unusedSimpArgs false
set_option linter.unusedVariables false
namespace Go.Ab

/-- What e yields e' yields too. -/
structure Le (e e' : Ev) : Prop where
  code : ∀ {c fr σ r}, e.code c fr σ = some r → e'.code c fr σ = some r
  call : ∀ {f args σ r}, e.call f args σ = some r → e'.call f args σ = some r
  round : ∀ {l args σ r}, e.round l args σ = some r → e'.round l args σ = some r

section
variable {T : Tb} {e e' : Ev} (h : Le e e')
include h
theorem follow_le {x : Option (AN × St)} {r : AV × St} (hx : follow e x = some r) : follow e' x = some r := by
  unfold follow at hx ⊢
  split at hx
  · exact hx
  · exact h.call hx
  · exact h.round hx
  · cases hx
theorem exec1_le {ops : Array Oper} {o : Oper} {fr : Fr} {σ : St} {r : AV × St} (hx : exec1 T e ops o fr σ = some r) : exec1 T e' ops o fr σ = some r := by
  unfold exec1 at hx ⊢
  split at hx
  · rename_i hw
    try simp only
    exact follow_le h hx
  · exact hx
theorem evList_le {ops : Array Oper} : ∀ {l : List Oper} {fr : Fr} {σ : St} {r : Fr × St}, evList T e ops l fr σ = some r → evList T e' ops l fr σ = some r
  | [], _, _, _, hx => hx
  | o :: l, fr, σ, r, hx => by
    simp only [evList] at hx ⊢
    split at hx
    · rename_i v σ1 h1
      rw [exec1_le h h1]
      try simp only
      split at hx
      · rename_i fr1 hp
        exact evList_le hx
      · cases hx
    · cases hx
theorem evAllocs_le {ops : Array Oper} : ∀ {l : List (Nat × Oper)} {fr : Fr} {σ : St} {r : Fr × St}, evAllocs T e ops l fr σ = some r → evAllocs T e' ops l fr σ = some r
  | [], _, _, _, hx => hx
  | o :: l, fr, σ, r, hx => by
    simp only [evAllocs] at hx ⊢
    split at hx
    · rename_i v σ1 h1
      rw [exec1_le h h1]
      try simp only
      split at hx
      · exact evAllocs_le hx
      · cases hx
    · cases hx
theorem again_le {ops : Array Oper} {o : Oper} {fr : Fr} {v : AV} {l : List St} (hx : again T e ops o fr v l = true) : again T e' ops o fr v l = true := by
  unfold again at hx ⊢
  rw [List.all_eq_true] at hx ⊢
  intro τ hτ
  have := hx τ hτ
  split at this
  · rename_i u σ hu
    rw [exec1_le h hu]
    exact this
  · cases this
theorem evPlan_le {ops : Array Oper} : ∀ {l : List (Nat × Oper)} {fr : Fr} {hist : List St} {lv : List (Nat × Nat)} {r : Fr × List St}, evPlan T e ops l fr hist lv = some r → evPlan T e' ops l fr hist lv = some r
  | [], _, _, _, _, hx => hx
  | p :: l, fr, hist, lv, r, hx => by
    cases hist with
    | nil => exact hx
    | cons σ past =>
      simp only [evPlan] at hx ⊢
      split at hx
      · cases hx
      · rename_i v σ' h1
        rw [exec1_le h h1]
        try simp only
        split at hx
        · cases hx
        · rename_i fr1 hp
          split at hx
          · split at hx
            · rename_i ha
              rw [again_le h ha]
              exact evPlan_le hx
            · simp [bad] at hx
          · split at hx
            · exact evPlan_le hx
            · simp [bad] at hx
theorem evDraw_le {ops : Array Oper} {fr : Fr} {σ : St} {r : Fr × St} (hx : evDraw T e ops fr σ = some r) : evDraw T e' ops fr σ = some r := by
  obtain ⟨fr', σ'⟩ := r
  obtain ⟨h1, fr1, σ1, past, h2, h3⟩ := evDraw_parts hx
  unfold evDraw
  rw [h1]
  try simp only
  rw [evAllocs_le h h2]
  simp only [evRest]
  rw [evPlan_le h h3]
  rfl

theorem code_le {c : Code} {fr : Fr} {σ : St} {r : Xt × Fr × St} (hx : codeC T e fr σ c = some r) : codeC T e' fr σ c = some r := by
  obtain ⟨x, fr', σ'⟩ := r
  cases c
  case skip => exact hx
  case region id ops d =>
    have hx : regionC T e ops fr σ d = some (x, fr', σ') := hx
    show regionC T e' ops fr σ d = some (x, fr', σ')
    unfold regionC normalC at hx ⊢
    split at hx
    · split at hx
      · rename_i hh
        rw [evDraw_le h hh]; exact hx
      · cases hx
    · split at hx
      · rename_i hh
        rw [evList_le h hh]; exact hx
      · cases hx
  case seq a b =>
    have hx : thenC (fun fr σ => e.code b fr σ) (e.code a fr σ) = some (x, fr', σ') := hx
    show thenC (fun fr σ => e'.code b fr σ) (e'.code a fr σ) = some (x, fr', σ')
    rcases thenC_cases hx with ⟨fr1, σ1, h1, h2⟩ | ⟨h1, hne⟩
    · rw [h.code h1]; exact h.code h2
    · rw [h.code h1]
      cases x with
      | normal => exact absurd rfl hne
      | exit _ => rfl
      | ret => rfl
  case cond c a b =>
    have hx : condC (fun t => e.code (branch a b t) fr σ) (evO fr c) = some (x, fr', σ') := hx
    show condC (fun t => e'.code (branch a b t) fr σ) (evO fr c) = some (x, fr', σ')
    unfold condC at hx ⊢
    split at hx
    · exact h.code hx
    · exact hx
  case block id b =>
    have hx : blockC id (e.code b fr σ) = some (x, fr', σ') := hx
    show blockC id (e'.code b fr σ) = some (x, fr', σ')
    cases hc : e.code b fr σ with
    | none => rw [hc] at hx; cases hx
    | some r => rw [h.code hc, ← hc]; exact hx
  case loop b =>
    have hx : thenC (fun fr σ => e.code (.loop b) fr σ) (e.code b fr σ) = some (x, fr', σ') := hx
    show thenC (fun fr σ => e'.code (.loop b) fr σ) (e'.code b fr σ) = some (x, fr', σ')
    rcases thenC_cases hx with ⟨fr1, σ1, h1, h2⟩ | ⟨h1, hne⟩
    · rw [h.code h1]; exact h.code h2
    · rw [h.code h1]
      cases x with
      | normal => exact absurd rfl hne
      | exit _ => rfl
      | ret => rfl
  case rangeFunc f ps asg body =>
    have hx : rangeC e ps asg body fr σ fr.ro (evO fr f) = some (x, fr', σ') := hx
    show rangeC e' ps asg body fr σ fr.ro (evO fr f) = some (x, fr', σ')
    unfold rangeC at hx ⊢
    split at hx
    · rename_i g first cap hro hf
      try simp only
      split at hx
      · rename_i r1 σ1 hr
        try simp only
        split at hx
        · rename_i l σ2 hl
          try simp only
          cases hc : e.call g (first ++ [.yld l] ++ cap) σ2 with
          | none => rw [hc] at hx; cases hx
          | some r => rw [h.call hc, ← hc]; exact hx
        · cases hx
      · cases hx
    · exact hx
  case exit id => exact hx
  case ret => exact hx
  all_goals exact hx

theorem call_le {ext : FuncId → Option (List AV → Option AV)} {f : FuncId} {args : List AV} {σ : St} {fn : Option Func} {r : AV × St} (hx : callC T ext e f args σ fn = some r) : callC T ext e' f args σ fn = some r := by
  unfold callC at hx ⊢
  split at hx
  · exact hx
  · rename_i fn
    try simp only
    unfold funcC at hx ⊢
    split at hx
    · exact hx
    · rename_i c hb
      try simp only
      unfold bodyC at hx ⊢
      split at hx
      · rename_i h1 h2
        try simp only
        cases hc : e.code c { tmps := argTmps 0 args .leaf, dfs := [], n := args.length + (fn.ntmps - args.length), ro := none } σ with
        | none => rw [hc] at hx; cases hx
        | some r => rw [h.code hc, ← hc]; exact hx
      · exact hx
theorem round_le {l : Nat} {args : List AV} {σ : St} {o : Option AObj} {r : AV × St} (hx : roundC e l args σ o = some r) : roundC e' l args σ o = some r := by
  unfold roundC at hx ⊢
  split at hx
  · rename_i n t ps asg body
    try simp only
    split at hx
    · rename_i t' h1 h2
      try simp only
      cases hc : e.code asg { tmps := t', dfs := [], n, ro := some l } σ with
      | none => rw [hc] at hx; cases hx
      | some q =>
        rw [hc] at hx
        rw [h.code hc]
        obtain ⟨x, fr, σ1⟩ := q
        cases x with
        | normal =>
          simp only at hx ⊢
          split at hx
          · rename_i hd
            try simp only
            unfold beginBody at hx ⊢
            split at hx
            · rename_i p n2 t2 ps2 asg2 body2 hg
              try simp only
              cases hc2 : e.code body fr (σ1.put l (.loop .busy p n2 t2 ps2 asg2 body2)) with
              | none => rw [hc2] at hx; cases hx
              | some q2 => rw [h.code hc2, ← hc2]; exact hx
            · exact hx
          · exact hx
        | _ => exact hx
    · exact hx
  · exact hx
end

theorem step_le {T : Tb} {G : Tr Func} {ext : FuncId → Option (List AV → Option AV)} {e e' : Ev} (h : Le e e') : Le (step T G ext e) (step T G ext e') :=
  ⟨fun hx => code_le h hx, fun hx => call_le h hx, fun hx => round_le h hx⟩
theorem Le.refl (e : Ev) : Le e e := ⟨id, id, id⟩
theorem Le.trans {a b c : Ev} (h : Le a b) (k : Le b c) : Le a c := ⟨fun x => k.code (h.code x), fun x => k.call (h.call x), fun x => k.round (h.round x)⟩
theorem ev_le1 {T : Tb} {G : Tr Func} {ext : FuncId → Option (List AV → Option AV)} : ∀ k, Le (ev T G ext k) (ev T G ext (k + 1))
  | 0 => ⟨fun {c fr σ r} hx => (by have hx : (bad "no fuel" : CR) = some r := hx; simp [bad] at hx), fun {c fr σ r} hx => (by have hx : (bad "no fuel" : Option (AV × St)) = some r := hx; simp [bad] at hx), fun {c fr σ r} hx => (by have hx : (bad "no fuel" : Option (AV × St)) = some r := hx; simp [bad] at hx)⟩
  | k + 1 => step_le (ev_le1 k)
theorem ev_le {T : Tb} {G : Tr Func} {ext : FuncId → Option (List AV → Option AV)} {k k' : Nat} (h : k ≤ k') : Le (ev T G ext k) (ev T G ext k') := by
  induction h with
  | refl => exact Le.refl _
  | step _ ih => exact ih.trans (ev_le1 _)
end Go.Ab
