/- Regions that draw their order: every order that the edges allow ends as the plan does. -/
import Derived.Test.YtmchghdmejbblaaGreatDoorAi
set_option linter.unusedSimpArgs false
set_option linter.unusedVariables false
namespace Go.Ab

/-! ### What the evaluator's plan shows -/
def LvOk (lv : List (Nat × Nat)) (B : List It) : Prop :=
  ∀ j, levelOf lv j = 0 ∨ ∃ m ∈ B, m.i = j ∧ ((loud m.o = true ∧ levelOf lv j = m.hi + 1) ∨ (kindOf m.o = 0 ∧ levelOf lv j = m.lo))
def LoOk (A : List It) (m : It) : Prop :=
  ∀ k, (∀ e ∈ m.o.after.toList, Region.binds .any e = true → ∀ b ∈ A, b.i = e.on → (loud b.o = true → b.hi + 1 ≤ k) ∧ (kindOf b.o = 0 → b.lo ≤ k)) → m.lo ≤ k
theorem LoOk.mono {A A' : List It} {m : It} (h : LoOk A m) (hs : ∀ b ∈ A, b ∈ A') : LoOk A' m := fun k hk => h k fun e he hb b hbA => hk e he hb b (hs b hbA)

theorem needed_le {lv : List (Nat × Nat)} {o : Oper} {k : Nat} (h : ∀ e ∈ o.after.toList, Region.binds .any e = true → levelOf lv e.on ≤ k) : needed lv o ≤ k := by
  have key : ∀ (l : List Edge) (m0 : Nat), m0 ≤ k → (∀ e ∈ l, Region.binds .any e = true → levelOf lv e.on ≤ k) → l.foldl (fun m e => if Region.binds .any e then max m (levelOf lv e.on) else m) m0 ≤ k := by
    intro l
    induction l with
    | nil => intro m0 h0 _; exact h0
    | cons a l ih =>
      intro m0 h0 hl
      simp only [List.foldl_cons]
      refine ih _ ?_ (fun e he => hl e (by simp [he]))
      split
      · rename_i hb
        have := hl a (by simp) hb
        omega
      · exact h0
  exact key _ 0 (Nat.zero_le _) h

theorem rev_here (more past : List St) (σ : St) : (more ++ σ :: past).reverse[past.length]? = some σ := by
  simp [List.reverse_append]
theorem rev_before (more past : List St) (σ : St) (k : Nat) (h : k < past.length) : (more ++ σ :: past).reverse[k]? = past[past.length - 1 - k]? := by
  rw [List.reverse_append, List.reverse_cons, List.getElem?_append_left (by simp; omega), List.getElem?_append_left (by simp; omega), List.getElem?_reverse h]

theorem evPlan_ok {T : Tb} {e : Ev} {ops : Array Oper} : ∀ {rs : List (Nat × Oper)} {fr fr' : Fr} {hist hist' : List St} {lv : List (Nat × Nat)} {B : List It}, evPlan T e ops rs fr hist lv = some (fr', hist') → hist ≠ [] → LvOk lv B →
    ∃ more items, hist' = more ++ hist ∧ items.map It.io = rs ∧ (∀ m ∈ items, kindOf m.o = 0 → LoOk (B ++ items) m) ∧
      ∀ σs : Nat → St, (∀ k s, hist'.reverse[k]? = some s → σs k = s) → PlanRun T e ops σs items (hist.length - 1) fr (hist'.length - 1) fr'
  | [], fr, fr', hist, hist', lv, B, h, hne, hl => by
    simp only [evPlan, Option.some.injEq, Prod.mk.injEq] at h
    obtain ⟨rfl, rfl⟩ := h
    exact ⟨[], [], rfl, rfl, (fun m hm => by cases hm), fun _ _ => ⟨rfl, rfl⟩⟩
  | p :: rs, fr, fr', hist, hist', lv, B, h, hne, hl => by
    cases hist with
    | nil => exact absurd rfl hne
    | cons σ past =>
      simp only [evPlan] at h
      split at h
      · cases h
      · rename_i v σ' hx
        split at h
        · cases h
        · rename_i fr1 hp
          split at h
          · rename_i hk
            have hk := Nat.eq_of_beq_eq_true hk
            split at h
            · rename_i hag
              let m : It := ⟨p.1, p.2, v, needed lv p.2, past.length⟩
              have hl' : LvOk ((p.1, needed lv p.2) :: lv) (B ++ [m]) := fun j => by
                unfold levelOf
                by_cases ej : p.1 = j
                · rw [if_pos ej]; exact .inr ⟨m, by simp, ej, .inr ⟨hk, rfl⟩⟩
                · rw [if_neg ej]
                  rcases hl j with h0 | ⟨b, hb, hbj, hc⟩
                  · exact .inl h0
                  · exact .inr ⟨b, by simp [hb], hbj, hc⟩
              obtain ⟨more, items, q1, q2, q3, q4⟩ := evPlan_ok h (by simp) hl'
              refine ⟨more, m :: items, q1, by simp [It.io, m, q2], fun b hb hb0 => ?_, fun σs hs => ⟨by simp [m], fr1, hp, .inr ⟨hk, fun k hk1 hk2 => ?_, by simpa using q4 σs hs⟩⟩⟩
              · rcases List.mem_cons.1 hb with rfl | hb
                · intro k hkk
                  refine needed_le fun e' he' hbe => ?_
                  rcases hl e'.on with h0 | ⟨b, hbB, hbj, ⟨hc1, hc2⟩ | ⟨hc1, hc2⟩⟩
                  · omega
                  · have := (hkk e' he' hbe b (by simp [hbB]) hbj).1 hc1
                    omega
                  · have := (hkk e' he' hbe b (by simp [hbB]) hbj).2 hc1
                    omega
                · have := q3 b hb hb0
                  exact this.mono fun c hc => by simpa using hc
              · have hk2 : k ≤ past.length := by simpa using hk2
                have hk1 : needed lv p.2 ≤ k := hk1
                by_cases ek : k = past.length
                · subst ek
                  have : σs past.length = σ := hs _ _ (by rw [q1]; exact rev_here more past σ)
                  rw [this]
                  show exec1 T e ops p.2 fr σ = some (v, σ)
                  rw [hx, exec1_silent hk hx]
                · have hlt : k < past.length := by omega
                  have hget : past[past.length - 1 - k]? = some past[past.length - 1 - k] := List.getElem?_eq_getElem (by omega)
                  have hσ : σs k = past[past.length - 1 - k] := hs _ _ (by rw [q1, rev_before more past σ k hlt, hget])
                  rw [hσ]
                  unfold again at hag
                  rw [List.all_eq_true] at hag
                  have hmem : past[past.length - 1 - k] ∈ past.take (past.length - needed lv p.2) := by
                    refine List.mem_of_getElem? (i := past.length - 1 - k) ?_
                    rw [List.getElem?_take, if_pos (by omega)]
                    exact hget
                  have := hag _ hmem
                  split at this
                  · rename_i u σ2 hu
                    show exec1 T e ops p.2 fr _ = some (v, _)
                    rw [hu, same_eq _ _ this, exec1_silent hk hu]
                  · cases this
            · simp [bad] at h
          · split at h
            · rename_i hlo
              let m : It := ⟨p.1, p.2, v, past.length, past.length⟩
              have hl' : LvOk ((p.1, past.length + 1) :: lv) (B ++ [m]) := fun j => by
                unfold levelOf
                by_cases ej : p.1 = j
                · rw [if_pos ej]; exact .inr ⟨m, by simp, ej, .inl ⟨hlo, rfl⟩⟩
                · rw [if_neg ej]
                  rcases hl j with h0 | ⟨b, hb, hbj, hc⟩
                  · exact .inl h0
                  · exact .inr ⟨b, by simp [hb], hbj, hc⟩
              obtain ⟨more, items, q1, q2, q3, q4⟩ := evPlan_ok h (by simp) hl'
              have e1 : more ++ σ' :: σ :: past = (more ++ [σ']) ++ σ :: past := by simp
              refine ⟨more ++ [σ'], m :: items, by rw [q1, e1], by simp [It.io, m, q2], fun b hb hb0 => ?_, fun σs hs => ⟨by simp [m], fr1, hp, .inl ⟨hlo, ?_, by simpa using q4 σs hs⟩⟩⟩
              · rcases List.mem_cons.1 hb with rfl | hb
                · have := loud_kind hlo
                  rw [show m.o = p.2 from rfl] at hb0
                  omega
                · have := q3 b hb hb0
                  exact this.mono fun c hc => by simpa using hc
              · have h1 : σs past.length = σ := hs _ _ (by rw [q1, e1]; exact rev_here (more ++ [σ']) past σ)
                have h2 : σs (past.length + 1) = σ' := hs _ _ (by rw [q1]; exact rev_here more (σ :: past) σ')
                show exec1 T e ops p.2 fr (σs (past.length + 1 - 1)) = some (v, σs (past.length + 1 - 1 + 1))
                rw [Nat.add_sub_cancel, h1, h2]
                exact hx
            · simp [bad] at h

/-! ### What must be done before an operation that writes -/
theorem direct_iff {o : Oper} {j : Nat} : direct o j = true ↔ ∃ e ∈ o.after.toList, e.on = j ∧ Region.binds .any e = true := by
  unfold direct
  simp only [List.any_eq_true, Bool.and_eq_true, beq_iff_eq]
theorem asked_found {i : Nat} : ∀ {pre post : List (Nat × Oper)} {q : Nat × Oper}, asked i (pre ++ q :: post) = true → loud q.2 = true → ∃ r ∈ pre ++ [q], direct r.2 i = true
  | [], post, q, h, hq => by
    simp only [List.nil_append, asked, hq, Bool.not_true, Bool.false_and, Bool.or_false] at h
    exact ⟨q, by simp, h⟩
  | p :: pre, post, q, h, hq => by
    simp only [List.cons_append, asked, Bool.or_eq_true, Bool.and_eq_true] at h
    rcases h with h | ⟨_, h⟩
    · exact ⟨p, by simp, h⟩
    · obtain ⟨r, hr, hd⟩ := asked_found h hq
      exact ⟨r, by simp only [List.cons_append, List.mem_cons]; exact .inr hr, hd⟩
theorem held {S : Nat → Bool} : ∀ {pre post : List (Nat × Oper)} {q : Nat × Oper}, heldTo (pre ++ q :: post) = true → (∀ p ∈ pre ++ [q], S p.1 = true → ∀ j, direct p.2 j = true → S j = true) → loud q.2 = true → S q.1 = true → ∀ p ∈ pre, S p.1 = true
  | [], _, _, _, _, _, _, _, h => by cases h
  | p0 :: pre, post, q, h, hS, hq, hSq, p, hp => by
    simp only [List.cons_append, heldTo, Bool.and_eq_true, Bool.or_eq_true, Bool.not_eq_true'] at h
    have ih := held h.2 (fun p hp => hS p (by simp only [List.cons_append, List.mem_cons]; exact .inr hp)) hq hSq
    rcases List.mem_cons.1 hp with rfl | hp
    · rcases h.1 with h1 | h1
      · have : ((pre ++ q :: post).any fun p => loud p.2) = true := List.any_eq_true.2 ⟨q, by simp, hq⟩
        rw [this] at h1; cases h1
      · obtain ⟨r, hr, hd⟩ := asked_found h1 hq
        refine hS r (by simp only [List.cons_append, List.mem_cons]; exact .inr hr) ?_ _ hd
        rcases List.mem_append.1 hr with hr | hr
        · exact ih r hr
        · rw [List.mem_singleton.1 hr]; exact hSq
    · exact ih p hp

theorem pairs_pw {ops : Array Oper} : ∀ {l : List (Nat × Oper)}, pairsOk ops l = true → l.Pairwise fun a b => pairOk ops a b = true
  | [], _ => List.Pairwise.nil
  | p :: l, h => by
    simp only [pairsOk, Bool.and_eq_true, List.all_eq_true] at h
    exact List.Pairwise.cons h.1 (pairs_pw h.2)
theorem pw_mem {α : Type} {r : α → α → Prop} : ∀ {l : List α}, l.Pairwise r → ∀ a ∈ l, ∀ b ∈ l, a = b ∨ r a b ∨ r b a
  | [], _, _, h, _, _ => by cases h
  | x :: l, h, a, ha, b, hb => by
    cases h with
    | cons h1 h2 =>
      rcases List.mem_cons.1 ha with e | ha'
      · rcases List.mem_cons.1 hb with e' | hb'
        · exact .inl (e.trans e'.symm)
        · exact .inr (.inl (e ▸ h1 b hb'))
      · rcases List.mem_cons.1 hb with e' | hb'
        · exact .inr (.inr (e' ▸ h1 a ha'))
        · exact pw_mem h2 a ha' b hb'

theorem pairOk_spec {ops : Array Oper} {p q : Nat × Oper} (h : pairOk ops p q = true) : p.1 ≠ q.1 ∧ (∀ d, p.2.dst = some d → q.2.dst ≠ some d) ∧
    (direct q.2 p.1 = true ∨ ((∀ d, p.2.dst = some d → d ∉ q.2.looksAt ops) ∧ (∀ d, q.2.dst = some d → d ∉ p.2.looksAt ops))) := by
  unfold pairOk at h
  simp only [Bool.and_eq_true, Bool.or_eq_true, bne_iff_ne, ne_eq] at h
  obtain ⟨⟨h1, h2⟩, h3⟩ := h
  refine ⟨h1, fun d hd hq => ?_, ?_⟩
  · rcases h2 with h2 | h2
    · rw [hd] at h2; cases h2
    · exact h2 (by rw [hd, hq])
  · rcases h3 with h3 | ⟨h3, h4⟩
    · exact .inl h3
    · refine .inr ⟨fun d hd hc => ?_, fun d hd hc => ?_⟩
      · rw [hd] at h3
        simp [hc] at h3
      · rw [hd] at h4
        simp [hc] at h4

theorem number_mem {α : Type} : ∀ {l : List α} {k : Nat} {p : Nat × α}, p ∈ number k l → k ≤ p.1 ∧ l[p.1 - k]? = some p.2
  | [], _, _, h => by cases h
  | x :: l, k, p, h => by
    rcases List.mem_cons.1 h with rfl | h
    · simp
    · obtain ⟨h1, h2⟩ := number_mem h
      refine ⟨by omega, ?_⟩
      rw [show p.1 - k = p.1 - (k + 1) + 1 by omega, List.getElem?_cons_succ]
      exact h2
theorem number_of {α : Type} : ∀ {l : List α} {k j : Nat} {x : α}, l[j]? = some x → (k + j, x) ∈ number k l
  | [], _, _, _, h => by simp at h
  | y :: l, k, j, x, h => by
    cases j with
    | zero => simp at h; subst h; simp [number]
    | succ j =>
      simp at h
      have := number_of (k := k + 1) h
      rw [show k + 1 + j = k + (j + 1) by omega] at this
      exact List.mem_cons_of_mem _ this
theorem segs_mem {masks : Array Nat} {l : List (Nat × Oper)} : ∀ {Ls : List (Nat × Oper)} {done : List Nat} {p : Nat × Oper}, p ∈ segs masks l Ls done → p ∈ l ∨ p ∈ Ls
  | [], done, p, h => .inl ((List.mem_filter.1 h).1)
  | q :: Ls, done, p, h => by
    simp only [segs] at h
    rcases List.mem_append.1 h with h | h
    · exact .inl ((List.mem_filter.1 h).1)
    · rcases List.mem_cons.1 h with rfl | h
      · exact .inr (by simp)
      · rcases segs_mem h with h | h
        · exact .inl h
        · exact .inr (by simp [h])
end Go.Ab
