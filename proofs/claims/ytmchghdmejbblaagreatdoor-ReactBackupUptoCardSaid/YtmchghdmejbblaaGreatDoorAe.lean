/- The evaluator's code, calls and rounds, and the model's: the induction over the fuel. -/
import Derived.Test.YtmchghdmejbblaaGreatDoorAd
set_option linter.unusedSimpArgs false
set_option linter.unusedVariables false
namespace Go.Ab

/-- Functions without a body: what the evaluator takes them for. -/
def ExtOk (P : Program) (ext : FuncId → Option (List AV → Option AV)) : Prop :=
  ∀ f g args v, ext f = some g → g args = some v → noYld args = true ∧ ∀ (C : Cx) (xs : Array Value) (w : World), VRs C args xs.toList → ∃ x, (callFunc f xs).run P w = .ok (.value x) w ∧ VR C v x

/-! ### Entering and leaving a function -/
theorem argTmps_get : ∀ (l : List AV) (i : Nat) (t : Tr AV) (d : Nat), i + l.length ≤ lim → (argTmps i l t).get d = if d < i then t.get d else (l[d - i]?).or (t.get d)
  | [], i, t, d, _ => by simp [argTmps]
  | v :: l, i, t, d, h => by
    simp only [List.length_cons] at h
    rw [argTmps, argTmps_get l (i + 1) _ d (by omega), get_set40 _ _ _ _ (by omega)]
    by_cases h1 : d < i
    · rw [if_pos (by omega), if_pos h1, if_neg (by omega)]
    · by_cases h2 : d = i
      · subst h2
        rw [if_pos (by omega), if_neg h1, if_pos rfl]
        simp
      · rw [if_neg (by omega), if_neg h1, if_neg h2]
        have : d - i = d - (i + 1) + 1 := by omega
        rw [this, List.getElem?_cons_succ]

theorem enter_ok {C : Cx} {args : List AV} {xs : Array Value} (h : VRs C args xs.toList) (hl : args.length ≤ 1000) (m : Nat) (ro : Option Nat) :
    FR C { tmps := argTmps 0 args .leaf, dfs := [], n := args.length + (m - args.length), ro := ro } { tmps := xs ++ Array.replicate (m - xs.size) undef, defers := [] } := by
  have hlen := h.length
  simp only [Array.length_toList] at hlen
  refine ⟨fun d => ?_, by simp [hlen], rfl⟩
  have hg : getT (argTmps 0 args .leaf) d = (args[d]?).getD (.tup []) := by
    unfold getT
    rw [argTmps_get args 0 .leaf d (by unfold lim; omega), if_neg (by omega)]
    cases hd : args[d - 0]? with
    | none => rfl
    | some v => rfl
  rw [hg, Array.getD_eq_getD_getElem?, Array.getElem?_append]
  by_cases hd : d < xs.size
  · rw [if_pos hd]
    obtain ⟨a, ha⟩ : ∃ a, args[d]? = some a := ⟨args[d], List.getElem?_eq_getElem (by omega)⟩
    obtain ⟨v, hv, hr⟩ := h.get ha
    have hv' : xs[d]? = some v := by simpa using hv
    rw [ha, hv']
    exact hr
  · rw [if_neg hd, List.getElem?_eq_none (by omega)]
    have : ((Array.replicate (m - xs.size) undef)[d - xs.size]?).getD undef = undef := by
      rw [Array.getElem?_replicate]
      split <;> rfl
    rw [this]
    exact ⟨_, rfl, rfl⟩

theorem run_takeDeferred {P : Program} {w : World} {b : Nat} (h : w.heap[b]? = some (.deferred (some []))) : (Instr.takeDeferred b).run P w = .ok [] (w.putObj b (.deferred none)) := by
  have hg : (getObj b).run P w = .ok (.deferred (some [])) w := by simp [getObj, Sem.run, h]
  have hs : (setObj b (.deferred none)).run P w = .ok () (w.putObj b (.deferred none)) := by simp [setObj, Sem.run, h, World.putObj]
  simp only [Instr.takeDeferred, Sem.run_bind, hg, Result.andThen_ok, hs, Sem.run_pure]

theorem leavesM_ok {P : Program} {ok : Nat → Prop} {n : Nat} {fn : Func} {tmps : Array Value} {Rr : Ending → World → Prop} {C : Cx} :
    ∀ {rs : List Nat} {σ σ' : St} {w : World} {ds : List Deferred}, takeDefs rs σ = some σ' → R ok C σ w → DfR C rs ds →
      (∀ w', Nx ok C σ w C σ' w' → LeavesInM Fence.wide n P fn tmps Rr [] .returning w') → LeavesInM Fence.wide n P fn tmps Rr ds .returning w
  | [], σ, σ', w, ds, h, hR, hD, hK => by
    simp only [takeDefs, Option.some.injEq] at h
    subst h
    cases hD
    exact hK w (Nx.refl hR)
  | r :: rs, σ, σ', w, ds, h, hR, hD, hK => by
    obtain ⟨b, ds', rfl, ⟨cv, hc, _⟩, hb, hD'⟩ := hD
    simp only [takeDefs] at h
    split at h
    · rename_i hg
      obtain ⟨h1, h2, _⟩ := hR.obj r _ cv hg hc
      have : cv = 0 := h1
      subst this
      have hh : w.heap[C.μ r]? = some (.deferred (some [])) := h2
      have hlt : C.μ r < w.heap.size := (Array.getElem?_eq_some_iff.1 hh).1
      have hn : Nx ok C σ w C (σ.put r .defd) (w.putObj (C.μ r) (.deferred none)) := by
        refine hR.put hg hc rfl (World.putObj_heap_same hlt) rfl rfl rfl World.putObj_size (fun k hk => World.putObj_heap_other hk) ?_
        have hb := hR.bs (C.μ r)
        unfold bsize at hb
        rw [hh] at hb
        simp only at hb
        omega
      refine ⟨(by intro h; cases h), .inl ⟨C.μ r, _, by rw [hb hc], run_takeDeferred hh, ?_⟩⟩
      exact leavesM_ok h hn.rel hD' fun w' hn' => hK w' (hn.trans hn')
    · simp [bad] at h

/-! ### Loops' records -/
theorem loop_at {ok : Nat → Prop} {C : Cx} {σ : St} {w : World} (hR : R ok C σ w) {l b : Nat} (hv : VR C (.yld l) (.func (.yield b) #[] #[])) {st : LoopState} {pend : Option Code} {m : Nat} {t : Tr AV} {ps : Array Tmp} {asg body : Code} (hg : σ.get l = some (.loop st pend m t ps asg body)) :
    C.cur l = some 0 ∧ C.μ l = b ∧ ∃ r : Loop, w.heap[b]? = some (.loop r) ∧ r.state = st ∧ r.pending = pend ∧ r.tmps.size = m ∧ TR C t r.tmps ∧ r.params = ps ∧ r.assign = asg ∧ r.body = body := by
  obtain ⟨b', hb, ⟨cv, hc, _⟩, hbc⟩ := hv
  cases hb
  obtain ⟨h1, h2, _⟩ := hR.obj l _ cv hg hc
  have : cv = 0 := h1
  subst this
  have e := hbc hc
  obtain ⟨r, q1, q2, q3, q4, q5, q6, q7, q8, _⟩ := h2
  rw [← e] at q1
  exact ⟨hc, e.symm, r, q1, q2, q3, q4, q5, q6, q7, q8⟩

/-- The record's state and jump are written. -/
theorem loop_put {ok : Nat → Prop} {C : Cx} {σ : St} {w : World} (hR : R ok C σ w) {l b : Nat} (hv : VR C (.yld l) (.func (.yield b) #[] #[])) {st : LoopState} {pend : Option Code} {m : Nat} {t : Tr AV} {ps : Array Tmp} {asg body : Code} (hg : σ.get l = some (.loop st pend m t ps asg body))
    {r : Loop} (hr : w.heap[b]? = some (.loop r)) (st' : LoopState) (pend' : Option Code) (hp : pend' ≠ some .skip) :
    Nx ok C σ w C (σ.put l (.loop st' pend' m t ps asg body)) (w.putObj b (.loop { r with state := st', pending := pend' })) := by
  obtain ⟨hc, e, r', q1, q2, q3, q4, q5, q6, q7, q8⟩ := loop_at hR hv hg
  rw [hr] at q1
  cases q1
  have hlt : b < w.heap.size := (Array.getElem?_eq_some_iff.1 hr).1
  subst e
  refine hR.put hg hc rfl ⟨_, World.putObj_heap_same hlt, rfl, rfl, q4, q5, q6, q7, q8, hp⟩ rfl rfl rfl World.putObj_size (fun k hk => World.putObj_heap_other hk) ?_
  have hb := hR.bs (C.μ l)
  unfold bsize at hb
  rw [hr] at hb
  simp only at hb
  omega

theorem setParams_ok {C : Cx} {n : Nat} : ∀ {l : List (Tmp × AV)} {xs : List (Tmp × Value)} {t t' : Tr AV} {tmps : Array Value}, setParams n l t = some t' → TR C t tmps → tmps.size = n →
    l.map (·.1) = xs.map (·.1) → VRs C (l.map (·.2)) (xs.map (·.2)) → TR C t' (xs.foldl (fun tmps p => tmps.setIfInBounds p.1 p.2) tmps) ∧ (xs.foldl (fun tmps p => tmps.setIfInBounds p.1 p.2) tmps).size = n
  | [], xs, t, t', tmps, h, ht, hn, h1, h2 => by
    simp only [setParams, Option.some.injEq] at h
    subst h
    cases xs with
    | nil => exact ⟨ht, hn⟩
    | cons _ _ => simp at h1
  | p :: l, xs, t, t', tmps, h, ht, hn, h1, h2 => by
    cases xs with
    | nil => simp at h1
    | cons q xs =>
      simp only [List.map_cons, List.cons.injEq] at h1
      obtain ⟨v, vs, hv, h2a, h2b⟩ := h2
      simp only [List.map_cons, List.cons.injEq] at hv
      obtain ⟨rfl, rfl⟩ := hv
      simp only [setParams] at h
      split at h
      · rename_i hb1 hb2
        have hb1 : p.1 < n := by simpa using hb1
        have hb2 : p.1 < lim := by simpa using hb2
        simp only [List.foldl_cons]
        refine setParams_ok h (fun d => ?_) (by simp [hn]) h1.2 h2b
        have hd := ht d
        rw [getT_set _ _ _ _ hb2]
        simp only [Array.getD_eq_getD_getElem?, Array.getElem?_setIfInBounds] at hd ⊢
        rw [← h1.1]
        by_cases e : p.1 = d
        · subst e
          rw [if_pos rfl, if_pos rfl, if_pos (show p.1 < tmps.size by rw [hn]; exact hb1)]
          exact h2a
        · rw [if_neg (fun h => e h.symm), if_neg e]
          exact hd
      · simp [bad] at h

theorem zip_map1 {α β γ : Type} : ∀ (l : List α) (m : List β) (m' : List γ), m.length = m'.length → (l.zip m).map (·.1) = (l.zip m').map (·.1)
  | [], _, _, _ => by simp
  | _ :: _, [], [], _ => rfl
  | _ :: _, [], _ :: _, h => by simp at h
  | _ :: _, _ :: _, [], h => by simp at h
  | a :: l, b :: m, c :: m', h => by simp [zip_map1 l m m' (by simpa using h)]
theorem zip_map2 {α β : Type} : ∀ (l : List α) (m : List β), l.length = m.length → (l.zip m).map (·.2) = m
  | [], [], _ => rfl
  | [], _ :: _, h => by simp at h
  | _ :: _, [], h => by simp at h
  | a :: l, b :: m, h => by simp [zip_map2 l m (by simpa using h)]
end Go.Ab
