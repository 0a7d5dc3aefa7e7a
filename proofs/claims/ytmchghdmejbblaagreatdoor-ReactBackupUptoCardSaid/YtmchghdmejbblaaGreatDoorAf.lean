/- The evaluator's code, calls and rounds, and the model's: the induction over the fuel. -/
import Derived.Test.YtmchghdmejbblaaGreatDoorAe
set_option linter.unusedSimpArgs false
set_option linter.unusedVariables false
namespace Go.Ab

theorem thenC_cases {k : Fr → St → CR} {r : CR} {x : Xt} {fr' : Fr} {σ' : St} (h : thenC k r = some (x, fr', σ')) :
    (∃ fr1 σ1, r = some (.normal, fr1, σ1) ∧ k fr1 σ1 = some (x, fr', σ')) ∨ (r = some (x, fr', σ') ∧ x ≠ .normal) := by
  unfold thenC at h
  split at h
  · exact .inl ⟨_, _, rfl, h⟩
  · rename_i hne
    exact .inr ⟨h, fun e => hne _ _ (by rw [h, e])⟩
theorem then_exit {K : Act → World → Prop} {Q : Exit → Act → World → Prop} {x : Xt} (hx : x ≠ .normal) {a : Act} {w : World} (h : Q (exitOf x) a w) : Exit.then K Q (exitOf x) a w := by
  cases x with
  | normal => exact absurd rfl hx
  | exit id => exact h
  | ret => exact h

theorem blockC_cases {id : Nat} {r : CR} {x : Xt} {fr' : Fr} {σ' : St} (h : blockC id r = some (x, fr', σ')) :
    ∃ x1, r = some (x1, fr', σ') ∧ ((x1 = .exit id ∧ x = .normal) ∨ (x1 = x ∧ x ≠ .exit id)) := by
  unfold blockC at h
  split at h
  · rename_i j fr σ
    split at h
    · rename_i hb
      cases h
      exact ⟨_, rfl, .inl ⟨by rw [Nat.eq_of_beq_eq_true hb], rfl⟩⟩
    · rename_i hb
      cases h
      exact ⟨_, rfl, .inr ⟨rfl, fun e => by cases e; rw [Nat.beq_refl] at hb; cases hb⟩⟩
  · rename_i hne
    exact ⟨_, h, .inr ⟨rfl, fun e => hne _ _ _ (by rw [h, e])⟩⟩

section
variable {P : Program} {T : Tb} (hP : TbOk P T) {G : Tr Func} (hG : ∀ f fn, G.get f = some fn → P.funcs[f]? = some fn) {ext : FuncId → Option (List AV → Option AV)} (hE : ExtOk P ext)

theorem endRange_ro {r l : Nat} {fr fr' : Fr} {x : Xt} {σ' : St} {y : Option (AV × St)} (h : endRange r l fr y = some (x, fr', σ')) : fr'.ro = fr.ro := by
  have hp : ∀ (fr : Fr) (σ : St) (p : Option Code), pendC fr σ p = some (x, fr', σ') → fr'.ro = fr.ro := by
    intro fr σ p h
    unfold pendC at h
    split at h <;> first | (cases h; rfl) | (simp [bad] at h)
  unfold endRange at h
  split at h
  · split at h
    · have := hp _ _ _ h; exact this
    · have := hp _ _ _ h; exact this
    · simp [bad] at h
  · cases h

theorem code_ro {e : Ev} (he : ∀ {c fr σ x fr' σ'}, e.code c fr σ = some (x, fr', σ') → fr'.ro = fr.ro) (hd : ∀ {ops fr σ fr' σ'}, evDraw T e ops fr σ = some (fr', σ') → fr'.ro = fr.ro) {c : Code} {fr fr' : Fr} {σ σ' : St} {x : Xt}
    (h : codeC T e fr σ c = some (x, fr', σ')) : fr'.ro = fr.ro := by
  cases c
  case skip =>
    have h : (some (.normal, fr, σ) : CR) = some (x, fr', σ') := h
    cases h; rfl
  case region id ops d =>
    have h : regionC T e ops fr σ d = some (x, fr', σ') := h
    unfold regionC at h
    split at h
    · unfold normalC at h
      split at h
      · rename_i hh
        cases h
        exact hd hh
      · cases h
    · unfold normalC at h
      split at h
      · rename_i hh
        cases h
        exact evList_ro hh
      · cases h
  case seq a b =>
    have h : thenC (fun fr σ => e.code b fr σ) (e.code a fr σ) = some (x, fr', σ') := h
    rcases thenC_cases h with ⟨fr1, σ1, h1, h2⟩ | ⟨h1, _⟩
    · rw [he h2, he h1]
    · exact he h1
  case cond c a b =>
    have h : condC (fun t => e.code (branch a b t) fr σ) (evO fr c) = some (x, fr', σ') := h
    unfold condC at h
    split at h
    · exact he h
    · simp [bad] at h
  case block id b =>
    have h : blockC id (e.code b fr σ) = some (x, fr', σ') := h
    obtain ⟨x1, h1, _⟩ := blockC_cases h
    exact he h1
  case loop b =>
    have h : thenC (fun fr σ => e.code (.loop b) fr σ) (e.code b fr σ) = some (x, fr', σ') := h
    rcases thenC_cases h with ⟨fr1, σ1, h1, h2⟩ | ⟨h1, _⟩
    · rw [he h2, he h1]
    · exact he h1
  case rangeFunc f ps asg body =>
    have h : rangeC e ps asg body fr σ fr.ro (evO fr f) = some (x, fr', σ') := h
    unfold rangeC at h
    split at h
    · split at h
      · split at h
        · exact endRange_ro h
        · cases h
      · cases h
    · simp [bad] at h
  case exit id =>
    have h : (some (.exit id, fr, σ) : CR) = some (x, fr', σ') := h
    cases h; rfl
  case ret =>
    have h : (some (.ret, fr, σ) : CR) = some (x, fr', σ') := h
    cases h; rfl
  all_goals
    have h : (bad "code" : CR) = some (x, fr', σ') := h
    simp [bad] at h

include hP in
/-- Code that is no loop, by what lies within. -/
theorem code_flat {e : Ev} (he : Sound P e) (hd : DrawOk P T e) {c : Code} (hc : ∀ b, c ≠ .loop b) {fr fr' : Fr} {σ σ' : St} {x : Xt} (h : codeC T e fr σ c = some (x, fr', σ'))
    {ok : Nat → Prop} {C : Cx} {w : World} {a : Act} {ro : Option Nat} {n : Nat} {Q : Exit → Act → World → Prop}
    (hR : R ok C σ w) (hok : ∀ b, w.heap.size ≤ b → ok b) (hF : FR C fr a) (hro : fr.ro = none → ro = none)
    (hQ : ∀ C' w' a', Nx ok C σ w C' σ' w' → FR C' fr' a' → Q (exitOf x) a' w') : c.wpIn (Fw ro) n P Q a w := by
  cases c
  case skip =>
    have h : (some (.normal, fr, σ) : CR) = some (x, fr', σ') := h
    cases h
    exact wpIn_skip (hQ C w a (Nx.refl hR) hF)
  case region id ops d =>
    have h : regionC T e ops fr σ d = some (x, fr', σ') := h
    unfold regionC at h
    split at h
    · unfold normalC at h
      split at h
      · rename_i hh
        cases h
        exact hd.ok hh hR hok hF hQ
      · cases h
    · unfold normalC at h
      split at h
      · rename_i hh
        cases h
        exact wpIn_region_list (evList_ok hP he hh hR hok hF hQ)
      · cases h
  case seq a1 b1 =>
    have h : thenC (fun fr σ => e.code b1 fr σ) (e.code a1 fr σ) = some (x, fr', σ') := h
    refine wpIn_seq ?_
    rcases thenC_cases h with ⟨fr1, σ1, h1, h2⟩ | ⟨h1, hx⟩
    · refine he.code h1 hR hok hF hro fun C' w' a' hn hF' => ?_
      exact he.code h2 hn.rel (okLater hok hn) hF' (by rw [he.ro h1]; exact hro) fun C2 w2 a2 hn2 hF2 => hQ C2 w2 a2 (hn.trans hn2) hF2
    · exact he.code h1 hR hok hF hro fun C' w' a' hn hF' => then_exit hx (hQ C' w' a' hn hF')
  case cond c a1 b1 =>
    have h : condC (fun t => e.code (branch a1 b1 t) fr σ) (evO fr c) = some (x, fr', σ') := h
    unfold condC at h
    split at h
    · rename_i t ht
      have hv : a.eval c = .bool t := evO_ok ht hF.tr
      refine wpIn_cond hv ?_
      cases t
      · exact he.code h hR hok hF hro hQ
      · exact he.code h hR hok hF hro hQ
    · simp [bad] at h
  case block id b =>
    have h : blockC id (e.code b fr σ) = some (x, fr', σ') := h
    obtain ⟨x1, h1, h2⟩ := blockC_cases h
    refine wpIn_block (he.code h1 hR hok hF hro fun C' w' a' hn hF' => ?_)
    have := hQ C' w' a' hn hF'
    rcases h2 with ⟨rfl, rfl⟩ | ⟨rfl, hne⟩
    · show (if id = id then Q .normal a' w' else Q (.exit id) a' w')
      rw [if_pos rfl]; exact this
    · cases x1 with
      | normal => exact this
      | ret => exact this
      | exit j =>
        show (if j = id then Q .normal a' w' else Q (.exit j) a' w')
        rw [if_neg (fun e => hne (by rw [e]))]; exact this
  case loop b => exact absurd rfl (hc b)
  case rangeFunc f ps asg body =>
    have h : rangeC e ps asg body fr σ fr.ro (evO fr f) = some (x, fr', σ') := h
    unfold rangeC at h
    split at h
    · rename_i g first cap hro' hf
      have hro0 := hro hro'
      subst hro0
      split at h
      · rename_i r σ1 hr
        split at h
        · rename_i l σ2 hl
          obtain ⟨u, v, hfv, hu, hv⟩ : VR C (.fn g first cap) (a.eval f) := evO_ok hf hF.tr
          obtain ⟨hid1, hn1⟩ := hR.new (.deferred (some [])) 0 hr hok rfl (fun C' e' => heap_push_new w _) (Nat.zero_le _)
          refine wpIn_rangeFunc fun fn _ => ?_
          let rec0 : Loop := { state := .ready, pending := none, fn, tmps := a.tmps, params := ps, assign := asg, body, defers := w.heap.size }
          obtain ⟨hid2, hn2⟩ := hn1.rel.new (.loop rec0) 0 hl (okLater hok hn1) rfl (fun C' e' => ⟨rec0, heap_push_new _ _, rfl, rfl, hF.n, (hF.tr.ext hn1.ext).ext e', rfl, rfl, rfl, by simp⟩) (Nat.zero_le _)
          have hn12 := hn1.trans hn2
          have hyld : VR ((C.upd r w.heap.size 0 0).upd l (w.alloc (.deferred (some []))).heap.size 0 0) (.yld l) (.func (.yield (w.heap.size + 1)) #[] #[]) := by
            refine ⟨_, rfl, ⟨0, by simp [Cx.upd], Nat.le_refl _⟩, fun _ => ?_⟩
            simp [Cx.upd, World.size_alloc]
          have hargs : VRs ((C.upd r w.heap.size 0 0).upd l (w.alloc (.deferred (some []))).heap.size 0 0) (first ++ [.yld l] ++ cap) (u ++ #[Value.func (.yield (w.heap.size + 1)) #[] #[]] ++ v).toList := by
            rw [Array.toList_append, Array.toList_append]
            exact VRs.append (VRs.append (VRs.ext hn12.ext _ _ hu) (VRs.one hyld)) (VRs.ext hn12.ext _ _ hv)
          unfold endRange at h
          split at h
          · rename_i rv σ3 hcall
            let a1 : Act := { a with defers := { target := .collected w.heap.size, args := #[] } :: a.defers }
            have hlast : ∀ (st : LoopState) (pend : Option Code) (m : Nat) (t : Tr AV) (ps' : Array Tmp) (asg' body' : Code), σ3.get l = some (.loop st pend m t ps' asg' body') → st ≠ .busy →
                pendC { fr with dfs := r :: fr.dfs } (σ3.put l (.loop .exhausted pend m t ps' asg' body')) pend = some (x, fr', σ') →
                ∀ C' w' rx, Nx ok ((C.upd r w.heap.size 0 0).upd l (w.alloc (.deferred (some []))).heap.size 0 0) σ2 ((w.alloc (.deferred (some []))).alloc (.loop rec0)) C' σ3 w' → VR C' rv rx →
                rangePost (Fw none) n P (w.heap.size + 1) Q a1 (.returned rx) w' := by
              intro st pend m t ps' asg' body' hg hst hpend C' w' rx hn3 _
              have hy := VR.ext hn3.ext _ _ hyld
              obtain ⟨hc0, hmu, rr, hrr, hrs, hrp, _⟩ := loop_at hn3.rel hy hg
              have hpok : pend ≠ some .skip := by
                intro e'
                subst e'
                have : (bad "pending" : CR) = some (x, fr', σ') := hpend
                simp [bad] at this
              have hput := loop_put hn3.rel hy hg hrr .exhausted pend hpok
              have hend : (Instr.endLoop (w.heap.size + 1)).run P w' = .ok pend (w'.putObj (w.heap.size + 1) (.loop { rr with state := .exhausted, pending := pend })) := by
                have hne : ¬ (rr.state == LoopState.busy) = true := by rw [hrs]; cases st <;> first | exact absurd rfl hst | decide
                have : (setObj (w.heap.size + 1) (.loop { rr with state := .exhausted, pending := pend })).run P w' = .ok () (w'.putObj (w.heap.size + 1) (.loop { rr with state := .exhausted, pending := pend })) := by
                  exact run_setObj_loop _ hrr
                simp only [Instr.endLoop, Sem.run_bind, run_getLoop hrr, Result.andThen_ok, if_neg hne, this, Sem.run_pure, hrp]
              have hnall := (hn12.trans hn3).trans hput
              have hFR : FR C' { fr with dfs := r :: fr.dfs } a1 := by
                have hF3 := hF.ext (hn12.trans hn3).ext
                refine ⟨hF3.tr, hF3.n, _, _, rfl, ?_, ?_, hF3.df⟩
                · exact Past.ext ⟨0, by simp [Cx.upd], Nat.le_refl _⟩ (hn2.trans hn3).ext
                · intro hcr
                  have hp : Past (C.upd r w.heap.size 0 0) r 0 := ⟨0, by simp [Cx.upd], Nat.le_refl _⟩
                  obtain ⟨_, hm⟩ := hp.here (hn2.trans hn3).ext hcr
                  rw [hm]; simp [Cx.upd]
              refine ⟨pend, _, hend, ?_⟩
              unfold pendC at hpend
              split at hpend
              · cases hpend
                exact hQ C' _ a1 hnall hFR
              · cases hpend
                exact wpIn_ret (hQ C' _ a1 hnall hFR)
              · cases hpend
                exact wpIn_exit (hQ C' _ a1 hnall hFR)
              · simp [bad] at hpend
            have hfin : ∀ C' w' rx, Nx ok ((C.upd r w.heap.size 0 0).upd l (w.alloc (.deferred (some []))).heap.size 0 0) σ2 ((w.alloc (.deferred (some []))).alloc (.loop rec0)) C' σ3 w' → VR C' rv rx →
                rangePost (Fw none) n P (w.heap.size + 1) Q a1 (.returned rx) w' := by
              split at h
              · rename_i hg
                exact hlast _ _ _ _ _ _ _ hg (by decide) h
              · rename_i hg
                exact hlast _ _ _ _ _ _ _ hg (by decide) h
              · simp [bad] at h
            rcases he.call hcall (n := n - 1) (K := fun rx w' => rangePost (Fw none) n P (w.heap.size + 1) Q a1 (.returned rx) w') hn12.rel (okLater hok hn12) hargs hfin with ⟨hno, _⟩ | ⟨hrun, hc⟩
            · have : noYld (first ++ [.yld l] ++ cap) = false := by simp [noYld]
              rw [this] at hno; cases hno
            · refine ⟨w.heap.size + 1, _, _, { target := .fn (.func g) v, args := u ++ #[Value.func (.yield (w.heap.size + 1)) #[] #[]] }, (w.alloc (.deferred (some []))).alloc (.loop rec0), g, _, (w.alloc (.deferred (some []))).alloc (.loop rec0), run_enterLoop_outer fn a.tmps ps asg body, ?_, fun _ _ => trivial, ?_, fun hd => (by cases hd), callsIn_Fw (CallsIn.mono hc fun en w' hq => ?_)⟩
              · simp only [resolve, hfv, Deferred.ofValue, Sem.run_pure]
                simp [Act.eval]
                rfl
              · exact hrun
              · cases en with
                | returned y => exact hq
                | panicked c => exact hq.elim
                | outgrown => exact hq.elim
          · cases h
        · cases h
      · cases h
    · simp [bad] at h
  case exit id =>
    have h : (some (.exit id, fr, σ) : CR) = some (x, fr', σ') := h
    cases h
    exact wpIn_exit (hQ C w a (Nx.refl hR) hF)
  case ret =>
    have h : (some (.ret, fr, σ) : CR) = some (x, fr', σ') := h
    cases h
    exact wpIn_ret (hQ C w a (Nx.refl hR) hF)
  all_goals
    have h : (bad "code" : CR) = some (x, fr', σ') := h
    simp [bad] at h
end
end Go.Ab
