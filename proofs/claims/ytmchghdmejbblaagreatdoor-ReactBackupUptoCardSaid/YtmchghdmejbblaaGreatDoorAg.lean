/- The evaluator and the model: calls, rounds, and the induction over the fuel. -/
import Derived.Test.YtmchghdmejbblaaGreatDoorAf
set_option linter.unusedSimpArgs false
set_option linter.unusedVariables false
namespace Go.Ab

theorem run_callFunc {P : Program} {f : FuncId} {fn : Func} {c : Code} (hf : P.funcs[f]? = some fn) (hb : fn.body = some c) (hn : (fn.name == "runtime.NumGoroutine") = false) (xs : Array Value) (w : World) :
    (callFunc f xs).run P w = .ok (.enter f xs) w := by
  simp only [callFunc, Sem.run_bind, run_program, Result.andThen_ok, hf, hn, hb, Option.isNone_some, Bool.false_eq_true, if_false, Sem.run_pure]

section
variable {P : Program} {T : Tb} (hP : TbOk P T) {G : Tr Func} (hG : ∀ f fn, G.get f = some fn → P.funcs[f]? = some fn) {ext : FuncId → Option (List AV → Option AV)} (hE : ExtOk P ext)

include hP hG hE in
theorem call_step {e : Ev} (he : Sound P e) {f : FuncId} {args : List AV} {σ σ' : St} {v : AV} (h : callC T ext e f args σ (G.get f) = some (v, σ')) {ok : Nat → Prop} {C : Cx} {w : World} {xs : Array Value} {n : Nat} {K : Value → World → Prop}
    (hR : R ok C σ w) (hok : ∀ b, w.heap.size ≤ b → ok b) (hx : VRs C args xs.toList) (hK : ∀ C' w' x, Nx ok C σ w C' σ' w' → VR C' v x → K x w') :
    (noYld args = true ∧ ∃ x w', (callFunc f xs).run P w = .ok (.value x) w' ∧ K x w') ∨ ((callFunc f xs).run P w = .ok (.enter f xs) w ∧ CallsIn Fence.wide n P f xs w (Ret K)) := by
  unfold callC at h
  split at h
  · simp [bad] at h
  · rename_i fn hfn
    have hf := hG f fn hfn
    unfold funcC at h
    split at h
    · rename_i hb
      unfold extC at h
      split at h
      · rename_i g hg
        split at h
        · rename_i u hu
          cases h
          obtain ⟨h1, h2⟩ := hE f g args _ hg hu
          obtain ⟨x, h3, h4⟩ := h2 C xs w hx
          exact .inl ⟨h1, x, w, h3, hK C w x (Nx.refl hR) h4⟩
        · cases h
      · simp [bad] at h
    · rename_i c hb
      unfold bodyC at h
      split at h
      · rename_i hname hlen
        have hlen := Nat.le_of_ble_eq_true hlen
        refine .inr ⟨run_callFunc hf hb hname xs w, callsIn_of_wp_marks hf hb trivial ?_⟩
        have hen := enter_ok hx hlen fn.ntmps none
        have fin : ∀ (fr : Fr) (σ1 : St), leave T fn fr (takeDefs fr.dfs σ1) = some (v, σ') → ∀ C' w' a', Nx ok C σ w C' σ1 w' → FR C' fr a' → LeavesInM Fence.wide n P fn a'.tmps (Ret K) a'.defers .returning w' := by
          intro fr σ1 hl C' w' a' hn hF
          cases htd : takeDefs fr.dfs σ1 with
          | none => rw [htd] at hl; simp [leave] at hl
          | some σ2 =>
            rw [htd] at hl
            refine leavesM_ok htd hn.rel hF.df fun w2 hn2 => ?_
            obtain ⟨rfl, x, hr, hv⟩ := leave_ok (P := P) hP hn2.rel hF.tr hl
            exact ⟨x, hr, hK C' w2 x (hn.trans hn2) hv⟩
        unfold endCall at h
        split at h
        · rename_i fr σ1 hc
          exact he.code hc hR hok hen (fun _ => rfl) fun C' w' a' hn hF => fin fr σ1 h C' w' a' hn hF
        · rename_i fr σ1 hc
          exact he.code hc hR hok hen (fun _ => rfl) fun C' w' a' hn hF => fin fr σ1 h C' w' a' hn hF
        · simp [bad] at h
      · simp [bad] at h

theorem run_endRound {P : Program} {w : World} {b : Nat} {r : Loop} (h : w.heap[b]? = some (.loop r)) (jump : Option Code) :
    (Instr.endRound b jump).run P w = .ok (.bool jump.isNone) (w.putObj b (.loop { r with state := if jump.isNone then .ready else .done, pending := jump })) := by
  simp only [Instr.endRound, Sem.run_bind, run_getLoop h, Result.andThen_ok, run_setObj_loop _ h, Sem.run_pure]
theorem run_beginRound {P : Program} {w : World} {b : Nat} {r : Loop} (h : w.heap[b]? = some (.loop r)) (hs : r.state = .ready) :
    (Instr.beginRound b).run P w = .ok () (w.putObj b (.loop { r with state := .busy })) := by
  simp only [Instr.beginRound, Sem.run_bind, run_getLoop h, Result.andThen_ok, run_setObj_loop _ h, hs, Sem.run_pure]

theorem round_step {e : Ev} (he : Sound P e) {l : Nat} {args : List AV} {σ σ' : St} {v : AV} (h : roundC e l args σ (σ.get l) = some (v, σ')) {ok : Nat → Prop} {C : Cx} {w : World} {b : Nat} {xs : Array Value} {n : Nat} {K : Value → World → Prop}
    (hR : R ok C σ w) (hok : ∀ b, w.heap.size ≤ b → ok b) (hy : VR C (.yld l) (.func (.yield b) #[] #[])) (hx : VRs C args xs.toList) (hK : ∀ C' w' x, Nx ok C σ w C' σ' w' → VR C' v x → K x w') :
    ∃ g tmps asg body, (Instr.yield b xs).run P w = .ok (.round b g tmps asg body) w ∧ RoundIn Fence.wide n P b g tmps asg body w (Ret K) := by
  unfold roundC at h
  split at h
  · rename_i m t ps asg body hg
    obtain ⟨hc0, hmu, r, hr, hrs, hrp, hrn, hrt, hrps, hra, hrb⟩ := loop_at hR hy hg
    split at h
    · rename_i t' hlen ht'
      have hlen := Nat.eq_of_beq_eq_true hlen
      have hxl := hx.length
      simp only [Array.length_toList] at hxl
      have hsz : xs.size = r.params.size := by rw [hrps]; omega
      refine ⟨r.fn, _, _, _, run_yield hr hsz, roundIn_of_wpIn trivial ?_⟩
      rw [hra, hrb]
      have hpar := setParams_ok (xs := ps.toList.zip xs.toList) ht' hrt hrn (zip_map1 ps.toList args xs.toList hx.length.symm) (by
        rw [zip_map2 ps.toList args (by simp only [Array.length_toList]; omega), zip_map2 ps.toList xs.toList (by simp only [Array.length_toList]; omega)]
        exact hx)
      have hfold : (r.params.zip xs).foldl (fun tmps (t, a) => tmps.setIfInBounds t a) r.tmps = (ps.toList.zip xs.toList).foldl (fun tmps p => tmps.setIfInBounds p.1 p.2) r.tmps := by
        rw [← Array.foldl_toList, Array.toList_zip, hrps]
      rw [hfold]
      split at h
      · rename_i fr σ1 hasg
        split at h
        · rename_i hdfs
          refine he.code hasg (ro := some b) hR hok ⟨hpar.1, hpar.2, rfl⟩ (fun hh => by cases hh) fun C1 w1 a1 hn1 hF1 => ?_
          have hy1 := VR.ext hn1.ext _ _ hy
          unfold beginBody at h
          split at h
          · rename_i p2 n2 t2 ps2 asg2 body2 hg2
            obtain ⟨_, _, r2, hr2, hrs2, hrp2, _⟩ := loop_at hn1.rel hy1 hg2
            have hput := loop_put hn1.rel hy1 hg2 hr2 .busy p2 (by
              obtain ⟨hc2, hmu2, _⟩ := loop_at hn1.rel hy1 hg2
              obtain ⟨_, h2, _⟩ := hn1.rel.obj l _ 0 hg2 hc2
              obtain ⟨_, _, _, _, _, _, _, _, _, hp⟩ := h2
              exact hp)
            have hbusy : ({ r2 with state := LoopState.busy } : Loop) = { r2 with state := .busy, pending := p2 } := by rw [← hrp2]
            refine ⟨_, run_beginRound hr2 hrs2, ?_⟩
            rw [hbusy]
            have hn2 := hn1.trans hput
            have hF2 : FR C1 fr a1 := hF1
            have hro1 : fr.ro = some l := he.ro hasg
            unfold endBody at h
            split at h
            · rename_i x fr3 σ3 hbody
              refine he.code hbody (ro := some b) hput.rel (okLater hok hn2) hF2 (fun hh => by rw [hro1] at hh; cases hh) fun C3 w3 a3 hn3 hF3 => ?_
              have hy3 := VR.ext hn3.ext _ _ hy1
              unfold endRound at h
              split at h
              · rename_i pp n4 t4 ps4 asg4 body4 hdfs3 hg4
                obtain ⟨_, _, r4, hr4, _⟩ := loop_at hn3.rel hy3 hg4
                have hn123 := hn2.trans hn3
                split at h
                · cases h
                  exact ⟨_, _, run_endRound hr4 none, hK C3 _ _ (hn123.trans (loop_put hn3.rel hy3 hg4 hr4 .ready none (by simp))) rfl⟩
                · cases h
                  exact ⟨_, _, run_endRound hr4 (some .ret), hK C3 _ _ (hn123.trans (loop_put hn3.rel hy3 hg4 hr4 .done (some .ret) (by simp))) rfl⟩
                · rename_i id
                  cases h
                  exact ⟨_, _, run_endRound hr4 (some (.exit id)), hK C3 _ _ (hn123.trans (loop_put hn3.rel hy3 hg4 hr4 .done (some (.exit id)) (by simp))) rfl⟩
              · simp [bad] at h
            · cases h
          · simp [bad] at h
        · simp [bad] at h
      · simp [bad] at h
    · simp [bad] at h
  · simp [bad] at h

include hP hG hE in
/-- **The evaluator's word is true of the model**, regions that draw granted. -/
theorem sound_all (hD : ∀ e, Sound P e → DrawOk P T e) : ∀ k, Sound P (ev T G ext k) := by
  intro k
  induction k using Nat.strongRecOn with
  | _ k ih =>
    cases k with
    | zero =>
      refine ⟨fun {c fr σ x fr' σ'} h => ?_, fun {c fr σ x fr' σ'} h => ?_, fun {f args σ v σ'} h => ?_, fun {l args σ v σ'} h => ?_⟩
      · have h : (bad "no fuel" : CR) = some (x, fr', σ') := h
        simp [bad] at h
      · have h : (bad "no fuel" : CR) = some (x, fr', σ') := h
        simp [bad] at h
      · have h : (bad "no fuel" : Option (AV × St)) = some (v, σ') := h
        simp [bad] at h
      · have h : (bad "no fuel" : Option (AV × St)) = some (v, σ') := h
        simp [bad] at h
    | succ k =>
      have he := ih k (Nat.lt_succ_self k)
      have hd := hD _ he
      have hro : ∀ {c fr σ x fr' σ'}, (ev T G ext (k + 1)).code c fr σ = some (x, fr', σ') → fr'.ro = fr.ro := fun {c fr σ x fr' σ'} h => code_ro (T := T) he.ro hd.ro (c := c) h
      refine ⟨hro, fun {c fr σ x fr' σ'} h {ok C w a ro n Q} hR hok hF hro' hQ => ?_, fun {f args σ v σ'} h {ok C w xs n K} hR hok hx hK => ?_, fun {l args σ v σ'} h {ok C w b xs n K} hR hok hy hx hK => ?_⟩
      · by_cases hc : ∀ b, c ≠ .loop b
        · exact code_flat hP he hd hc h hR hok hF hro' hQ
        · obtain ⟨b, rfl⟩ : ∃ b, c = .loop b := by
            cases c <;> first | exact ⟨_, rfl⟩ | exact absurd (fun b e => by cases e) hc
          refine wpIn_loop_nat (fun j a' w' => j ≤ k + 1 ∧ ∃ C' fr1 σ1, (ev T G ext j).code (.loop b) fr1 σ1 = some (x, fr', σ') ∧ Nx ok C σ w C' σ1 w' ∧ FR C' fr1 a' ∧ fr1.ro = fr.ro) (j := k + 1) ⟨Nat.le_refl _, C, fr, σ, h, Nx.refl hR, hF, rfl⟩ ?_
          intro j a' w' hI
          obtain ⟨hj, C', fr1, σ1, h1, hn, hF1, hr1⟩ := hI
          cases j with
          | zero =>
            have h1 : (bad "no fuel" : CR) = some (x, fr', σ') := h1
            simp [bad] at h1
          | succ i =>
            have hi := ih i (by omega)
            have h1 : thenC (fun fr σ => (ev T G ext i).code (.loop b) fr σ) ((ev T G ext i).code b fr1 σ1) = some (x, fr', σ') := h1
            rcases thenC_cases h1 with ⟨fr2, σ2, h2, h3⟩ | ⟨h2, hx⟩
            · refine hi.code h2 hn.rel (okLater hok hn) hF1 (by rw [hr1]; exact hro') fun C2 w2 a2 hn2 hF2 => ?_
              exact ⟨i, Nat.lt_succ_self i, by omega, C2, fr2, σ2, h3, hn.trans hn2, hF2, by rw [hi.ro h2, hr1]⟩
            · refine hi.code h2 hn.rel (okLater hok hn) hF1 (by rw [hr1]; exact hro') fun C2 w2 a2 hn2 hF2 => ?_
              exact then_exit hx (hQ C2 w2 a2 (hn.trans hn2) hF2)
      · exact call_step hP hG hE he h hR hok hx hK
      · exact round_step he h hR hok hy hx hK
end
end Go.Ab
