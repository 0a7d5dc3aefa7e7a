/- Regions that draw their order: joined. The evaluator's word is true of the model. -/
import Derived.Test.YtmchghdmejbblaaGreatDoorAk
set_option linter.unusedSimpArgs false
set_option linter.unusedVariables false
namespace Go.Ab

theorem evAllocs_frame {T : Tb} {e : Ev} {ops : Array Oper} : ∀ {al : List (Nat × Oper)} {fr fr' : Fr} {σ σ' : St}, evAllocs T e ops al fr σ = some (fr', σ') → fr'.ro = fr.ro
  | [], fr, fr', σ, σ', h => by
    simp only [evAllocs, Option.some.injEq, Prod.mk.injEq] at h
    rw [h.1]
  | p :: al, fr, fr', σ, σ', h => by
    simp only [evAllocs] at h
    split at h
    · split at h
      · rename_i fr1 hp
        rw [evAllocs_frame h, (put_at hp).2.2.2]
      · cases h
    · cases h
theorem evPlan_frame {T : Tb} {e : Ev} {ops : Array Oper} : ∀ {rs : List (Nat × Oper)} {fr fr' : Fr} {hist hist' : List St} {lv : List (Nat × Nat)}, evPlan T e ops rs fr hist lv = some (fr', hist') → fr'.ro = fr.ro
  | [], fr, fr', hist, hist', lv, h => by
    simp only [evPlan, Option.some.injEq, Prod.mk.injEq] at h
    rw [h.1]
  | p :: rs, fr, fr', hist, hist', lv, h => by
    cases hist with
    | nil => simp [evPlan] at h
    | cons σ past =>
      simp only [evPlan] at h
      split at h
      · cases h
      · split at h
        · cases h
        · rename_i fr1 hp
          have e1 := (put_at hp).2.2.2
          split at h
          · split at h
            · rw [evPlan_frame h, e1]
            · simp [bad] at h
          · split at h
            · rw [evPlan_frame h, e1]
            · simp [bad] at h

theorem lastOf_some {r : Option (Fr × List St)} {fr : Fr} {σ : St} (h : lastOf r = some (fr, σ)) : ∃ past, r = some (fr, σ :: past) := by
  unfold lastOf at h
  split at h
  · cases h; exact ⟨_, rfl⟩
  · cases h

theorem evDraw_parts {T : Tb} {e : Ev} {ops : Array Oper} {fr fr' : Fr} {σ σ' : St} (h : evDraw T e ops fr σ = some (fr', σ')) :
    drawOk ops (allocsOf ops) (restOf ops) = true ∧ ∃ fr1 σ1 past, evAllocs T e ops (allocsOf ops) fr σ = some (fr1, σ1) ∧ evPlan T e ops (restOf ops) fr1 [σ1] [] = some (fr', σ' :: past) := by
  unfold evDraw at h
  split at h
  · rename_i hd
    unfold evRest at h
    split at h
    · rename_i fr1 σ1 ha
      obtain ⟨past, hp⟩ := lastOf_some h
      exact ⟨hd, fr1, σ1, past, ha, hp⟩
    · cases h
  · simp [bad] at h

theorem draw_ok {P : Program} {T : Tb} (hP : TbOk P T) (hm : P.follows .mixedOrders = true) (e : Ev) (he : Sound P e) : DrawOk P T e := by
  refine ⟨fun {ops fr σ fr' σ'} h => ?_, fun {ops fr0 σ0 fr' σ'} h {ok C0 w0 a ro n id Q} hR hok hF hQ => ?_⟩
  · obtain ⟨_, fr1, σ1, past, h1, h2⟩ := evDraw_parts h
    rw [evPlan_frame h2, evAllocs_frame h1]
  · obtain ⟨hd, fr1, σ1, past, h1, h2⟩ := evDraw_parts h
    unfold drawOk at hd
    simp only [Bool.and_eq_true] at hd
    obtain ⟨⟨⟨⟨hheld, hpairs⟩, hg⟩, hcov⟩, hedge⟩ := hd
    rw [List.all_eq_true] at hg hcov hedge
    have hal : ∀ p ∈ allocsOf ops, kindOf p.2 = 1 ∧ p.2.guard = none := fun p hp => by
      have hpf := List.mem_filter.1 hp
      refine ⟨Nat.eq_of_beq_eq_true hpf.2, ?_⟩
      have := hg p hp
      simpa using this
    have hR1 : R ok C0 σ0 w0.drew := hR.drew rfl
    obtain ⟨al, q1, q2, q3, q4, q5, q6, q7⟩ := evAllocs_ok h1 hal hR1
    obtain ⟨more, rs, r1, r2, r3, r4⟩ := evPlan_ok (B := []) h2 (by simp) (fun j => .inl rfl)
    let hist' := σ' :: past
    let σs : Nat → St := fun k => (hist'.reverse[k]?).getD σ0
    have hσs : ∀ k s, hist'.reverse[k]? = some s → σs k = s := fun k s hs => by show (hist'.reverse[k]?).getD σ0 = s; rw [hs]; rfl
    have hrun := r4 σs hσs
    have h0 : σs 0 = σ1 := hσs 0 σ1 (by
      show (σ' :: past).reverse[0]? = some σ1
      rw [r1]
      exact rev_here more [] σ1)
    have hK : σs (hist'.length - 1) = σ' := hσs _ σ' (by
      show (σ' :: past).reverse[(σ' :: past).length - 1]? = some σ'
      simp)
    have hmap : (al ++ rs).map It.io = allocsOf ops ++ restOf ops := by rw [List.map_append, q1, r2]
    have hin : ∀ p ∈ allocsOf ops ++ restOf ops, ops[p.1]? = some p.2 := fun p hp => by
      have hnum : ∀ p ∈ number 0 ops.toList, ops[p.1]? = some p.2 := fun p hp => by
        have := (number_mem hp).2
        simpa using this
      rcases List.mem_append.1 hp with hp | hp
      · exact hnum p (List.mem_filter.1 hp).1
      · rcases segs_mem hp with hp | hp
        · exact hnum p hp
        · exact hnum p (List.mem_filter.1 hp).1
    have hplan : PlanOk P T e ops σs σ0 al rs fr0 fr1 fr' (hist'.length - 1) := by
      refine ⟨fun m hm' => ?_, fun j hj => ?_, fun j o ho e' he' hb => ?_, ?_, by rw [r2]; exact hheld, q5, hrun, fun m hm' hk => ?_, q7, fun b hb => (q6 b hb).2.1⟩
      · exact hin m.io (by rw [← hmap]; exact List.mem_map_of_mem hm')
      · have := hcov j (List.mem_range.2 hj)
        obtain ⟨p, hp, hpj⟩ := List.any_eq_true.1 this
        rw [← hmap] at hp
        obtain ⟨m, hm', rfl⟩ := List.mem_map.1 hp
        exact ⟨m, hm', Nat.eq_of_beq_eq_true hpj⟩
      · have hnum : (0 + j, o) ∈ number 0 ops.toList := number_of (by simpa using ho)
        have := hedge _ hnum
        rw [List.all_eq_true] at this
        have := this e' he'
        rw [hb] at this
        simpa using this
      · have := pairs_pw hpairs
        rw [← hmap, List.pairwise_map] at this
        exact this
      · have := r3 m hm' hk
        simpa using this
    have hinv : DInv T ops σs σ0 al rs fr0 (hist'.length - 1) ok C0 w0.drew (Array.replicate ops.size false) C0 a w0.drew 0 fr0 := by
      have hS : ∀ j, (Array.replicate ops.size false).getD j false = false := fun j => by
        rw [Array.getD_eq_getD_getElem?, Array.getElem?_replicate]
        split <;> rfl
      refine ⟨by simp, Nat.zero_le _, ⟨by rw [h0]; exact q2, Ext.refl _, Same.refl _ _, fun id hid hc => ⟨by rw [h0]; exact q4 id hid, hc⟩, by rw [h0]; exact q3⟩, ?_, hF, fun j o _ h => ?_, fun m hm' _ => ?_, fun m hm' _ h => ?_, fun m hm' _ => ?_⟩
      · exact (Agree.none (al ++ rs) fr0).congr fun m _ => (hS m.i).symm
      · rw [hS] at h; cases h
      · rw [hS]
        exact ⟨(fun h => by cases h), (fun h => by omega)⟩
      · rw [hS] at h; cases h
      · rw [h0]
        exact ⟨(q6 m hm').2.2, (q6 m hm').1⟩
    refine wpIn_region_any hm ?_
    refine draw_all hP he hplan (w0 := w0.drew) hok (fun C' w' a' hn hF' => ?_) ops.size (List.range ops.size) (Array.replicate ops.size false) C0 a w0.drew 0 fr0 (by simp) List.nodup_range (fun j => ?_) hinv
    · rw [hK] at hn
      exact hQ C' w' a' ⟨hn.rel, hn.ext, (Nx.drew hR).same.trans hn.same, hn.un, hn.mono⟩ hF'
    · rw [List.mem_range, Array.getD_eq_getD_getElem?, Array.getElem?_replicate]
      constructor
      · intro hj; exact ⟨hj, by split <;> rfl⟩
      · exact fun h => h.1

/-- **The evaluator's word is true of the model.** -/
theorem sound {P : Program} {T : Tb} (hP : TbOk P T) (hm : P.follows .mixedOrders = true) {G : Tr Func} (hG : ∀ f fn, G.get f = some fn → P.funcs[f]? = some fn) {ext : FuncId → Option (List AV → Option AV)} (hE : ExtOk P ext) (k : Nat) : Sound P (ev T G ext k) :=
  sound_all hP hG hE (fun e he => draw_ok hP hm e he) k
end Go.Ab
