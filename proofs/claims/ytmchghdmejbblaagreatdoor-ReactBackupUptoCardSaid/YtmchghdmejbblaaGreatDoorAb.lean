/- One operation of the evaluator, and the model's. -/
import Derived.Test.YtmchghdmejbblaaGreatDoorAa
set_option linter.unusedSimpArgs false
set_option linter.unusedVariables false
namespace Go.Ab

/-- What an operation of the evaluator says of the model's run. -/
def Said (P : Program) (ok : Nat → Prop) (C : Cx) (σ : St) (w : World) (σ' : St) (r : Result Next) : AN → Prop
  | .val v => ∃ C' w', Nx ok C σ w C' σ' w' ∧ ((∃ x, r = .ok (.value x) w' ∧ VR C' v x) ∨ (r = .ok .skip w' ∧ v = .tup []))
  | .enter f args => σ' = σ ∧ ∃ xs, r = (callFunc f xs).run P w ∧ VRs C args xs.toList
  | .round l args => σ' = σ ∧ ∃ b xs, VR C (.yld l) (.func (.yield b) #[] #[]) ∧ r = (Instr.yield b xs).run P w ∧ VRs C args xs.toList

section
variable {P : Program} {T : Tb} {ok : Nat → Prop} {C : Cx} {σ σ' : St} {w : World} {n : AN} {r : Result Next}

theorem said_val {v : AV} {x : Value} (hR : R ok C σ w) (hx : VR C v x) : Said P ok C σ w σ (.ok (.value x) w) (.val v) := ⟨C, w, Nx.refl hR, .inl ⟨x, rfl, hx⟩⟩

/-- A value reckoned, nothing written. -/
theorem said_val1 {s : Sem Value} {o : Option AV} (hR : R ok C σ w) (h : val1 σ o = some (n, σ')) (hs : ∀ v, o = some v → ∃ x, s.run P w = .ok x w ∧ VR C v x) (hr : r = (s.run P w).andThen fun v w' => .ok (.value v) w') :
    Said P ok C σ w σ' r n := by
  unfold val1 at h
  split at h
  · rename_i v
    cases h
    obtain ⟨x, hx, hv⟩ := hs v rfl
    rw [hr, hx]
    exact said_val hR hv
  · cases h
theorem said_val2 {s : Sem Value} {o : Option (AV × St)} (h : val2 o = some (n, σ')) (hs : ∀ v σ', o = some (v, σ') → ∃ C' w' x, s.run P w = .ok x w' ∧ Nx ok C σ w C' σ' w' ∧ VR C' v x) (hr : r = (s.run P w).andThen fun v w' => .ok (.value v) w') :
    Said P ok C σ w σ' r n := by
  unfold val2 at h
  split at h
  · rename_i v σ1
    cases h
    obtain ⟨C', w', x, hx, hn, hv⟩ := hs v _ rfl
    rw [hr, hx]
    exact ⟨C', w', hn, .inl ⟨x, rfl, hv⟩⟩
  · cases h
theorem said_unit {s : Sem Unit} {o : Option St} (h : unit1 o = some (n, σ')) (hs : ∀ σ', o = some σ' → ∃ w', s.run P w = .ok () w' ∧ Nx ok C σ w C σ' w') (hr : r = (s.run P w).andThen fun _ w' => .ok .skip w') :
    Said P ok C σ w σ' r n := by
  unfold unit1 at h
  split at h
  · rename_i σ1
    cases h
    obtain ⟨w', hx, hn⟩ := hs _ rfl
    rw [hr, hx]
    exact ⟨C, w', hn, .inr ⟨rfl, rfl⟩⟩
  · cases h
theorem one1_ok {fr : Fr} {a : Act} {x : Operand} {k : AV → Option (AN × St)} (ht : TR C fr.tmps a.tmps) (h : one1 fr x k = some (n, σ')) : ∃ v, VR C v (a.eval x) ∧ k v = some (n, σ') := by
  unfold one1 at h
  split at h
  · rename_i v hv
    exact ⟨v, evO_ok hv ht, h⟩
  · cases h
theorem evM_ok {fr : Fr} {a : Act} {x : Option Operand} {v : Option AV} (ht : TR C fr.tmps a.tmps) (h : evM fr x = some v) : OVR C v (x.map a.eval) := by
  unfold evM at h
  split at h
  · cases h; simp [OVR]
  · split at h
    · rename_i u hu
      cases h
      simpa [OVR] using evO_ok hu ht
    · cases h

theorem run_vbind (s : Sem Value) : (do pure (.value (← s)) : Sem Next).run P w = (s.run P w).andThen fun v w' => .ok (.value v) w' := by
  simp only [Sem.run_bind, Sem.run_pure]
theorem run_ubind (s : Sem Unit) : (do s; pure .skip : Sem Next).run P w = (s.run P w).andThen fun _ w' => .ok .skip w' := by
  simp only [Sem.run_bind, Sem.run_pure]

theorem callArgs_ok {f : AV} {args : List AV} {u : Value} {xs : Array Value} (h : callArgs f args = some n) (hf : VR C f u) (hx : VRs C args xs.toList) :
    Said P ok C σ w σ ((do let d ← Deferred.ofValue u xs; invoke d.target d.args : Sem Next).run P w) n := by
  unfold callArgs at h
  split at h
  · rename_i g first cap
    cases h
    obtain ⟨x, y, rfl, h1, h2⟩ := hf
    refine ⟨rfl, x ++ xs ++ y, ?_, ?_⟩
    · simp only [Deferred.ofValue, Sem.run_bind, Sem.run_pure, Result.andThen_ok, invoke]
    · rw [Array.toList_append, Array.toList_append]
      exact VRs.append (VRs.append h1 hx) h2
  · rename_i l
    cases h
    obtain ⟨b, rfl, hp, hb⟩ := hf
    refine ⟨rfl, b, xs, ⟨b, rfl, hp, hb⟩, ?_, hx⟩
    simp only [Deferred.ofValue, Sem.run_bind, Sem.run_pure, Result.andThen_ok, invoke]
    rw [Array.empty_append]
  · simp [bad] at h
end

theorem aop_defer {T : Tb} {fr : Fr} {o : Oper} {σ : St} {r : AN × St} (h : aop T fr o σ = some r) (c : Call) : o.op ≠ .defer c := by
  intro hc
  unfold aop at h
  rw [hc] at h
  change (bad "operation" : Option (AN × St)) = some r at h
  simp [bad] at h

theorem aop_sound {P : Program} {T : Tb} (hP : TbOk P T) {ok : Nat → Prop} {C : Cx} {σ σ' : St} {w : World} (hR : R ok C σ w) (hok : ∀ b, w.heap.size ≤ b → ok b) {fr : Fr} {a : Act} (ht : TR C fr.tmps a.tmps) {o : Oper} {n : AN}
    (h : aop T fr o σ = some (n, σ')) : Said P ok C σ w σ' ((execOp a.eval o).run P w) n := by
  unfold aop at h
  generalize he : execOp a.eval o = s
  cases hop : o.op <;> rw [hop] at h <;> simp only [execOp, hop] at he <;> subst he
  case move x =>
    change val1 σ (evO fr x) = _ at h
    exact said_val1 (s := pure (a.eval x)) hR h (fun v hv => ⟨_, rfl, evO_ok hv ht⟩) rfl
  case assign x =>
    change val1 σ (evO fr x) = _ at h
    exact said_val1 (s := pure (a.eval x)) hR h (fun v hv => ⟨_, rfl, evO_ok hv ht⟩) rfl
  case pick c x y =>
    change one1 fr c (fun c => one1 fr x fun a => one1 fr y fun b => opPick a b σ c) = _ at h
    obtain ⟨cv, hc, h⟩ := one1_ok ht h
    obtain ⟨xv, hx, h⟩ := one1_ok ht h
    obtain ⟨yv, hy, h⟩ := one1_ok ht h
    unfold opPick at h
    split at h
    · cases h
      have hc : a.eval c = .bool true := hc
      simp only [hc, asBool, Sem.run_bind, Sem.run_pure, Result.andThen_ok, if_true]
      exact said_val hR hx
    · cases h
      have hc : a.eval c = .bool false := hc
      simp only [hc, asBool, Sem.run_bind, Sem.run_pure, Result.andThen_ok, Bool.false_eq_true, if_false]
      exact said_val hR hy
    · simp [bad] at h
  case alloc e =>
    change opAlloc T e σ = _ at h
    unfold opAlloc at h
    split at h
    · rename_i z hz
      obtain ⟨zv, hzr, hzo⟩ := run_zero hP hz w
      obtain ⟨_, hzc, _⟩ := ofV_ok (C := C) hzo
      obtain ⟨C', w', v, r, rfl, hr, hn, hv⟩ := newVar_ok (P := P) hR hok h hzc e
      refine ⟨C', w', hn, .inl ⟨_, ?_, hv⟩⟩
      simp only [run_vbind, Instr.alloc, Sem.run_bind, hzr, Result.andThen_ok, hr, Sem.run_pure]
    · simp [bad] at h
  case box e x =>
    change one1 fr x (fun v => opNew v.cells σ) = _ at h
    obtain ⟨xv, hx, h⟩ := one1_ok ht h
    obtain ⟨C', w', v, r, rfl, hr, hn, hv⟩ := newVar_ok (P := P) hR hok h hx.cells e
    refine ⟨C', w', hn, .inl ⟨_, ?_, hv⟩⟩
    simp only [run_vbind, Instr.box, Sem.run_bind, Result.andThen_ok, hr, Sem.run_pure]
  case build t parts =>
    change opBuild T t σ (evParts fr parts.toList) = _ at h
    unfold opBuild at h
    split at h
    · rename_i l hl
      obtain ⟨h1, h2⟩ := evParts_ok ht hl
      exact said_val1 (P := P) hR h (fun v hv => build_ok hP hv w (by simpa using h1) (by simpa using h2)) (run_vbind _)
    · cases h
  case buildSlice t len parts =>
    change opBuildSlice T t len σ (evParts fr parts.toList) = _ at h
    unfold opBuildSlice at h
    split at h
    · rename_i l hl
      obtain ⟨h1, h2⟩ := evParts_ok ht hl
      exact said_val2 (P := P) h (fun v σ1 hv => buildSlice_ok hP hR hok hv (by simpa using h1) (by simpa using h2)) (run_vbind _)
    · cases h
  case insert t m k x =>
    change one1 fr m (fun m => one1 fr k fun k => one1 fr x fun x => unit1 (updateA T t m k x σ)) = _ at h
    obtain ⟨mv, hm, h⟩ := one1_ok ht h
    obtain ⟨kv, hk, h⟩ := one1_ok ht h
    obtain ⟨xv, hx, h⟩ := one1_ok ht h
    exact said_unit (P := P) h (fun σ1 hv => update_ok hP hR hv hm hk hx) (run_ubind _)
  case load t x =>
    change one1 fr x (fun v => val1 σ (loadA T t v σ)) = _ at h
    obtain ⟨xv, hx, h⟩ := one1_ok ht h
    exact said_val1 (P := P) hR h (fun v hv => load_ok hP hR hv hx) (run_vbind _)
  case store t x y =>
    change one1 fr x (fun v => one1 fr y fun x => unit1 (storeA T t v x σ)) = _ at h
    obtain ⟨xv, hx, h⟩ := one1_ok ht h
    obtain ⟨yv, hy, h⟩ := one1_ok ht h
    exact said_unit (P := P) h (fun σ1 hv => store_ok hP hR hv hx hy) (run_ubind _)
  case nilCheck x =>
    change one1 fr x (fun v => opNil σ v) = _ at h
    obtain ⟨xv, hx, h⟩ := one1_ok ht h
    unfold opNil at h
    split at h
    · cases h
      obtain ⟨ad, e, hx'⟩ := hx
      have hx : VR C (.ptr _ _ _) (a.eval x) := ⟨ad, e, hx'⟩
      rw [e] at hx ⊢
      exact said_val hR hx
    · cases h
      obtain ⟨ad, e, hx'⟩ := hx
      have hx : VR C (.rptr _ _) (a.eval x) := ⟨ad, e, hx'⟩
      rw [e] at hx ⊢
      exact said_val hR hx
    · cases h
      obtain ⟨u, v, e, hx'⟩ := hx
      have hx : VR C (.fn _ _ _) (a.eval x) := ⟨u, v, e, hx'⟩
      rw [e] at hx ⊢
      exact said_val hR hx
    · cases h
      obtain ⟨u, e, hx'⟩ := hx
      have hx : VR C (.yld _) (a.eval x) := ⟨u, e, hx'⟩
      rw [e] at hx ⊢
      exact said_val hR hx
    · simp [bad] at h
  case binOp op t x y yt =>
    change one1 fr x (fun x => one1 fr y fun y => val1 σ (binA T op t x y)) = _ at h
    obtain ⟨xv, hx, h⟩ := one1_ok ht h
    obtain ⟨yv, hy, h⟩ := one1_ok ht h
    refine said_val1 (P := P) (s := do eqGuard op t x y (a.eval x) (a.eval y); binOp op t (a.eval x) (a.eval y)) hR h (fun v hv => ?_) (run_vbind _)
    obtain ⟨z, h1, h2, h3⟩ := bin_ok (P := P) (w := w) hP hv hx hy x y
    exact ⟨z, by simp only [Sem.run_bind, h1, Result.andThen_ok, h2], h3⟩
  case unOp op t x =>
    change (match op with
      | .not => one1 fr x fun x => opNot σ x
      | _ => bad "unary") = _ at h
    split at h
    · obtain ⟨xv, hx, h⟩ := one1_ok ht h
      unfold opNot at h
      split at h
      · cases h
        have hx : a.eval x = .bool _ := hx
        rw [hx]
        simp only [run_vbind, Op.unary, Sem.run_pure, Result.andThen_ok]
        exact said_val hR rfl
      · simp [bad] at h
    · simp [bad] at h
  case convert s d x =>
    change one1 fr x (fun v => val1 σ (convA T s d v)) = _ at h
    obtain ⟨xv, hx, h⟩ := one1_ok ht h
    exact said_val1 (P := P) hR h (fun v hv => conv_ok hP hv hx) (run_vbind _)
  case makeFunc fn first cap =>
    change (match fn with
      | .func f => opFunc f σ (evOs fr first.toList) (evOs fr cap.toList)
      | _ => bad "function value") = _ at h
    split at h
    · unfold opFunc at h
      split at h
      · rename_i l1 l2 h1 h2
        cases h
        simp only [run_vbind, Instr.makeFunc, Sem.run_pure, Result.andThen_ok]
        exact said_val hR ⟨_, _, rfl, by simpa using evOs_ok ht h1, by simpa using evOs_ok ht h2⟩
      · cases h
    · simp [bad] at h
  case makeMap t r =>
    change (match r with
      | none => opMakeMap σ
      | some _ => bad "make map") = _ at h
    split at h
    · unfold opMakeMap at h
      split at h
      · rename_i id σ1 hn
        cases h
        obtain ⟨C', w', x, hr, hn, hv⟩ := makeMap_ok (P := P) (t := t) hR hok hn
        refine ⟨C', w', hn, .inl ⟨x, ?_, hv⟩⟩
        simp only [run_vbind, Option.map_none, hr, Result.andThen_ok]
      · cases h
    · simp [bad] at h
  case makeSlice t l c =>
    change one1 fr l (fun l => one1 fr c fun c => val2 (makeSliceA T t l c σ)) = _ at h
    obtain ⟨lv, hl, h⟩ := one1_ok ht h
    obtain ⟨cv, hc, h⟩ := one1_ok ht h
    exact said_val2 (P := P) h (fun v σ1 hv => makeSlice_ok hP hR hok hv hl hc) (run_vbind _)
  case slice t x lo hi mx =>
    change one1 fr x (fun x => opSlice T t x σ (evM fr lo) (evM fr hi) (evM fr mx)) = _ at h
    obtain ⟨xv, hx, h⟩ := one1_ok ht h
    unfold opSlice at h
    split at h
    · rename_i l1 l2 l3 h1 h2 h3
      exact said_val1 (P := P) hR h (fun v hv => slice_ok hP hv hx (evM_ok ht h1) (evM_ok ht h2) (evM_ok ht h3)) (run_vbind _)
    · cases h
  case fieldAddr s x f =>
    change one1 fr x (fun v => val1 σ (fieldAddrA T s v f)) = _ at h
    obtain ⟨xv, hx, h⟩ := one1_ok ht h
    exact said_val1 (P := P) hR h (fun v hv => fieldAddr_ok hP hv hx w) (run_vbind _)
  case field t x f =>
    change one1 fr x (fun v => val1 σ (fieldA T t v f)) = _ at h
    obtain ⟨xv, hx, h⟩ := one1_ok ht h
    exact said_val1 (P := P) hR h (fun v hv => field_ok hP hv hx w) (run_vbind _)
  case indexAddr t x i =>
    change one1 fr x (fun x => one1 fr i fun i => val1 σ (indexAddrA T t x i σ)) = _ at h
    obtain ⟨xv, hx, h⟩ := one1_ok ht h
    obtain ⟨iv, hi, h⟩ := one1_ok ht h
    exact said_val1 (P := P) hR h (fun v hv => indexAddr_ok hP hv hx hi) (run_vbind _)
  case index t x i =>
    change one1 fr x (fun x => one1 fr i fun i => val1 σ (indexA T t x i)) = _ at h
    obtain ⟨xv, hx, h⟩ := one1_ok ht h
    obtain ⟨iv, hi, h⟩ := one1_ok ht h
    exact said_val1 (P := P) hR h (fun v hv => index_ok hP hv hx hi) (run_vbind _)
  case lookup t x k b =>
    change one1 fr x (fun x => one1 fr k fun k => val1 σ (lookupA T t x k b σ)) = _ at h
    obtain ⟨xv, hx, h⟩ := one1_ok ht h
    obtain ⟨kv, hk, h⟩ := one1_ok ht h
    exact said_val1 (P := P) hR h (fun v hv => lookup_ok hP hR hv hx hk) (run_vbind _)
  case mapUpdate t m k x =>
    change one1 fr m (fun m => one1 fr k fun k => one1 fr x fun x => unit1 (updateA T t m k x σ)) = _ at h
    obtain ⟨mv, hm, h⟩ := one1_ok ht h
    obtain ⟨kv, hk, h⟩ := one1_ok ht h
    obtain ⟨xv, hx, h⟩ := one1_ok ht h
    exact said_unit (P := P) h (fun σ1 hv => update_ok hP hR hv hm hk hx) (run_ubind _)
  case mapEntry t m k =>
    change one1 fr m (fun m => one1 fr k fun k => val2 (entryA T t m k σ)) = _ at h
    obtain ⟨mv, hm, h⟩ := one1_ok ht h
    obtain ⟨kv, hk, h⟩ := one1_ok ht h
    exact said_val2 (P := P) h (fun v σ1 hv => by
      obtain ⟨w', r, h1, h2, h3⟩ := entry_ok (P := P) hP hR hv hm hk
      exact ⟨C, w', r, h1, h2, h3⟩) (run_vbind _)
  case entryStore t m s x =>
    change one1 fr m (fun m => one1 fr s fun s => one1 fr x fun x => unit1 (entryStoreA m s x σ)) = _ at h
    obtain ⟨mv, hm, h⟩ := one1_ok ht h
    obtain ⟨sv, hs, h⟩ := one1_ok ht h
    obtain ⟨xv, hx, h⟩ := one1_ok ht h
    exact said_unit (P := P) h (fun σ1 hv => entryStore_ok hR hv hm hs hx) (run_ubind _)
  case range t x =>
    change one1 fr x (fun x => opRange T t σ x) = _ at h
    obtain ⟨xv, hx, h⟩ := one1_ok ht h
    obtain ⟨C', w', v, r, rfl, h1, h2, h3⟩ := range_ok (P := P) hP hR hok h hx
    exact ⟨C', w', h2, .inl ⟨r, by simp only [run_vbind, h1, Result.andThen_ok], h3⟩⟩
  case next it s =>
    change (match s with
      | true => one1 fr it fun it => opNext σ it
      | false => bad "next") = _ at h
    split at h
    · obtain ⟨xv, hx, h⟩ := one1_ok ht h
      obtain ⟨w', v, r, rfl, h1, h2, h3⟩ := next_ok (P := P) (t := o.type) hR h hx
      exact ⟨C, w', h2, .inl ⟨r, by simp only [run_vbind, h1, Result.andThen_ok], h3⟩⟩
    · simp [bad] at h
  case extract t i =>
    change one1 fr t (fun t => opExtract i σ t) = _ at h
    obtain ⟨xv, hx, h⟩ := one1_ok ht h
    obtain ⟨rfl, v, r, rfl, h1, h2⟩ := extract_ok (P := P) (w := w) h hx
    simp only [run_vbind, h1, Result.andThen_ok]
    exact said_val hR h2
  case call c =>
    change opCall T fr c σ = _ at h
    unfold opCall at h
    split at h
    · rename_i args hargs
      have hxs : VRs C args (c.args.map a.eval).toList := by simpa using evOs_ok ht hargs
      unfold opCallee at h
      split at h
      · rename_i f hc
        split at h
        · rename_i fv hf
          split at h
          · rename_i n' hn
            cases h
            have := callArgs_ok (P := P) (ok := ok) (σ := σ) (w := w) hn (evO_ok hf ht) hxs
            simp only [resolve, hc]
            exact this
          · cases h
        · cases h
      · rename_i hc
        simp only [resolve, hc, Sem.run_bind, Sem.run_pure, Result.andThen_ok, invoke, builtin]
        exact said_val1 (P := P) hR h (fun v hv => len_ok hP hR hv hxs) rfl
      · rename_i hc
        simp only [resolve, hc, Sem.run_bind, Sem.run_pure, Result.andThen_ok, invoke, builtin]
        exact said_val2 (P := P) h (fun v σ1 hv => append_ok hP hR hok hv hxs) rfl
      · rename_i hc
        simp only [resolve, hc, Sem.run_bind, Sem.run_pure, Result.andThen_ok, invoke, builtin]
        unfold unit1 at h
        split at h
        · rename_i σ1 hv
          cases h
          obtain ⟨w', h1, h2⟩ := clear_ok (P := P) (ty := o.type) hP hR hv hxs
          rw [h1]
          exact ⟨C, w', h2, .inl ⟨_, rfl, ⟨_, rfl, rfl⟩⟩⟩
        · cases h
      · rename_i hc
        simp only [resolve, hc, Sem.run_bind, Sem.run_pure, Result.andThen_ok, invoke, builtin]
        exact said_val2 (P := P) h (fun v σ1 hv => by
          obtain ⟨w', z, h1, h2, h3⟩ := copy_ok (P := P) (ty := o.type) hP hR hv hxs
          exact ⟨C, w', z, h1, h2, h3⟩) rfl
      · simp [bad] at h
    · cases h
  all_goals exact absurd h (by simp [hOp, hBad, bad])
end Go.Ab
