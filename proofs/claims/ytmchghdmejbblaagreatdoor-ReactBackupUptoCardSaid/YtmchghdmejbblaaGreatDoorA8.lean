/- The evaluator's operations and the model's: copy, clear, len, maps. -/
import Derived.Test.YtmchghdmejbblaaGreatDoorA7
set_option linter.unusedSimpArgs false
set_option linter.unusedVariables false
namespace Go.Ab

theorem copy_ok {P : Program} {T : Tb} (hP : TbOk P T) {ok : Nat → Prop} {C : Cx} {σ σ' : St} {w : World} (hR : R ok C σ w) {ats : Array TypeId} {args : List AV} {ys : Array Value} {a : AV} {ty : TypeId}
    (h : copyA T ats.toList args σ = some (a, σ')) (hy : VRs C args ys.toList) : ∃ w' z, (Builtin.copy_ ats ty ys).run P w = .ok z w' ∧ Nx ok C σ w C σ' w' ∧ VR C a z := by
  obtain ⟨ats⟩ := ats
  obtain ⟨ys⟩ := ys
  simp only at h hy
  unfold copyA at h
  split at h
  · rename_i dt rest d s
    obtain ⟨dv, l1, rfl, hd, hy⟩ := hy
    obtain ⟨sv, l2, rfl, hs, hy⟩ := hy
    cases hy
    split at h
    · rename_i elem hu
      have hu := und_ok hP hu
      split at h
      · rename_i n hn
        unfold copyTo at h
        split at h
        · rename_i k new hel
          obtain ⟨vs, hlen, hvs, hvl, hnl, hfc⟩ := elems_ok (P := P) hR hel hs
          split at h
          · cases h
            cases hd
            have h0 := hfc 0 (Nat.zero_le _)
            refine ⟨w, goInt 0, ?_, Nx.refl hR, rfl⟩
            simp only [Builtin.copy_, List.getElem?_toArray, List.getElem?_cons_zero, List.getElem?_cons_succ, Sem.run_bind, run_underlying hu, Result.andThen_ok, hlen, run_size hP hn, Nat.min_zero, h0, Sem.run_pure]
            rfl
          · rename_i id ver off len lo sz ex
            obtain ⟨ad, cp, rfl, hp, hl, hxx, ha⟩ := hd
            unfold copyIn at h
            split at h
            · rename_i cells hc
              obtain ⟨hcur, c, ce, hh, hv, hc1⟩ := hR.arr hc hp
              obtain ⟨o, rfl, ho, hbs⟩ := ha hcur
              split at h
              · rename_i hb
                simp only [Bool.and_eq_true] at hb
                obtain ⟨⟨⟨b1, b2⟩, b3⟩, b4⟩ := hb
                have e1 := Nat.eq_of_beq_eq_true b1
                have e2 := Nat.le_of_ble_eq_true b2
                have e3 := Nat.le_of_ble_eq_true b3
                subst e1
                cases h
                have hm : Nat.min k len ≤ k := Nat.min_le_left _ _
                have hm2 : Nat.min k len ≤ len := Nat.min_le_right _ _
                have hfk := hfc (Nat.min k len) hm
                have hall : (new.take (Nat.min k len * sz)).all AV.one = true := by
                  rw [List.all_eq_true] at *
                  exact fun a ha => b4 a (List.mem_of_mem_take ha)
                have hmul : Nat.min k len * sz ≤ len * sz := Nat.mul_le_mul_right sz hm2
                obtain ⟨w', hst, hnx⟩ := hR.splice (P := P) (off := off) hc hp (VRs.take (Nat.min k len * sz) hvs) hall (by simp only [List.length_take]; omega)
                refine ⟨w', goInt (Nat.min k len), ?_, hnx, rfl⟩
                have hst' : (Go.storeCells ⟨C.μ id, o, none⟩ (vs.take (Nat.min k len * sz))).run P w = .ok () w' := by
                  by_cases h0 : 0 < lo
                  · rw [ho h0]; exact hst
                  · have : Nat.min k len = 0 := by omega
                    rw [this, Nat.zero_mul, List.take_zero] at hst ⊢
                    exact hst
                simp only [Builtin.copy_, List.getElem?_toArray, List.getElem?_cons_zero, List.getElem?_cons_succ, Sem.run_bind, run_underlying hu, Result.andThen_ok, hlen, run_size hP hn, hfk, hst', Sem.run_pure]
              · simp [bad] at h
            · cases h
          · simp [bad] at h
        · cases h
      · cases h
    · simp [bad] at h
  · simp [bad] at h

theorem clear_ok {P : Program} {T : Tb} (hP : TbOk P T) {ok : Nat → Prop} {C : Cx} {σ σ' : St} {w : World} (hR : R ok C σ w) {ats : Array TypeId} {args : List AV} {ys : Array Value} {ty : TypeId}
    (h : clearA T ats.toList args σ = some σ') (hy : VRs C args ys.toList) : ∃ w', (Builtin.clear_ ats ty ys).run P w = .ok (.tuple #[]) w' ∧ Nx ok C σ w C σ' w' := by
  obtain ⟨ats⟩ := ats
  obtain ⟨ys⟩ := ys
  simp only at h hy
  unfold clearA at h
  split at h
  · rename_i t x
    obtain ⟨xv, l1, rfl, hx, hy⟩ := hy
    cases hy
    split at h
    · rename_i elem hu
      have hu := und_ok hP hu
      split at h
      · cases h
        cases hx
        exact ⟨w, by simp [Builtin.clear_, run_underlying hu], Nx.refl hR⟩
      · rename_i id ver off len lo sz ex
        obtain ⟨ad, cp, rfl, hp, hl, hxx, ha⟩ := hx
        split at h
        · rename_i hl0
          have := Nat.eq_of_beq_eq_true hl0
          subst this
          cases h
          exact ⟨w, by simp [Builtin.clear_, run_underlying hu], Nx.refl hR⟩
        · rename_i hl0
          have hlen : len ≠ 0 := fun e => by rw [beq_yes e] at hl0; cases hl0
          split at h
          · rename_i z hz
            unfold clearIn at h
            split at h
            · rename_i cells hc
              obtain ⟨hcur, c, ce, hh, hv, hc1⟩ := hR.arr hc hp
              obtain ⟨o, rfl, ho, hbs⟩ := ha hcur
              split at h
              · rename_i hb
                simp only [Bool.and_eq_true] at hb
                obtain ⟨⟨⟨b1, b2⟩, b3⟩, b4⟩ := hb
                have e1 := Nat.eq_of_beq_eq_true b1
                have e3 := Nat.le_of_ble_eq_true b3
                have e4 := Nat.le_of_ble_eq_true b4
                cases h
                obtain ⟨zv, hzr, hzo⟩ := run_zero hP hz w
                obtain ⟨_, hzc, hz1, _⟩ := ofV_ok (C := C) hzo
                have hzs : zv.cells.size = sz := by have := hzc.length; simp at this; omega
                have hrep : (Builtin.zeroCells zv.cells len).toList = repeatV zv.cells.toList len := by
                  by_cases h0 : 0 < zv.cells.size
                  · exact zeroCells_eq zv.cells h0 len
                  · have hz0 : zv.cells.size = 0 := by omega
                    have h1 : (Builtin.zeroCells zv.cells len).toList.length = 0 := by rw [Array.length_toList, size_zeroCells, hz0, Nat.mul_zero]
                    have h2 : (repeatV zv.cells.toList len).length = 0 := by rw [repeatV_length, Array.length_toList, hz0, Nat.mul_zero]
                    rw [List.length_eq_zero_iff.1 h1, List.length_eq_zero_iff.1 h2]
                obtain ⟨w', hst, hnx⟩ := hR.splice (P := P) (off := off) hc hp (VRs.repeat hzc len) (repeatA_all _ hz1 len) (by rw [repeatA_length, e1]; exact e4)
                refine ⟨w', ?_, hnx⟩
                rw [ho (by omega)]
                have hc2 : (match len with | 0 => true | _ => false) = false := by cases len with | zero => exact absurd rfl hlen | succ _ => rfl
                cases len with
                | zero => exact absurd rfl hlen
                | succ m => simp [Builtin.clear_, run_underlying hu, hzr, hrep, hst]
              · simp [bad] at h
            · cases h
          · cases h
      · simp [bad] at h
    · simp [bad] at h
  · simp [bad] at h

/-! ### Maps -/
theorem map_at {ok : Nat → Prop} {C : Cx} {σ : St} {w : World} (hR : R ok C σ w) {id : Nat} {es : List (AV × AV)} (h : mapAt (σ.get id) = some es) {v : Value} (hv : VR C (.mp id) v) :
    v = .map (some (C.μ id)) ∧ C.cur id = some 0 ∧ σ.get id = some (.mp es) ∧ ORel C w (.mp es) (C.μ id) := by
  obtain ⟨b, rfl, hp, hb⟩ := hv
  unfold mapAt at h
  split at h
  · rename_i es' hg
    cases h
    obtain ⟨cv, hc, _⟩ := hp
    obtain ⟨h1, h2, _⟩ := hR.obj id _ cv hg hc
    have : cv = 0 := h1
    subst this
    exact ⟨by rw [hb hc], hc, hg, h2⟩
  · simp [bad] at h

theorem len_ok {P : Program} {T : Tb} (hP : TbOk P T) {ok : Nat → Prop} {C : Cx} {σ : St} {w : World} (hR : R ok C σ w) {ats : Array TypeId} {args : List AV} {ys : Array Value} {a : AV} {ty : TypeId}
    (h : lenA T ats.toList args σ = some a) (hy : VRs C args ys.toList) : ∃ z, (Builtin.len_ ats ty ys).run P w = .ok z w ∧ VR C a z := by
  obtain ⟨ats⟩ := ats
  obtain ⟨ys⟩ := ys
  simp only at h hy
  unfold lenA at h
  split at h
  · rename_i t x
    obtain ⟨xv, l1, rfl, hx, hy⟩ := hy
    cases hy
    split at h
    · rename_i hu
      have hu := und_ok hP hu
      split at h
      · rename_i s
        cases h; cases hx
        exact ⟨goInt s.size, by simp [Builtin.len_, run_underlying hu], by rw [mkInt_eq]; rfl⟩
      · simp [bad] at h
    · rename_i hu
      have hu := und_ok hP hu
      split at h
      · cases h; cases hx
        exact ⟨goInt 0, by simp [Builtin.len_, run_underlying hu], rfl⟩
      · rename_i id ver off len lo sz ex
        cases h
        obtain ⟨ad, cp, rfl, _⟩ := hx
        exact ⟨goInt len, by simp [Builtin.len_, run_underlying hu], by rw [mkInt_eq]; rfl⟩
      · rename_i id off len
        cases h
        obtain ⟨ad, cp, rfl, _⟩ := hx
        exact ⟨goInt len, by simp [Builtin.len_, run_underlying hu], by rw [mkInt_eq]; rfl⟩
      · cases h
        obtain ⟨ad, rfl⟩ := hx
        exact ⟨goInt 0, by simp [Builtin.len_, run_underlying hu], rfl⟩
      · simp [bad] at h
    · rename_i hu
      have hu := und_ok hP hu
      split at h
      · cases h; cases hx
        exact ⟨goInt 0, by simp [Builtin.len_, run_underlying hu], rfl⟩
      · rename_i id
        split at h
        · rename_i es hm
          cases h
          obtain ⟨rfl, _, _, ces, hh, hsz, _⟩ := map_at hR hm hx
          refine ⟨goInt ces.size, ?_, by rw [mkInt_eq, hsz]; rfl⟩
          have hg : (getObj (C.μ id)).run P w = .ok (.map ces es.length) w := by simp [getObj, Sem.run, hh]
          simp [Builtin.len_, run_underlying hu, hg]
        · cases h
      · simp [bad] at h
    · simp [bad] at h
  · simp [bad] at h

def kindFits : TypeDesc → AV → Bool
  | .int _, .int _ _ => true
  | .string, .str _ => true
  | .bool, .bool _ => true
  | _, _ => false
theorem plainKey_ok {T : Tb} {t : TypeId} {k : AV} (h : plainKey T t k = true) : ∃ d, und T t = some d ∧ kindFits d k = true ∧ keyPlain k = true := by
  unfold plainKey at h
  split at h
  · rename_i hu; exact ⟨_, hu, rfl, rfl⟩
  · rename_i hu; exact ⟨_, hu, rfl, rfl⟩
  · rename_i hu; exact ⟨_, hu, rfl, rfl⟩
  · cases h
theorem sameKey_ok {C : Cx} {a b : AV} {x y : Value} {r : Bool} {d : TypeDesc} (h : sameKey a b = some r) (hk : kindFits d a = true) (ha : VR C a x) (hb : VR C b y) : Instr.sameNow d x y = some r := by
  cases a <;> cases b <;> simp only [sameKey, bad] at h <;> try cases h
  all_goals
    simp only [VR] at ha hb
    subst ha
    subst hb
    cases d <;> simp only [kindFits] at hk <;> try cases hk
  · rfl
  · rename_i k n k' m e
    split at h
    · rename_i e
      subst e
      cases h
      simp [Instr.sameNow]
    · cases h
  · rfl

theorem findKey_ok {C : Cx} {k : AV} {x : Value} {d : TypeDesc} (hk : kindFits d k = true) (hx : VR C k x) : ∀ {es : List (AV × AV)} {ces : List MapEntry} {i : Nat} {r : Option (Nat × AV)},
    findKey k es i = some r → ces.length = es.length → (∀ (j : Nat) (a v : AV), es[j]? = some (a, v) → ∃ e : MapEntry, ces[j]? = some e ∧ VR C a e.key ∧ VR C v e.val) →
    ∃ r', Instr.findNow d x ces i = some r' ∧ (match r, r' with
      | none, none => True
      | some (j, v), some (j', v') => j' = j ∧ VR C v v' ∧ i ≤ j ∧ j < i + es.length ∧ ∃ a e, es[j - i]? = some (a, v) ∧ ces[j - i]? = some e ∧ e.val = v' ∧ sameKey k a = some true
      | _, _ => False)
  | [], ces, i, r, h, hl, _ => by
    simp only [findKey, Option.some.injEq] at h
    subst h
    have : ces = [] := List.length_eq_zero_iff.1 hl
    subst this
    exact ⟨none, rfl, trivial⟩
  | (a, v) :: es, ces, i, r, h, hl, he => by
    cases ces with
    | nil => simp at hl
    | cons e ces =>
      obtain ⟨e', he', hka, hva⟩ := he 0 a v rfl
      simp only [List.getElem?_cons_zero, Option.some.injEq] at he'
      subst he'
      simp only [findKey] at h
      split at h
      · rename_i hs
        cases h
        refine ⟨some (i, e.val), ?_, rfl, hva, Nat.le_refl _, by simp, a, e, by simp, by simp, rfl, hs⟩
        simp only [Instr.findNow, sameKey_ok hs hk hx hka]
      · rename_i hs
        obtain ⟨r', h1, h2⟩ := findKey_ok hk hx h (by simpa using hl) (fun j a' v' hj => he (j + 1) a' v' (by simpa using hj))
        refine ⟨r', ?_, ?_⟩
        · simp only [Instr.findNow, sameKey_ok hs hk hx hka, h1]
        · cases r with
          | none => cases r' with
            | none => trivial
            | some _ => exact h2.elim
          | some p => cases r' with
            | none => exact h2.elim
            | some p' =>
              obtain ⟨j, v1⟩ := p
              obtain ⟨j', v1'⟩ := p'
              obtain ⟨q1, q2, q3, q4, a1, e1, q5, q6, q7, q8⟩ := h2
              refine ⟨q1, q2, by omega, by simp only [List.length_cons]; omega, a1, e1, ?_, ?_, q7, q8⟩
              · rw [show j - i = (j - (i + 1)) + 1 by omega]; simpa using q5
              · rw [show j - i = (j - (i + 1)) + 1 by omega]; simpa using q6
      · cases h

theorem run_checkKey {P : Program} {w : World} {t : TypeId} {d : TypeDesc} {k : AV} {x : Value} {C : Cx} (hu : P.underlying t = some d) (hk : kindFits d k = true) (hx : VR C k x) (b : Bool) : (Instr.checkKey b 10000 t x).run P w = .ok () w := by
  cases k <;> cases d <;> simp only [kindFits] at hk <;> try cases hk
  all_goals
    simp only [VR] at hx
    subst hx
    rw [Instr.checkKey]
    simp only [Sem.run_bind, run_underlying hu, Result.andThen_ok, Sem.run_pure]
theorem run_findKey {P : Program} {w : World} {t : TypeId} {d : TypeDesc} {x : Value} {ces : List MapEntry} {r : Option (Nat × Value)} (hu : P.underlying t = some d) (h : Instr.findNow d x ces 0 = some r) : (Instr.findKey t x ces).run P w = .ok r w := by
  simp [Instr.findKey, run_underlying hu, h]

/-- What a map's entries read as. -/
def Ents (C : Cx) (es : List (AV × AV)) (ces : Array MapEntry) : Prop :=
  ces.size = es.length ∧ ∀ (j : Nat) (a v : AV), es[j]? = some (a, v) → ∃ e : MapEntry, ces[j]? = some e ∧ VR C a e.key ∧ VR C v e.val
theorem Ents.find {C : Cx} {es : List (AV × AV)} {ces : Array MapEntry} (h : Ents C es ces) {k : AV} {x : Value} {d : TypeDesc} (hk : kindFits d k = true) (hx : VR C k x) {r : Option (Nat × AV)} (hf : findKey k es 0 = some r) :
    (r = none ∧ Instr.findNow d x ces.toList 0 = some none) ∨ ∃ j v v' a e, r = some (j, v) ∧ Instr.findNow d x ces.toList 0 = some (some (j, v')) ∧ VR C v v' ∧ es[j]? = some (a, v) ∧ ces[j]? = some e ∧ e.val = v' ∧ sameKey k a = some true := by
  obtain ⟨r', h1, h2⟩ := findKey_ok hk hx hf (ces := ces.toList) (by simpa using h.1) (fun j a v hj => by simpa using h.2 j a v hj)
  cases r with
  | none => cases r' with
    | none => exact .inl ⟨rfl, h1⟩
    | some _ => exact h2.elim
  | some p => cases r' with
    | none => exact h2.elim
    | some p' =>
      obtain ⟨j, v⟩ := p
      obtain ⟨j', v'⟩ := p'
      obtain ⟨rfl, hv, _, _, a, e, q1, q2, q3, q4⟩ := h2
      exact .inr ⟨j', v, v', a, e, rfl, h1, hv, by simpa using q1, by simpa using q2, q3, q4⟩

theorem lookup_ok {P : Program} {T : Tb} (hP : TbOk P T) {ok : Nat → Prop} {C : Cx} {σ : St} {w : World} (hR : R ok C σ w) {t : TypeId} {x k a : AV} {b : Bool} {y z : Value} (h : lookupA T t x k b σ = some a) (hy : VR C x y) (hz : VR C k z) :
    ∃ v, (Instr.lookup t y z b).run P w = .ok v w ∧ VR C a v := by
  unfold lookupA at h
  split at h
  · rename_i kt et hu
    have hu := und_ok hP hu
    split at h
    · rename_i es zz hes hpk hzero
      obtain ⟨d, hd, hkf, _⟩ := plainKey_ok hpk
      have hd := und_ok hP hd
      obtain ⟨zv, hzr, hzo⟩ := run_zero hP hzero w
      have hzv := (ofV_ok (C := C) hzo).1
      obtain ⟨ces, hces, hent⟩ : ∃ ces : Array MapEntry, (y = .map none ∧ ces = #[] ∨ ∃ r cl, y = .map (some r) ∧ (getObj r).run P w = .ok (.map ces cl) w) ∧ Ents C es ces := by
        unfold entriesA at hes
        split at hes
        · cases hes
          cases hy
          exact ⟨#[], .inl ⟨rfl, rfl⟩, rfl, fun j a v hj => by simp at hj⟩
        · rename_i id
          obtain ⟨rfl, _, _, ces, hh, hsz, he⟩ := map_at hR hes hy
          refine ⟨ces, .inr ⟨C.μ id, es.length, rfl, by simp [getObj, Sem.run, hh]⟩, hsz, fun j a v hj => by
            obtain ⟨e, q1, q2, q3, _⟩ := he j a v hj
            exact ⟨e, q1, q2, q3⟩⟩
        · simp [bad] at hes
      have hrun : ∀ r : Option (Nat × Value), Instr.findNow d z ces.toList 0 = some r → (Instr.lookup t y z b).run P w = .ok (match r with
          | some p => if b then .tuple #[p.2, .bool true] else p.2
          | none => if b then .tuple #[zv, .bool false] else zv) w := fun r hf => by
        have hk := run_findKey (P := P) (w := w) hd hf
        rcases hces with ⟨rfl, rfl⟩ | ⟨r0, cl, rfl, hg⟩
        · cases r <;> simp only [Instr.lookup, Sem.run_bind, run_underlying hu, Result.andThen_ok, Sem.run_pure, run_checkKey hd hkf hz, hk, hzr]
        · cases r <;> simp only [Instr.lookup, Sem.run_bind, run_underlying hu, Result.andThen_ok, hg, Sem.run_pure, run_checkKey hd hkf hz, hk, hzr]
      unfold lookIn at h
      split at h
      · rename_i p hf
        cases h
        rcases hent.find hkf hz hf with ⟨h0, _⟩ | ⟨j, v, v', a, e, h0, h1, hv, _⟩
        · cases h0
        · cases h0
          refine ⟨_, hrun _ h1, ?_⟩
          cases b
          · exact hv
          · exact ⟨_, rfl, VRs.cons hv (VRs.one rfl)⟩
      · rename_i hf
        cases h
        rcases hent.find hkf hz hf with ⟨_, h1⟩ | ⟨j, v, v', a, e, h0, _⟩
        · refine ⟨_, hrun _ h1, ?_⟩
          cases b
          · exact hzv
          · exact ⟨_, rfl, VRs.cons hzv (VRs.one rfl)⟩
        · cases h0
      · cases h
    · simp [bad] at h
  · simp [bad] at h
end Go.Ab
