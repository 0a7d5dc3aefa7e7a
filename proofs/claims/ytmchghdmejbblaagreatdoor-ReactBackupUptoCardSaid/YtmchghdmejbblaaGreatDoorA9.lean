/- The evaluator's operations and the model's: maps written, rows made, '==', arithmetic, strings walked. -/
import Derived.Test.YtmchghdmejbblaaGreatDoorA8
set_option linter.unusedSimpArgs false
set_option linter.unusedVariables false
namespace Go.Ab

theorem run_getMap {P : Program} {w : World} {r : Nat} {es : Array MapEntry} {clock : Nat} (hb : w.heap[r]? = some (.map es clock)) : (getObj r).run P w = .ok (.map es clock) w := by
  simp [getObj, Sem.run, hb]
theorem run_setMap {P : Program} {w : World} {r : Nat} {es : Array MapEntry} {clock : Nat} (o : Obj) (hb : w.heap[r]? = some (.map es clock)) : (setObj r o).run P w = .ok () { w with heap := w.heap.setIfInBounds r o } := by
  simp [setObj, Sem.run, hb]
/-- A map's entries, with their births. -/
def EntsB (C : Cx) (es : List (AV × AV)) (ces : Array MapEntry) : Prop :=
  ces.size = es.length ∧ ∀ i k v, es[i]? = some (k, v) → ∃ e : MapEntry, ces[i]? = some e ∧ VR C k e.key ∧ VR C v e.val ∧ e.born = i ∧ keyPlain k = true
theorem EntsB.ents {C : Cx} {es : List (AV × AV)} {ces : Array MapEntry} (h : EntsB C es ces) : Ents C es ces :=
  ⟨h.1, fun j a v hj => by obtain ⟨e, q1, q2, q3, _⟩ := h.2 j a v hj; exact ⟨e, q1, q2, q3⟩⟩
theorem EntsB.push {C : Cx} {es : List (AV × AV)} {ces : Array MapEntry} (h : EntsB C es ces) {k v : AV} {x y : Value} (hk : VR C k x) (hv : VR C v y) (hp : keyPlain k = true) :
    EntsB C (es ++ [(k, v)]) (ces.push { key := x, val := y, born := es.length }) := by
  refine ⟨by simp [h.1], fun i a b hi => ?_⟩
  by_cases hl : i < es.length
  · rw [List.getElem?_append_left hl] at hi
    obtain ⟨e, q1, q⟩ := h.2 i a b hi
    refine ⟨e, ?_, q⟩
    rw [Array.getElem?_push, if_neg (by rw [h.1]; omega)]
    exact q1
  · have hi' : i = es.length := by
      have := (List.getElem?_eq_some_iff.1 hi).1
      simp only [List.length_append, List.length_cons, List.length_nil] at this
      omega
    subst hi'
    simp only [List.getElem?_append_right (Nat.le_refl _), Nat.sub_self, List.getElem?_cons_zero, Option.some.injEq, Prod.mk.injEq] at hi
    obtain ⟨rfl, rfl⟩ := hi
    exact ⟨{ key := x, val := y, born := es.length }, by rw [Array.getElem?_push, if_pos h.1.symm], hk, hv, rfl, hp⟩
theorem EntsB.modify {C : Cx} {es : List (AV × AV)} {ces : Array MapEntry} (h : EntsB C es ces) {j : Nat} {k v : AV} (f : MapEntry → MapEntry) (hf : ∀ e, ces[j]? = some e → e.born = j → (VR C k (f e).key ∧ VR C v (f e).val ∧ (f e).born = j)) (hp : keyPlain k = true) :
    EntsB C (es.set j (k, v)) (ces.modify j f) := by
  refine ⟨by simp [h.1], fun i a b hi => ?_⟩
  rw [List.getElem?_set] at hi
  by_cases e : j = i
  · subst e
    rw [if_pos rfl] at hi
    split at hi
    · rename_i hl
      simp only [Option.some.injEq, Prod.mk.injEq] at hi
      obtain ⟨rfl, rfl⟩ := hi
      obtain ⟨e, q1, _, _, q4, _⟩ := h.2 j es[j].1 es[j].2 (by rw [List.getElem?_eq_getElem hl])
      obtain ⟨f1, f2, f3⟩ := hf e q1 q4
      exact ⟨f e, by rw [Array.getElem?_modify, if_pos rfl, q1]; rfl, f1, f2, f3, hp⟩
    · cases hi
  · rw [if_neg e] at hi
    obtain ⟨e', q1, q⟩ := h.2 i a b hi
    exact ⟨e', by rw [Array.getElem?_modify, if_neg e]; exact q1, q⟩

theorem R.putMap {ok : Nat → Prop} {C : Cx} {σ : St} {w : World} (hR : R ok C σ w) {id : Nat} {es es' : List (AV × AV)} {ces ces' : Array MapEntry} {clock n : Nat} (hg : σ.get id = some (.mp es)) (hc : C.cur id = some 0)
    (hh : w.heap[C.μ id]? = some (.map ces clock)) (he : EntsB C es' ces') (hn : n = es'.length) : Nx ok C σ w C (σ.put id (.mp es')) { w with heap := w.heap.setIfInBounds (C.μ id) (.map ces' n) } := by
  subst hn
  have hlt : C.μ id < w.heap.size := (Array.getElem?_eq_some_iff.1 hh).1
  refine hR.put hg hc rfl ⟨ces', World.putObj_heap_same (w := w) hlt, he.1, he.2⟩ rfl rfl rfl (World.putObj_size (w := w)) (fun k hk => World.putObj_heap_other (w := w) hk) ?_
  have hb := hR.bs (C.μ id)
  unfold bsize at hb
  rw [hh] at hb
  simp only at hb
  omega

theorem sameKey_eq {C : Cx} {k a : AV} {x y : Value} (h : sameKey k a = some true) (hx : VR C k x) (hy : VR C a y) : x = y ∧ Instr.sameBits 10000 y x = true := by
  cases k <;> cases a <;> simp only [sameKey, bad] at h <;> try cases h
  all_goals
    simp only [VR] at hx hy
    subst hx
    subst hy
  · rename_i e
    simp only [Option.some.injEq, beq_iff_eq] at h
    subst h
    exact ⟨rfl, by simp [Instr.sameBits]⟩
  · split at h
    · rename_i e
      subst e
      simp only [Option.some.injEq, beq_iff_eq] at h
      subst h
      exact ⟨rfl, by simp [Instr.sameBits]⟩
    · cases h
  · rename_i s t
    simp only [Option.some.injEq] at h
    have h2 : s.data == t.data := h
    have h3 : s = t := by
      have := eq_of_beq h2
      cases s; cases t; simp only at this; subst this; rfl
    subst h3
    refine ⟨rfl, ?_⟩
    simp only [Instr.sameBits]
    exact h

theorem run_keyThatStays {P : Program} {w : World} {old new : Value} (h : Instr.sameBits 10000 old new = true) : (Instr.keyThatStays old new).run P w = .ok new w := by
  simp [Instr.keyThatStays, h]

/-- A map, read: its type, block, key. -/
theorem map_read {P : Program} {T : Tb} (hP : TbOk P T) {ok : Nat → Prop} {C : Cx} {σ : St} {w : World} (hR : R ok C σ w) {kt : TypeId} {id : Nat} {k : AV} {y z : Value} {es : List (AV × AV)}
    (hm : mapAt (σ.get id) = some es) (hk : plainKey T kt k = true) (hy : VR C (.mp id) y) (hz : VR C k z) :
    ∃ ces, y = .map (some (C.μ id)) ∧ C.cur id = some 0 ∧ σ.get id = some (.mp es) ∧ w.heap[C.μ id]? = some (.map ces es.length) ∧ EntsB C es ces ∧
      (getObj (C.μ id)).run P w = .ok (.map ces es.length) w ∧ (Instr.checkKey false 10000 kt z).run P w = .ok () w ∧ keyPlain k = true ∧
      (∀ r, findKey k es 0 = some r → (r = none ∧ (Instr.findKey kt z ces.toList).run P w = .ok none w) ∨
        ∃ j v v' a e, r = some (j, v) ∧ (Instr.findKey kt z ces.toList).run P w = .ok (some (j, v')) w ∧ VR C v v' ∧ es[j]? = some (a, v) ∧ ces[j]? = some e ∧ e.val = v' ∧ e.born = j ∧ Instr.sameBits 10000 e.key z = true) := by
  obtain ⟨d, hd, hkf, hkp⟩ := plainKey_ok hk
  have hd := und_ok hP hd
  obtain ⟨rfl, hc, hg, ces, hh, he⟩ := map_at hR hm hy
  refine ⟨ces, rfl, hc, hg, hh, he, run_getMap hh, Ab.run_checkKey hd hkf hz false, hkp, fun r hr => ?_⟩
  have heB : EntsB C es ces := he
  rcases heB.ents.find hkf hz hr with ⟨h0, h1⟩ | ⟨j, v, v', a, e, h0, h1, hv, q1, q2, q3, q4⟩
  · exact .inl ⟨h0, Ab.run_findKey hd h1⟩
  · obtain ⟨e', p1, p2, _, p4, _⟩ := heB.2 j a v q1
    rw [q2] at p1
    cases p1
    exact .inr ⟨j, v, v', a, e, h0, Ab.run_findKey hd h1, hv, q1, q2, q3, p4, (sameKey_eq q4 hz p2).2⟩

theorem update_ok {P : Program} {T : Tb} (hP : TbOk P T) {ok : Nat → Prop} {C : Cx} {σ σ' : St} {w : World} (hR : R ok C σ w) {t : TypeId} {x k v : AV} {y z u : Value} (h : updateA T t x k v σ = some σ') (hy : VR C x y) (hz : VR C k z) (hu : VR C v u) :
    ∃ w', (Instr.mapUpdate t y z u).run P w = .ok () w' ∧ Nx ok C σ w C σ' w' := by
  unfold updateA at h
  split at h
  · rename_i id
    split at h
    · rename_i kt et ht
      have ht := und_ok hP ht
      split at h
      · rename_i es hm hk
        obtain ⟨ces, rfl, hc, hg, hh, he, hget, hck, hkp, hfind⟩ := map_read (P := P) hP hR hm hk hy hz
        unfold updIn at h
        split at h
        · rename_i p hf
          cases h
          rcases hfind _ hf with ⟨h0, _⟩ | ⟨j, v0, v', a, e, h0, h1, hv, q1, q2, q3, q4, q5⟩
          · cases h0
          · cases h0
            refine ⟨_, ?_, hR.putMap (n := es.length) hg hc hh (he.modify (fun e => { e with key := z, val := u }) (fun e _ hb => ⟨hz, hu, hb⟩) hkp) (by simp)⟩
            simp only [Instr.mapUpdate, Sem.run_bind, run_underlying ht, Result.andThen_ok, hget, hck, h1, q2, Option.map_some, Option.getD_some, run_keyThatStays q5, run_setMap _ hh]
        · rename_i hf
          cases h
          rcases hfind _ hf with ⟨_, h1⟩ | ⟨j, v0, v', a, e, h0, _⟩
          · refine ⟨_, ?_, hR.putMap (n := es.length + 1) hg hc hh (he.push hz hu hkp) (by simp)⟩
            simp only [Instr.mapUpdate, Sem.run_bind, run_underlying ht, Result.andThen_ok, hget, hck, h1, run_setMap _ hh]
          · cases h0
        · cases h
      · simp [bad] at h
    · simp [bad] at h
  · simp [bad] at h

theorem entry_ok {P : Program} {T : Tb} (hP : TbOk P T) {ok : Nat → Prop} {C : Cx} {σ σ' : St} {w : World} (hR : R ok C σ w) {t : TypeId} {x k a : AV} {y z : Value} (h : entryA T t x k σ = some (a, σ')) (hy : VR C x y) (hz : VR C k z) :
    ∃ w' r, (Instr.mapEntry t y z).run P w = .ok r w' ∧ Nx ok C σ w C σ' w' ∧ VR C a r := by
  unfold entryA at h
  split at h
  · rename_i id
    split at h
    · rename_i kt et ht
      have ht := und_ok hP ht
      split at h
      · rename_i es zz hm hk hzero
        obtain ⟨ces, rfl, hc, hg, hh, he, hget, hck, hkp, hfind⟩ := map_read (P := P) hP hR hm hk hy hz
        obtain ⟨zv, hzr, hzo⟩ := run_zero hP hzero w
        have hzv := (ofV_ok (C := C) hzo).1
        unfold entIn at h
        split at h
        · rename_i p hf
          cases h
          rcases hfind _ hf with ⟨h0, _⟩ | ⟨j, v0, v', a, e, h0, h1, hv, q1, q2, q3, q4, q5⟩
          · cases h0
          · cases h0
            refine ⟨_, .tuple #[v', goInt j], ?_, hR.putMap (n := es.length) hg hc hh (he.modify (fun e => { e with key := z }) (fun e' h' hb => ⟨hz, by rw [q2] at h'; cases h'; rw [← q3] at hv; exact hv, hb⟩) hkp) (by simp), ⟨_, rfl, VRs.cons hv (VRs.one rfl)⟩⟩
            simp only [Instr.mapEntry, Sem.run_bind, run_underlying ht, Result.andThen_ok, hget, hck, h1, q2, Option.map_some, Option.getD_some, run_keyThatStays q5, run_setMap _ hh, Sem.run_pure, q4]
        · rename_i hf
          cases h
          rcases hfind _ hf with ⟨_, h1⟩ | ⟨j, v0, v', a, e, h0, _⟩
          · refine ⟨_, .tuple #[zv, goInt es.length], ?_, hR.putMap (n := es.length + 1) hg hc hh (he.push hz hzv hkp) (by simp), ⟨_, rfl, VRs.cons hzv (VRs.one rfl)⟩⟩
            simp only [Instr.mapEntry, Sem.run_bind, run_underlying ht, Result.andThen_ok, hget, hck, h1, hzr, run_setMap _ hh, Sem.run_pure]
          · cases h0
        · cases h
      · simp [bad] at h
    · simp [bad] at h
  · simp [bad] at h

theorem entryStore_ok {P : Program} {ok : Nat → Prop} {C : Cx} {σ σ' : St} {w : World} (hR : R ok C σ w) {t : TypeId} {x s v : AV} {y z u : Value} (h : entryStoreA x s v σ = some σ') (hy : VR C x y) (hz : VR C s z) (hu : VR C v u) :
    ∃ w', (Instr.entryStore t y z u).run P w = .ok () w' ∧ Nx ok C σ w C σ' w' := by
  unfold entryStoreA at h
  split at h
  · rename_i id
    split at h
    · rename_i i es hi hm
      obtain ⟨k, rfl⟩ := natOf_ok hi hz
      split at h
      · rename_i p hp
        cases h
        obtain ⟨rfl, hc, hg, ces, hh, he⟩ := map_at hR hm hy
        have heB : EntsB C es ces := he
        obtain ⟨e0, p1, p2, p3, p4, p5⟩ := heB.2 i p.1 p.2 hp
        refine ⟨_, ?_, hR.putMap (n := es.length) hg hc hh (heB.modify (fun e => { e with val := u }) (fun e h' hb => ⟨by rw [p1] at h'; cases h'; exact p2, hu, hb⟩) p5) (by simp)⟩
        have hfi : ces.findIdx? (fun e => (e.born : Int) == (i : Int)) = some i := by
          rw [Array.findIdx?_eq_some_iff_getElem]
          obtain ⟨hl, hge⟩ := Array.getElem?_eq_some_iff.1 p1
          refine ⟨hl, by rw [hge, p4]; simp, fun j hj => ?_⟩
          have hjl : j < es.length := by rw [← heB.1]; omega
          obtain ⟨e1, r1, _, _, r4, _⟩ := heB.2 j es[j].1 es[j].2 (by rw [List.getElem?_eq_getElem hjl])
          obtain ⟨hl1, hge1⟩ := Array.getElem?_eq_some_iff.1 r1
          rw [hge1, r4]
          simp
          omega
        simp only [Instr.entryStore, asInt, asIntOf, Sem.run_bind, Sem.run_pure, Result.andThen_ok, run_getMap hh, hfi, run_setMap _ hh]
      · simp [bad] at h
    · simp [bad] at h
  · simp [bad] at h
end Go.Ab
