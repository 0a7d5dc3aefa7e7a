/- The evaluator's operations and the model's: what is built; slices, append, copy, clear; strings. -/
import Derived.Test.YtmchghdmejbblaaGreatDoorA4
import Derived.Laws.Slices
set_option linter.unusedSimpArgs false
set_option linter.unusedVariables false
namespace Go.Ab

/-! ### What is built -/
theorem foldl_cells (vs : List Value) : ∀ (k off : Nat) (c : Array Value), off + k + vs.length ≤ c.size →
    ((vs.zipIdx k).foldl (fun (cs : Array Value) (p : Value × Nat) => cs.setIfInBounds (off + p.2) p.1) c).toList = c.toList.take (off + k) ++ vs ++ c.toList.drop (off + k + vs.length) := by
  induction vs with
  | nil => intro k off c _; simp
  | cons v vs ih =>
    intro k off c h
    simp only [List.zipIdx_cons, List.foldl_cons, List.length_cons] at h ⊢
    rw [ih (k + 1) off _ (by simp; omega)]
    rw [Array.toList_setIfInBounds]
    have := list_seg_step c.toList (off + k) v vs (by simp; omega)
    rw [show off + (k + 1) = off + k + 1 by omega]
    exact this
theorem foldl_cells' (v : Array Value) (off : Nat) (c : Array Value) (h : off + v.size ≤ c.size) :
    (v.zipIdx.foldl (fun (cs : Array Value) (p : Value × Nat) => cs.setIfInBounds (off + p.2) p.1) c).toList = c.toList.take off ++ v.toList ++ c.toList.drop (off + v.size) := by
  have := foldl_cells v.toList 0 off c (by simpa using h)
  rw [← Array.foldl_toList, Array.toList_zipIdx]
  simpa using this

theorem fill_ok {C : Cx} {place : Nat → Option (Nat × Nat)} : ∀ {parts : List (Nat × AV)} {ps : List (Nat × Value)} {cells cells' : List AV} {c : Array Value},
    fillA place cells parts = some cells' → VRs C cells c.toList → (ps.map (·.1) = parts.map (·.1)) → VRs C (parts.map (·.2)) (ps.map (·.2)) →
    ∃ c', Instr.fill place c ps = some c' ∧ VRs C cells' c'.toList
  | [], ps, cells, cells', c, h, hc, h1, _ => by
    simp only [fillA, Option.some.injEq] at h
    subst h
    have : ps = [] := by cases ps with | nil => rfl | cons _ _ => simp at h1
    subst this
    exact ⟨c, rfl, hc⟩
  | p :: parts, ps, cells, cells', c, h, hc, h1, h2 => by
    obtain ⟨i, a⟩ := p
    cases ps with
    | nil => simp at h1
    | cons q ps =>
      obtain ⟨j, v⟩ := q
      simp only [List.map_cons, List.cons.injEq] at h1
      obtain ⟨hij, h1⟩ := h1
      subst hij
      simp only [List.map_cons] at h2
      obtain ⟨v', vs', he, hav, h2⟩ := h2
      simp only [List.cons.injEq] at he
      obtain ⟨rfl, rfl⟩ := he
      simp only [fillA] at h
      split at h
      · simp [bad] at h
      · rename_i q hq
        split at h
        · rename_i hb
          simp only [Bool.and_eq_true] at hb
          have e1 := Nat.eq_of_beq_eq_true hb.1
          have e2 := Nat.le_of_ble_eq_true hb.2
          have hcs := hav.cells
          have hl := hcs.length
          have hcl := hc.length
          simp only [Array.length_toList] at hl hcl
          have hsz : v.cells.size = q.2 := by omega
          obtain ⟨c', h3, h4⟩ := fill_ok (c := v.cells.zipIdx.foldl (fun (cs : Array Value) (p : Value × Nat) => cs.setIfInBounds (q.1 + p.2) p.1) c) (ps := ps) h (by
            rw [foldl_cells' v.cells q.1 c (by omega)]
            have := (VRs.splice (c := c.toList) (cells := cells) (by rw [List.take_of_length_le (by simp; omega)]; exact hc) hcs (off := q.1) (by omega)).1
            simp only [Array.length_toList] at this
            rw [List.take_of_length_le] at this
            · exact this
            · unfold spliceAt
              simp only [List.length_append, List.length_take, List.length_drop, Array.length_toList]
              omega) h1 h2
          refine ⟨c', ?_, h4⟩
          simp only [Instr.fill, hq]
          rw [if_neg (by simp; omega)]
          exact h3
        · simp [bad] at h

theorem evParts_ok {C : Cx} {fr : Fr} {a : Act} (ht : TR C fr.tmps a.tmps) : ∀ {l : List (Nat × Operand)} {ps : List (Nat × AV)}, evParts fr l = some ps →
    (l.map fun p => (p.1, a.eval p.2)).map (·.1) = ps.map (·.1) ∧ VRs C (ps.map (·.2)) ((l.map fun p => (p.1, a.eval p.2)).map (·.2))
  | [], ps, h => by simp [evParts] at h; subst h; exact ⟨rfl, rfl⟩
  | p :: l, ps, h => by
    simp only [evParts] at h
    split at h
    · rename_i v hv
      split at h
      · rename_i vs hvs
        cases h
        obtain ⟨h1, h2⟩ := evParts_ok ht hvs
        exact ⟨by simp [h1], VRs.cons (evO_ok hv ht) h2⟩
      · cases h
    · cases h

theorem places_ok {P : Program} {T : Tb} (hP : TbOk P T) (w : World) : ∀ {l : List Field} {pl : List (Nat × Nat)}, placesA T l = some pl →
    (l.mapM fun f => (do pure (f.offset, ← sizeOf f.type) : Sem (Nat × Nat))).run P w = .ok pl w
  | [], pl, h => by simp [placesA] at h; subst h; simp
  | f :: l, pl, h => by
    simp only [placesA] at h
    split at h
    · rename_i n hn
      split at h
      · rename_i pl' hl
        cases h
        have ih := places_ok hP w hl
        simp only [List.mapM_cons, Sem.run_bind, run_size hP hn, Result.andThen_ok, Sem.run_pure, ih]
      · cases h
    · cases h

theorem build_ok {P : Program} {T : Tb} (hP : TbOk P T) {C : Cx} {t : TypeId} {parts : List (Nat × AV)} {ps : Array (Nat × Value)} {a : AV} (h : buildA T t parts = some a) (w : World)
    (h1 : ps.toList.map (·.1) = parts.map (·.1)) (h2 : VRs C (parts.map (·.2)) (ps.toList.map (·.2))) : ∃ z, (Instr.build t ps).run P w = .ok z w ∧ VR C a z := by
  unfold buildA at h
  split at h
  · rename_i z hz
    obtain ⟨zv, hzr, hzo⟩ := run_zero hP hz w
    obtain ⟨_, hzc, _⟩ := ofV_ok (C := C) hzo
    split at h
    · rename_i fields hu
      have hu := und_ok hP hu
      unfold buildAt at h
      split at h
      · rename_i pl hpl
        unfold aggOf at h
        split at h
        · rename_i cs hf
          cases h
          obtain ⟨c', hc1, hc2⟩ := fill_ok (c := zv.cells) hf hzc h1 h2
          refine ⟨.agg c', ?_, ⟨c', rfl, hc2⟩⟩
          have hm := places_ok hP w hpl
          have e : (fields.mapM fun f => (do pure (f.offset, ← sizeOf f.type) : Sem (Nat × Nat))).run P w = .ok pl.toArray w := by
            rw [Array.mapM_eq_mapM_toList]
            simp only [Sem.run_map, hm, Result.andThen_ok]
          simp only [Instr.build, Sem.run_bind, hzr, Result.andThen_ok, run_underlying hu, e]
          have e2 : (fun i : Nat => pl.toArray[i]?) = (fun i : Nat => pl[i]?) := by funext i; simp
          rw [e2, hc1]
          rfl
        · cases h
      · cases h
    · rename_i len elem hu
      have hu := und_ok hP hu
      unfold buildArr at h
      split at h
      · rename_i n hn
        unfold aggOf at h
        split at h
        · rename_i cs hf
          cases h
          obtain ⟨c', hc1, hc2⟩ := fill_ok (c := zv.cells) hf hzc h1 h2
          refine ⟨.agg c', ?_, ⟨c', rfl, hc2⟩⟩
          simp only [Instr.build, Sem.run_bind, hzr, Result.andThen_ok, run_underlying hu, run_size hP hn]
          rw [hc1]
          rfl
        · cases h
      · cases h
    · simp [bad] at h
  · simp [bad] at h

def repeatV (zs : List Value) : Nat → List Value
  | 0 => []
  | n + 1 => zs ++ repeatV zs n
theorem VRs.repeat {C : Cx} {z : List AV} {zs : List Value} (h : VRs C z zs) : ∀ n, VRs C (repeatA z n) (repeatV zs n)
  | 0 => rfl
  | n + 1 => VRs.append h (VRs.repeat h n)
theorem repeatA_length (z : List AV) : ∀ n, (repeatA z n).length = n * z.length
  | 0 => by simp [repeatA]
  | n + 1 => by simp [repeatA, repeatA_length z n, Nat.succ_mul, Nat.add_comm]
theorem repeatA_all (z : List AV) (h : z.all AV.one = true) : ∀ n, (repeatA z n).all AV.one = true
  | 0 => rfl
  | n + 1 => by simp only [repeatA, List.all_append, h, repeatA_all z h n, Bool.and_self]
theorem range_repeat (zs : Array Value) (n : Nat) (hn : zs.size = n) (h0 : 0 < n) : ∀ len, ((List.range (len * n)).map fun i => zs[i % zs.size]!) = repeatV zs.toList len
  | 0 => by simp [repeatV]
  | len + 1 => by
    have ih := range_repeat zs n hn h0 len
    rw [Nat.succ_mul, Nat.add_comm, List.range_add, List.map_append, repeatV]
    congr 1
    · apply List.ext_getElem?
      intro i
      by_cases hi : i < n
      · rw [List.getElem?_map, List.getElem?_range hi]
        simp only [Option.map_some, hn, Nat.mod_eq_of_lt hi]
        have hlt : i < zs.size := by omega
        simp [hlt]
      · rw [List.getElem?_eq_none (by simp; omega), List.getElem?_eq_none (by simp; omega)]
    · rw [← ih, List.map_map]
      apply List.map_congr_left
      intro i _
      simp [hn]

theorem buildSlice_ok {P : Program} {T : Tb} (hP : TbOk P T) {ok : Nat → Prop} {C : Cx} {σ σ' : St} {w : World} (hR : R ok C σ w) (hok : ∀ b, w.heap.size ≤ b → ok b) {t : TypeId} {len : Nat} {parts : List (Nat × AV)} {ps : Array (Nat × Value)} {a : AV}
    (h : buildSliceA T t len parts σ = some (a, σ')) (h1 : ps.toList.map (·.1) = parts.map (·.1)) (h2 : VRs C (parts.map (·.2)) (ps.toList.map (·.2))) :
    ∃ C' w' z, (Instr.buildSlice t len ps).run P w = .ok z w' ∧ Nx ok C σ w C' σ' w' ∧ VR C' a z := by
  unfold buildSliceA at h
  split at h
  · rename_i elem hu
    have hu := und_ok hP hu
    split at h
    · rename_i n z hn hz
      split at h
      · rename_i hb
        simp only [Bool.and_eq_true] at hb
        have e1 := Nat.eq_of_beq_eq_true hb.1.1
        have e2 : 0 < n := by simpa using hb.1.2
        have e3 := Nat.le_of_ble_eq_true hb.2
        unfold freshSl at h
        split at h
        · rename_i cells hf
          unfold slOf at h
          split at h
          · rename_i id σ1 hnew
            cases h
            obtain ⟨zv, hzr, hzo⟩ := run_zero hP hz w
            obtain ⟨_, hzc, _⟩ := ofV_ok (C := C) hzo
            have hzs : zv.cells.size = n := by have := hzc.length; simp at this; omega
            have hrep := range_repeat zv.cells n hzs e2 len
            obtain ⟨c', hc1, hc2⟩ := fill_ok (c := ((List.range (len * n)).map fun i => zv.cells[i % zv.cells.size]!).toArray) hf (by
              rw [List.toList_toArray, hrep]; exact VRs.repeat hzc len) h1 h2
            have hcl := hc2.length
            simp only [Array.length_toList] at hcl
            obtain ⟨C', hr, hx, hcur, hmu, hbs⟩ := newArr_ok (P := P) hR hok hnew (vs := c') (by rw [List.take_of_length_le (by simp; omega)]; exact hc2) elem
            refine ⟨C', _, .slice (some ⟨w.heap.size, 0, none⟩) len len, ?_, hx, ?_⟩
            · simp only [Instr.buildSlice, Sem.run_bind, run_underlying hu, Result.andThen_ok, run_size hP hn]
              rw [if_neg (by omega)]
              by_cases h0 : len * n = 0
              · rw [if_pos h0]
                have hl0 : len = 0 := by rcases Nat.mul_eq_zero.1 h0 with h | h <;> omega
                subst hl0
                simp only [Nat.zero_mul, List.range_zero, List.map_nil] at hc1
                have e : ∀ f : Nat → Value, Array.map f (Array.range 0) = #[] := fun f => by simp
                simp only [Sem.run_bind, Sem.run_pure, Result.andThen_ok, Nat.zero_mul, e]
                rw [hc1]
                simp only [Sem.run_bind, hr, Result.andThen_ok, Sem.run_pure]
              · rw [if_neg h0]
                simp only [Sem.run_bind, hzr, Result.andThen_ok, Sem.run_pure]
                have e : (Array.range (len * n)).map (fun x => zv.cells[x % zv.cells.size]!) = ((List.range (len * n)).map fun i => zv.cells[i % zv.cells.size]!).toArray := by
                  apply Array.ext'
                  simp
                rw [e, hc1]
                simp only [Sem.run_bind, hr, Result.andThen_ok, Sem.run_pure]
            · refine ⟨_, len, rfl, ⟨0, hcur, Nat.le_refl _⟩, Nat.le_refl _, fun _ => rfl, fun _ => ⟨0, by rw [hmu], fun _ => rfl, ?_⟩⟩
              rw [hmu]
              have : cells.length = len * n := by
                have hfl : ∀ (ps : List (Nat × AV)) (c c2 : List AV) (pl : Nat → Option (Nat × Nat)), fillA pl c ps = some c2 → c2.length = c.length := by
                  intro ps
                  induction ps with
                  | nil => intro c c2 pl h; simp [fillA] at h; rw [h]
                  | cons p ps ih =>
                    intro c c2 pl h
                    simp only [fillA] at h
                    split at h
                    · simp [bad] at h
                    · split at h
                      · rename_i hb
                        simp only [Bool.and_eq_true] at hb
                        have := Nat.eq_of_beq_eq_true hb.1
                        have := Nat.le_of_ble_eq_true hb.2
                        rw [ih _ _ _ h]
                        unfold spliceAt
                        simp only [List.length_append, List.length_take, List.length_drop]
                        omega
                      · simp [bad] at h
                rw [hfl _ _ _ _ hf, repeatA_length, e1]
              omega
          · cases h
        · cases h
      · simp [bad] at h
    · simp [bad] at h
  · simp [bad] at h
end Go.Ab
