/- The evaluator's operations and the model's: types, constants, loads, stores, new rows, fields. -/
import Derived.Test.YtmchghdmejbblaaGreatDoorA3
set_option linter.unusedSimpArgs false
set_option linter.unusedVariables false
namespace Go.Ab

/-- The evaluator's table of types is the program's. -/
def TbOk (P : Program) (T : Tb) : Prop := ∀ t i, T.get t = some i → mkTI P t = some i

section
variable {P : Program} {T : Tb} (hP : TbOk P T)
include hP
theorem TbOk.info {t : TypeId} {i : TI} (h : T.get t = some i) : ∃ j, P.info? t = some j ∧ i = { und := P.underlying t, size := j.size, bytes := j.bytes, zero := j.zero.bind ofV, agg := (match P.underlying t with | some (.struct _) | some (.array _ _) => true | _ => false), eqg := P.eqGuardType P.depth t, stood := P.stoodInHeld t } := by
  have := hP t i h
  unfold mkTI at this
  cases hj : P.info? t with
  | none => simp [hj] at this
  | some j =>
    simp only [hj, Option.map_some, Option.some.injEq] at this
    exact ⟨j, rfl, this.symm⟩
theorem und_ok {t : TypeId} {d : TypeDesc} (h : und T t = some d) : P.underlying t = some d := by
  unfold und at h
  cases hi : T.get t with
  | none => simp [hi] at h
  | some i =>
    obtain ⟨j, _, rfl⟩ := TbOk.info hP hi
    simpa [hi] using h
theorem size_ok {t : TypeId} {n : Nat} (h : sizeA T t = some n) : ∃ j, P.info? t = some j ∧ j.size = n := by
  unfold sizeA at h
  cases hi : T.get t with
  | none => simp [hi] at h
  | some i =>
    obtain ⟨j, hj, rfl⟩ := TbOk.info hP hi
    exact ⟨j, hj, by simpa [hi] using h⟩
theorem run_size {t : TypeId} {n : Nat} (h : sizeA T t = some n) (w : World) : (sizeOf t).run P w = .ok n w := by
  obtain ⟨j, hj, rfl⟩ := size_ok hP h
  simp [sizeOf, typeInfo, hj]
theorem run_bytes {t : TypeId} {n : Nat} (h : bytesA T t = some n) (w : World) : ∃ j, (typeInfo t).run P w = .ok j w ∧ j.bytes = n := by
  unfold bytesA at h
  cases hi : T.get t with
  | none => simp [hi] at h
  | some i =>
    obtain ⟨j, hj, rfl⟩ := TbOk.info hP hi
    exact ⟨j, by simp [typeInfo, hj], by simpa [hi] using h⟩
theorem run_zero {t : TypeId} {z : AV} (h : zeroA T t = some z) (w : World) : ∃ v, (zeroValue t).run P w = .ok v w ∧ ofV v = some z := by
  unfold zeroA at h
  cases hi : T.get t with
  | none => simp [hi] at h
  | some i =>
    obtain ⟨j, hj, rfl⟩ := TbOk.info hP hi
    simp only [hi, Option.bind_some] at h
    cases hz : j.zero with
    | none => simp [hz] at h
    | some v =>
      simp only [hz, Option.bind_some] at h
      exact ⟨v, by simp [zeroValue, typeInfo, hj, hz], h⟩
theorem run_agg {t : TypeId} {b : Bool} (h : isAggA T t = some b) (w : World) : (isAgg t).run P w = .ok b w := by
  unfold isAggA at h
  cases hi : T.get t with
  | none => simp [hi] at h
  | some i =>
    obtain ⟨j, hj, rfl⟩ := TbOk.info hP hi
    simp only [hi, Option.bind_some] at h
    cases hu : P.underlying t with
    | none => simp [hu] at h
    | some d =>
      simp only [hu, Option.map_some, Option.some.injEq] at h
      subst h
      have e : (underlying t).run P w = .ok d w := run_underlying hu w
      cases d <;> simp [isAgg, e]
end

/-! ### Constants -/
theorem ofV1_ok {C : Cx} {v : Value} {a : AV} (h : ofV1 v = some a) : VR C a v ∧ a.one = true ∧ v.cells = #[v] := by
  unfold ofV1 at h
  split at h <;> first | (cases h; exact ⟨rfl, rfl, rfl⟩) | (simp [bad] at h)
theorem ofV1s_ok {C : Cx} : ∀ {l : List Value} {as : List AV}, l.mapM ofV1 = some as → VRs C as l ∧ as.all AV.one = true
  | [], as, h => by simp at h; subst h; exact ⟨rfl, rfl⟩
  | v :: l, as, h => by
    simp only [List.mapM_cons, Option.bind_eq_bind, Option.bind_eq_some_iff, Option.pure_def, Option.some.injEq] at h
    obtain ⟨a, ha, bs, hb, rfl⟩ := h
    obtain ⟨h1, h2, _⟩ := ofV1_ok (C := C) ha
    obtain ⟨h3, h4⟩ := ofV1s_ok (C := C) hb
    exact ⟨VRs.cons h1 h3, by simp [h2, h4]⟩
theorem ofV_ok {C : Cx} {v : Value} {a : AV} (h : ofV v = some a) : VR C a v ∧ VRs C a.cells v.cells.toList ∧ a.cells.all AV.one = true ∧ (∀ l, a ≠ .tup l) := by
  unfold ofV at h
  split at h
  · rename_i cs
    cases hm : cs.toList.mapM ofV1 with
    | none => simp [hm] at h
    | some as =>
      simp only [hm, Option.map_some, Option.some.injEq] at h
      subst h
      obtain ⟨h1, h2⟩ := ofV1s_ok (C := C) hm
      exact ⟨⟨cs, rfl, h1⟩, h1, h2, fun l => by simp⟩
  · rename_i hne
    obtain ⟨h1, h2, h3⟩ := ofV1_ok (C := C) h
    have hc : a.cells = [a] := by cases a <;> first | rfl | (simp [AV.one] at h2)
    refine ⟨h1, ?_, by simp [hc, h2], fun l e => by subst e; simp [AV.one] at h2⟩
    rw [hc, h3]
    exact VRs.one h1

theorem evO_ok {C : Cx} {fr : Fr} {a : Act} {x : Operand} {v : AV} (h : evO fr x = some v) (ht : TR C fr.tmps a.tmps) : VR C v (a.eval x) := by
  unfold evO at h
  split at h
  · cases h; exact ht _
  · exact (ofV_ok h).1
  · simp [bad] at h
  · cases h; exact ⟨#[], #[], rfl, rfl, rfl⟩
theorem evOs_ok {C : Cx} {fr : Fr} {a : Act} (ht : TR C fr.tmps a.tmps) : ∀ {l : List Operand} {vs : List AV}, evOs fr l = some vs → VRs C vs (l.map a.eval)
  | [], vs, h => by simp [evOs] at h; subst h; rfl
  | x :: xs, vs, h => by
    simp only [evOs] at h
    split at h
    · rename_i v vs' h1 h2
      cases h
      exact VRs.cons (evO_ok h1 ht) (evOs_ok ht h2)
    · cases h

/-! ### Loads -/
theorem live_ok {σ : St} {id ver : Nat} {cells : List AV} (h : cellsAt σ id ver = some cells) : σ.get id = some (.arr ver cells) := by
  unfold cellsAt liveA at h
  split at h
  · rename_i v cs hg
    split at h
    · rename_i hb
      cases h
      rw [← Nat.eq_of_beq_eq_true hb]
      exact hg
    · simp [bad] at h
  · simp [bad] at h
/-- A live array: it lies in its block. -/
theorem R.arr {ok : Nat → Prop} {C : Cx} {σ : St} {w : World} (h : R ok C σ w) {id ver : Nat} {cells : List AV} (hg : cellsAt σ id ver = some cells) (hp : Past C id ver) :
    C.cur id = some ver ∧ ∃ c e, w.heap[C.μ id]? = some (.cells c e (0, 0)) ∧ VRs C cells (c.toList.take cells.length) ∧ cells.all AV.one = true := by
  obtain ⟨cv, hc, _⟩ := hp
  obtain ⟨h1, h2, _⟩ := h.obj id _ cv (live_ok hg) hc
  have : cv = ver := h1
  subst this
  exact ⟨hc, h2⟩

theorem rowAt_ok {cells r : List AV} {off n : Nat} (h : rowAt cells off n = some r) : off + n ≤ cells.length ∧ r = (cells.drop off).take n := by
  unfold rowAt at h
  split at h
  · rename_i hb
    cases h
    exact ⟨Nat.le_of_ble_eq_true hb, rfl⟩
  · simp [bad] at h
theorem VRs.row {C : Cx} {cells : List AV} {c : List Value} (h : VRs C cells (c.take cells.length)) {off n : Nat} (hl : off + n ≤ cells.length) :
    VRs C ((cells.drop off).take n) ((c.drop off).take n) ∧ ((c.drop off).take n).length = n := by
  have h1 := VRs.take n (VRs.drop off h)
  have e : (List.drop off (List.take cells.length c)).take n = (c.drop off).take n := by
    rw [List.drop_take, List.take_take]
    congr 1
    omega
  rw [e] at h1
  refine ⟨h1, ?_⟩
  have := h1.length
  simp only [List.length_take, List.length_drop] at this ⊢
  omega
theorem cell_at (w : World) (b : Nat) (c : Array Value) (e : TypeId) (fr : Nat × Nat) (h : w.heap[b]? = some (.cells c e fr)) (off : Nat) : w.cell? ⟨b, off, none⟩ = c[off]? := by
  simp [World.cell?, h]
theorem addr_add (b off j : Nat) : (⟨b, off, none⟩ : Addr).add j = ⟨b, off + j, none⟩ := by unfold Addr.add; split <;> simp_all
theorem run_loadRow {P : Program} {w : World} {b : Nat} {c : Array Value} {e : TypeId} {fr : Nat × Nat} (h : w.heap[b]? = some (.cells c e fr)) {off n : Nat} (hl : ((c.toList.drop off).take n).length = n) :
    (Go.loadCells ⟨b, off, none⟩ n).run P w = .ok ((c.toList.drop off).take n).toArray w := by
  have := run_loadCells_list (P := P) w ⟨b, off, none⟩ ((c.toList.drop off).take n) (fun j v hj => by
    rw [addr_add, cell_at w b c e fr h]
    rw [List.getElem?_take] at hj
    split at hj
    · rw [List.getElem?_drop] at hj
      rw [← hj]; simp
    · cases hj)
  rwa [hl] at this

theorem part_ok {P : Program} {T : Tb} (hP : TbOk P T) {C : Cx} {t : TypeId} {cells : List AV} {off : Nat} {a : AV} (h : loadCells cells off (sizeA T t) (isAggA T t) = some a)
    {w : World} {b : Nat} {c : Array Value} {e : TypeId} {fr : Nat × Nat} (hh : w.heap[b]? = some (.cells c e fr)) (hv : VRs C cells (c.toList.take cells.length)) :
    ∃ z, (loadVar t ⟨b, off, none⟩).run P w = .ok z w ∧ VR C a z := by
  unfold loadCells at h
  split at h
  · rename_i hagg
    split at h
    · rename_i n hn
      unfold aggOf at h
      split at h
      · rename_i cs hr
        cases h
        obtain ⟨hl, rfl⟩ := rowAt_ok hr
        obtain ⟨h1, h2⟩ := VRs.row hv hl
        refine ⟨_, ?_, ⟨_, rfl, by simpa using h1⟩⟩
        simp only [loadVar, Sem.run_bind, run_agg hP hagg, Result.andThen_ok, if_true, run_size hP hn, run_loadRow hh h2, Sem.run_pure]
      · cases h
    · cases h
  · rename_i hagg
    obtain ⟨v, hvi, hva⟩ := hv.get h
    refine ⟨v, ?_, hva⟩
    have hc : w.cell? ⟨b, off, none⟩ = some v := by
      rw [cell_at w b c e fr hh]
      rw [List.getElem?_take] at hvi
      split at hvi
      · simpa using hvi
      · cases hvi
    simp only [loadVar, Sem.run_bind, run_agg hP hagg, Result.andThen_ok, Bool.false_eq_true, if_false, run_load, hc]
  · simp [bad] at h

/-! ### Rows that are read only -/
theorem roAt_ok {o : Option AObj} {cells : List AV} (h : roAt o = some cells) : o = some (.ro cells) := by
  unfold roAt at h
  split at h
  · cases h; rfl
  · simp [bad] at h
theorem add_add (a : Addr) (m n : Nat) : (a.add m).add n = a.add (m + n) := by
  unfold Addr.add
  by_cases hm : m = 0
  · subst hm; simp
  · by_cases hn : n = 0
    · subst hn; simp
    · rw [if_neg hm, if_neg hn, if_neg (by omega)]
      simp [Nat.add_assoc]
/-- Cells that read as a list. -/
def Reads (C : Cx) (w : World) (a : Addr) (l : List AV) : Prop := ∀ i x, l[i]? = some x → ∃ v, w.cell? (a.add i) = some v ∧ VR C x v
theorem Reads.vals {C : Cx} {w : World} : ∀ {l : List AV} {a : Addr}, Reads C w a l → ∃ vs : List Value, VRs C l vs ∧ ∀ j v, vs[j]? = some v → w.cell? (a.add j) = some v
  | [], a, _ => ⟨[], rfl, fun j v h => by simp at h⟩
  | x :: l, a, h => by
    obtain ⟨v, h1, h2⟩ := h 0 x rfl
    obtain ⟨vs, h3, h4⟩ := Reads.vals (l := l) (a := a.add 1) (fun i y hi => by
      obtain ⟨v, q1, q2⟩ := h (i + 1) y (by simpa using hi)
      exact ⟨v, by rw [add_add, Nat.add_comm]; exact q1, q2⟩)
    refine ⟨v :: vs, VRs.cons h2 h3, fun j u hj => ?_⟩
    cases j with
    | zero => simp at hj; subst hj; exact h1
    | succ j =>
      simp at hj
      have := h4 j u hj
      rw [add_add, Nat.add_comm] at this
      exact this
theorem Reads.row {C : Cx} {w : World} {cells : List AV} {a : Addr} (h : Reads C w a cells) (off n : Nat) : Reads C w (a.add off) ((cells.drop off).take n) := fun i x hi => by
  rw [List.getElem?_take] at hi
  split at hi
  · rw [List.getElem?_drop] at hi
    obtain ⟨v, q1, q2⟩ := h (off + i) x hi
    exact ⟨v, by rw [add_add]; exact q1, q2⟩
  · cases hi
theorem partR_ok {P : Program} {T : Tb} (hP : TbOk P T) {C : Cx} {t : TypeId} {cells : List AV} {off : Nat} {a : AV} (h : loadCells cells off (sizeA T t) (isAggA T t) = some a)
    {w : World} {ad : Addr} (hc : Reads C w ad cells) : ∃ z, (loadVar t (ad.add off)).run P w = .ok z w ∧ VR C a z := by
  unfold loadCells at h
  split at h
  · rename_i hagg
    split at h
    · rename_i n hn
      unfold aggOf at h
      split at h
      · rename_i cs hr
        cases h
        obtain ⟨hl, rfl⟩ := rowAt_ok hr
        obtain ⟨vs, h1, h2⟩ := (hc.row off n).vals
        have hlen : vs.length = n := by
          have := h1.length
          simp only [List.length_take, List.length_drop] at this
          omega
        have hrun := run_loadCells_list (P := P) w (ad.add off) vs h2
        rw [hlen] at hrun
        refine ⟨.agg vs.toArray, ?_, ⟨_, rfl, by simpa using h1⟩⟩
        simp only [loadVar, Sem.run_bind, run_agg hP hagg, Result.andThen_ok, if_true, run_size hP hn, hrun, Sem.run_pure]
      · cases h
    · cases h
  · rename_i hagg
    obtain ⟨v, hv, hr⟩ := hc off a h
    refine ⟨v, ?_, hr⟩
    simp only [loadVar, Sem.run_bind, run_agg hP hagg, Result.andThen_ok, Bool.false_eq_true, if_false, run_load, hv]
  · simp [bad] at h
theorem R.reads {ok : Nat → Prop} {C : Cx} {σ : St} {w : World} (hR : R ok C σ w) {id : Nat} {cells : List AV} (h : roAt (σ.get id) = some cells) {a : Addr} (ha : C.ra id = some a) : Reads C w a cells := by
  obtain ⟨_, a', h1, _, h2⟩ := hR.ro id cells (roAt_ok h)
  rw [ha] at h1
  cases h1
  exact h2

theorem load_ok {P : Program} {T : Tb} (hP : TbOk P T) {ok : Nat → Prop} {C : Cx} {σ : St} {w : World} (hR : R ok C σ w) {t : TypeId} {v a : AV} {y : Value} (h : loadA T t v σ = some a) (hy : VR C v y) :
    ∃ z, (Instr.loadAt t y).run P w = .ok z w ∧ VR C a z := by
  unfold loadA at h
  split at h
  · rename_i id ver off
    split at h
    · rename_i cells hc
      obtain ⟨ad, rfl, hp, ha⟩ := hy
      obtain ⟨hcur, c, e, hh, hv, _⟩ := hR.arr hc hp
      rw [ha hcur]
      obtain ⟨z, hz, hr⟩ := part_ok hP h hh hv
      exact ⟨z, by simp [Instr.loadAt, Instr.sureAddr, hz], hr⟩
    · cases h
  · rename_i id off
    split at h
    · rename_i cells hc
      obtain ⟨ad, rfl, ha⟩ := hy
      obtain ⟨z, hz, hr⟩ := partR_ok hP h (hR.reads hc ha)
      exact ⟨z, by simp [Instr.loadAt, Instr.sureAddr, hz], hr⟩
    · cases h
  · simp [bad] at h

/-! ### Stores -/
theorem setRow_other (w : World) (g : Nat) (c : Array Value) (k : Nat) (h : k ≠ g) : (w.setRow g c).heap[k]? = w.heap[k]? := by
  simp only [World.setRow, Array.getElem?_modify]
  rw [if_neg (fun e => h e.symm)]
theorem VRs.splice {C : Cx} {cells xs : List AV} {c vs : List Value} (h : VRs C cells (c.take cells.length)) (hx : VRs C xs vs) {off : Nat} (hl : off + xs.length ≤ cells.length) :
    VRs C (spliceAt cells off xs) ((c.take off ++ vs ++ c.drop (off + vs.length)).take (spliceAt cells off xs).length) ∧ (spliceAt cells off xs).length = cells.length := by
  have hvl := hx.length
  have hcl := h.length
  simp only [List.length_take] at hcl
  have hlen : (spliceAt cells off xs).length = cells.length := by
    unfold spliceAt
    simp only [List.length_append, List.length_take, List.length_drop]
    omega
  refine ⟨?_, hlen⟩
  rw [hlen]
  have e : (c.take off ++ vs ++ c.drop (off + vs.length)).take cells.length = (c.take cells.length).take off ++ vs ++ (c.take cells.length).drop (off + xs.length) := by
    rw [List.take_take, Nat.min_eq_left (by omega), List.take_append, List.take_of_length_le (by simp; omega), List.drop_take]
    congr 1
    rw [hvl]
    congr 1
    simp only [List.length_append, List.length_take]
    omega
  rw [e]
  exact VRs.append (VRs.append (VRs.take off h) hx) (VRs.drop _ h)
theorem all_splice {cells xs : List AV} {off : Nat} (h : cells.all AV.one = true) (hx : xs.all AV.one = true) : (spliceAt cells off xs).all AV.one = true := by
  unfold spliceAt
  simp only [List.all_append, Bool.and_eq_true]
  refine ⟨⟨?_, hx⟩, ?_⟩
  · rw [List.all_eq_true] at *
    exact fun a ha => h a (List.mem_of_mem_take ha)
  · rw [List.all_eq_true] at *
    exact fun a ha => h a (List.mem_of_mem_drop ha)

/-- Cells are written in a live array. -/
theorem R.splice {P : Program} {ok : Nat → Prop} {C : Cx} {σ : St} {w : World} (hR : R ok C σ w) {id ver off : Nat} {cells xs : List AV} {vs : List Value} (hg : cellsAt σ id ver = some cells) (hp : Past C id ver)
    (hx : VRs C xs vs) (hx1 : xs.all AV.one = true) (hl : off + xs.length ≤ cells.length) :
    ∃ w', (Go.storeCells ⟨C.μ id, off, none⟩ vs).run P w = .ok () w' ∧ Nx ok C σ w C (σ.put id (.arr ver (spliceAt cells off xs))) w' := by
  obtain ⟨hcur, c, e, hh, hv, h1⟩ := hR.arr hg hp
  have hvl := hx.length
  have hcl := hv.length
  simp only [List.length_take, Array.length_toList] at hcl
  have hst := run_storeCells_at P (C.μ id) off e vs 0 c w hh (by omega) (hx.ones hx1)
  simp only [Nat.add_zero] at hst
  refine ⟨_, hst, hR.put (live_ok hg) hcur rfl ?_ rfl rfl rfl (by simp [World.setRow]) (fun k hk => setRow_other w _ _ k hk) ?_⟩
  · obtain ⟨h2, _⟩ := VRs.splice hv hx hl
    exact ⟨_, e, setRow_heap w _ c _ e (0, 0) hh, by simpa using h2, all_splice h1 hx1⟩
  · have hb := hR.bs (C.μ id)
    unfold bsize at *
    rw [setRow_heap w _ c _ e (0, 0) hh]
    rw [hh] at hb
    simp only at hb ⊢
    refine Nat.le_trans hb ?_
    simp only [List.size_toArray, List.length_append, List.length_take, List.length_drop, Array.length_toList]
    omega

theorem store_ok {P : Program} {T : Tb} (hP : TbOk P T) {ok : Nat → Prop} {C : Cx} {σ σ' : St} {w : World} (hR : R ok C σ w) {t : TypeId} {v x : AV} {y z : Value} (h : storeA T t v x σ = some σ') (hy : VR C v y) (hz : VR C x z) :
    ∃ w', (Instr.storeAt t y z).run P w = .ok () w' ∧ Nx ok C σ w C σ' w' := by
  unfold storeA at h
  split at h
  · rename_i id ver off
    split at h
    · rename_i cells n hc hn
      unfold storeCells at h
      split at h
      · rename_i hb
        simp only [Bool.and_eq_true] at hb
        obtain ⟨⟨h1, h2⟩, h3⟩ := hb
        have hxl := Nat.eq_of_beq_eq_true h1
        rw [forceL_eq] at h
        cases h
        obtain ⟨ad, rfl, hp, ha⟩ := hy
        obtain ⟨hcur, _⟩ := hR.arr hc hp
        rw [ha hcur]
        have hcs := hz.cells
        have hsz : z.cells.size = n := by have := hcs.length; simp at this; omega
        obtain ⟨w', hr, hn'⟩ := hR.splice (P := P) (off := off) hc hp hcs h2 (by rw [hxl]; exact Nat.le_of_ble_eq_true h3)
        refine ⟨w', ?_, hn'⟩
        simp [Instr.storeAt, Instr.sureAddr, storeVar, run_size hP hn, hsz, hr]
      · simp [bad] at h
    · simp [bad] at h
  · simp [bad] at h

/-! ### New rows -/
theorem newArr_ok {P : Program} {ok : Nat → Prop} {C : Cx} {σ σ' : St} {w : World} (hR : R ok C σ w) (hok : ∀ b, w.heap.size ≤ b → ok b) {cells : List AV} {id : Nat} (h : newArr cells σ = some (id, σ')) {vs : Array Value}
    (hv : VRs C cells (vs.toList.take cells.length)) (e : TypeId) :
    ∃ C', (newRow e vs).run P w = .ok ⟨w.heap.size, 0, none⟩ (w.alloc (.cells vs e)) ∧ Nx ok C σ w C' σ' (w.alloc (.cells vs e)) ∧ C'.cur id = some 0 ∧ C'.μ id = w.heap.size ∧ vs.size ≤ C'.bs w.heap.size := by
  unfold newArr at h
  split at h
  · rename_i h1
    obtain ⟨hid, hn⟩ := hR.new (.cells vs e) vs.size h hok rfl (fun C' e' => ⟨vs, e, heap_push_new w _, VRs.ext e' _ _ hv, h1⟩)
      (by unfold bsize; rw [heap_push_new]; exact Nat.le_refl _)
    refine ⟨_, by simp [newRow], hn, by simp [Cx.upd], by simp [Cx.upd], ?_⟩
    simp only [Cx.upd, if_true]
    omega
  · simp [bad] at h
end Go.Ab
