/- The evaluator's operations and the model's: append, copy, clear, len. -/
import Derived.Test.YtmchghdmejbblaaGreatDoorA6
import Derived.Laws.AppendOwn
set_option linter.unusedSimpArgs false
set_option linter.unusedVariables false
namespace Go.Ab

/-- A slice that is read. -/
theorem elems_ok {P : Program} {ok : Nat → Prop} {C : Cx} {σ : St} {w : World} (hR : R ok C σ w) {x : AV} {n k : Nat} {new : List AV} {y : Value} (h : elemsA x n σ = some (k, new)) (hy : VR C x y) :
    ∃ vs : List Value, (Builtin.lenOf y).run P w = .ok k w ∧ VRs C new vs ∧ vs.length = k * n ∧ new.length = k * n ∧
      (∀ m, m ≤ k → (Builtin.firstCells n m y).run P w = .ok (vs.take (m * n)).toArray w) := by
  unfold elemsA at h
  split at h
  · cases h
    cases hy
    refine ⟨[], rfl, rfl, by simp, by simp, fun m hm => ?_⟩
    have : m = 0 := by omega
    subst this
    simp [Builtin.firstCells]
  · rename_i id ver off len lo sz ex
    unfold elemsIn at h
    split at h
    · rename_i cells hc
      split at h
      · rename_i hb
        simp only [Bool.and_eq_true] at hb
        have e1 := Nat.eq_of_beq_eq_true hb.1
        have e2 := Nat.le_of_ble_eq_true hb.2
        subst e1
        split at h
        · rename_i r hr
          cases h
          obtain ⟨ad, cp, rfl, hp, hl, hx, ha⟩ := hy
          obtain ⟨hcur, c, e, hh, hv, _⟩ := hR.arr hc hp
          obtain ⟨o, rfl, ho, hbs⟩ := ha hcur
          obtain ⟨hle, rfl⟩ := rowAt_ok hr
          obtain ⟨h1, h2⟩ := VRs.row hv hle
          refine ⟨(c.toList.drop off).take (k * sz), rfl, h1, h2, by simp; omega, fun m hm => ?_⟩
          have hmk : m * sz ≤ k * sz := Nat.mul_le_mul_right sz hm
          rw [List.take_take, Nat.min_eq_left hmk]
          by_cases h0 : k = 0
          · have : m = 0 := by omega
            subst this
            simp [Builtin.firstCells, Go.loadCells, loadCellsFrom]
          · rw [ho (by omega)]
            have := run_loadRow (P := P) (w := w) hh (off := off) (n := m * sz) (by
              simp only [List.length_take, List.length_drop, Array.length_toList] at h2 ⊢
              omega)
            simpa [Builtin.firstCells] using this
        · cases h
      · simp [bad] at h
    · cases h
  · rename_i id off len
    unfold elemsR at h
    split at h
    · rename_i cells hc
      split at h
      · rename_i r hr
        cases h
        obtain ⟨b, cp, rfl, hl, ad, ha, hb⟩ := hy
        obtain ⟨hle, rfl⟩ := rowAt_ok hr
        obtain ⟨vs, h1, h2⟩ := ((hR.reads hc ha).row off (k * n)).vals
        have hvl : vs.length = k * n := by
          have := h1.length
          simp only [List.length_take, List.length_drop] at this
          omega
        refine ⟨vs, rfl, h1, hvl, by simp; omega, fun m hm => ?_⟩
        have hmk : m * n ≤ k * n := Nat.mul_le_mul_right n hm
        by_cases h0 : k = 0
        · have : m = 0 := by omega
          subst this
          simp [Builtin.firstCells, Go.loadCells, loadCellsFrom]
        · rw [hb (by omega)]
          have := run_loadCells_list (P := P) w (ad.add off) (vs.take (m * n)) (fun j v hj => by
            rw [List.getElem?_take] at hj
            split at hj
            · exact h2 j v hj
            · cases hj)
          rw [List.length_take, Nat.min_eq_left (by omega)] at this
          simpa [Builtin.firstCells] using this
      · cases h
    · cases h
  · cases h
    obtain ⟨b, rfl⟩ := hy
    refine ⟨[], rfl, rfl, by simp, by simp, fun m hm => ?_⟩
    have : m = 0 := by omega
    subst this
    simp [Builtin.firstCells, Go.loadCells, loadCellsFrom]
  · simp [bad] at h

theorem zeroCells_eq (zs : Array Value) (h0 : 0 < zs.size) (len : Nat) : (Builtin.zeroCells zs len).toList = repeatV zs.toList len := by
  have := range_repeat zs zs.size rfl h0 len
  rw [← this]
  simp [Builtin.zeroCells]
theorem repeatV_length (zs : List Value) : ∀ n, (repeatV zs n).length = n * zs.length
  | 0 => by simp [repeatV]
  | n + 1 => by simp [repeatV, repeatV_length zs n, Nat.succ_mul, Nat.add_comm]

/-- An array is written behind its end. -/
theorem R.extend {P : Program} {ok : Nat → Prop} {C : Cx} {σ : St} {w : World} (hR : R ok C σ w) {id ver : Nat} {cells xs : List AV} {vs : List Value} (hg : cellsAt σ id ver = some cells) (hp : Past C id ver)
    (hx : VRs C xs vs) (hx1 : xs.all AV.one = true) (hl : cells.length + xs.length ≤ C.bs (C.μ id)) :
    ∃ w', (Go.storeCells ⟨C.μ id, cells.length, none⟩ vs).run P w = .ok () w' ∧ Nx ok C σ w C (σ.put id (.arr ver (cells ++ xs))) w' ∧
      (w'.os = w.os ∧ w'.tape = w.tape ∧ w'.output = w.output ∧ w'.heap.size = w.heap.size ∧ (∀ k, k ≠ C.μ id → w'.heap[k]? = w.heap[k]?) ∧ (∀ k, bsize w k ≤ bsize w' k) ∧
        ∀ C', Ext C C' → ORel C' w' (.arr (ver + 1) (cells ++ xs)) (C.μ id)) := by
  obtain ⟨hcur, c, e, hh, hv, h1⟩ := hR.arr hg hp
  have hvl := hx.length
  have hcl := hv.length
  simp only [List.length_take, Array.length_toList] at hcl
  have hbs := hR.bs (C.μ id)
  have hcs : bsize w (C.μ id) = c.size := by unfold bsize; rw [hh]
  have hst := run_storeCells_at P (C.μ id) cells.length e vs 0 c w hh (by omega) (hx.ones hx1)
  simp only [Nat.add_zero] at hst
  have hrow := setRow_heap w (C.μ id) c (c.toList.take cells.length ++ vs ++ c.toList.drop (cells.length + vs.length)).toArray e (0, 0) hh
  have hVR : VRs C (cells ++ xs) (((c.toList.take cells.length ++ vs ++ c.toList.drop (cells.length + vs.length)).toArray.toList).take (cells ++ xs).length) := by
    rw [List.toList_toArray, List.length_append, List.take_append, List.take_of_length_le (by simp; omega)]
    have e0 : cells.length + xs.length - (c.toList.take cells.length ++ vs).length = 0 := by simp; omega
    rw [e0, List.take_zero, List.append_nil]
    exact VRs.append hv hx
  have hall : (cells ++ xs).all AV.one = true := by simp only [List.all_append, h1, hx1, Bool.and_self]
  have hbig : ∀ k, bsize w k ≤ bsize (w.setRow (C.μ id) (c.toList.take cells.length ++ vs ++ c.toList.drop (cells.length + vs.length)).toArray) k := by
    intro k
    by_cases hk : k = C.μ id
    · subst hk
      rw [hcs]
      unfold bsize
      rw [hrow]
      simp only [List.size_toArray, List.length_append, List.length_take, List.length_drop, Array.length_toList]
      omega
    · unfold bsize
      rw [setRow_other w _ _ k hk]
      exact Nat.le_refl _
  refine ⟨_, hst, hR.put (live_ok hg) hcur rfl ⟨_, e, hrow, hVR, hall⟩ rfl rfl rfl (by simp [World.setRow]) (fun k hk => setRow_other w _ _ k hk) (Nat.le_trans hbs (hbig _)),
    rfl, rfl, rfl, by simp [World.setRow], fun k hk => setRow_other w _ _ k hk, hbig, fun C' he => ⟨_, e, hrow, VRs.ext he _ _ hVR, hall⟩⟩

/-- An array is grown: a version more, in its block or in a new one. -/
theorem R.bump {ok : Nat → Prop} {C : Cx} {σ : St} {w w' : World} (h : R ok C σ w) (hok : ∀ b, w.heap.size ≤ b → ok b) {id ver n b : Nat} {o o' : AObj} (hg : σ.get id = some o) (hc : C.cur id = some ver)
    (hb : b = C.μ id ∨ w.heap.size ≤ b) (hcur : curOf o' = ver + 1) (ho : ∀ C', Ext C C' → ORel C' w' o' b) (hos : w'.os = w.os) (ht : w'.tape = w.tape) (hout : w'.output = w.output) (hsz : w.heap.size ≤ w'.heap.size)
    (hbl : ∀ k, k ≠ b → k < w.heap.size → w'.heap[k]? = w.heap[k]?) (hbs : ∀ k, bsize w k ≤ bsize w' k) (hn : n ≤ bsize w' b) : Nx ok C σ w (C.upd id b (ver + 1) n) (σ.put id o') w' := by
  have hlt : id < σ.next := h.lt id o hg
  have hob := h.obj id o ver hg hc
  have hokb : ok b := by
    rcases hb with rfl | hb
    · exact hob.2.2
    · exact hok b hb
  have e := Ext.upd_grow (C := C) (id := id) (b := b) (ver := ver) (n := n) hc
  have big : ∀ k ck, C.cur k = some ck → C.μ k < w.heap.size := fun k ck hk => by
    obtain ⟨x, hx⟩ := h.dom k ck hk
    exact (h.obj k x ck hx hk).2.1.lt
  have apart : ∀ k ck, C.cur k = some ck → k ≠ id → C.μ k ≠ b := fun k ck hk hne he => by
    rcases hb with rfl | hb
    · exact hne (h.inj k id ck ver hk hc he)
    · have := big k ck hk
      omega
  refine ⟨⟨?_, ?_, ?_, ?_, ?_, h.le, ?_⟩, e, ⟨hos, ht, hout, hsz, fun k hk => ?_⟩, ?_, Nat.le_refl _⟩
  · intro i x cv' hi hci
    rw [St.get_put σ id i o'] at hi
    by_cases ei : i = id
    · subst ei
      rw [if_pos rfl] at hi
      cases hi
      simp only [Cx.upd, if_true, Option.some.injEq] at hci
      subst hci
      refine ⟨hcur.symm, ?_, ?_⟩
      · simp only [Cx.upd, if_true]; exact ho _ e
      · simp only [Cx.upd, if_true]; exact hokb
    · rw [if_neg ei] at hi
      simp only [Cx.upd, ei, if_false] at hci
      obtain ⟨h1, h2, h3⟩ := h.obj i x cv' hi hci
      refine ⟨h1, ?_, ?_⟩
      · simp only [Cx.upd, ei, if_false]
        exact h2.ext e (hbl _ (apart i cv' hci ei) h2.lt)
      · simp only [Cx.upd, ei, if_false]; exact h3
  · intro i cv' hci
    rw [St.get_put σ id i o']
    by_cases ei : i = id
    · exact ⟨o', if_pos ei⟩
    · rw [if_neg ei]
      simp only [Cx.upd, ei, if_false] at hci
      exact h.dom i cv' hci
  · intro i j ci cj hi hj hij
    simp only [Cx.upd] at hi hj hij
    by_cases ei : i = id <;> by_cases ej : j = id
    · rw [ei, ej]
    · simp only [ei, ej, if_true, if_false] at hi hj hij
      exact absurd hij.symm (apart j cj hj ej)
    · simp only [ei, ej, if_true, if_false] at hi hj hij
      exact absurd hij (apart i ci hi ei)
    · simp only [ei, ej, if_false] at hi hj hij
      exact h.inj i j ci cj hi hj hij
  · intro i x hi
    rw [St.get_put σ id i o'] at hi
    by_cases ei : i = id
    · rw [ei]; exact hlt
    · rw [if_neg ei] at hi; exact h.lt i x hi
  · intro k
    have h1 := h.bs k
    have h2 := hbs k
    simp only [Cx.upd]
    split
    · rename_i ek; subst ek; omega
    · omega
  · intro i cells hi
    rw [St.get_put σ id i o'] at hi
    by_cases ei : i = id
    · rw [if_pos ei] at hi
      cases hi
      exact (ho _ e).elim
    · rw [if_neg ei] at hi
      obtain ⟨h1, a, h2, h3⟩ := h.ro i cells hi
      refine ⟨by simp [Cx.upd, ei, h1], a, h2, h3.keep e fun k hk => ?_⟩
      by_cases hkl : k < w.heap.size
      · exact hbl k (fun e => hk (e ▸ hokb)) hkl
      · exact absurd (hok k (by omega)) hk
  · by_cases hkl : k < w.heap.size
    · exact hbl k (fun e => hk (e ▸ hokb)) hkl
    · exact absurd (hok k (by omega)) hk
  · intro i hi hci
    have ei : i ≠ id := by intro e; rw [e, hc] at hci; cases hci
    exact ⟨by rw [St.get_put σ id i o', if_neg ei], by simp [Cx.upd, ei, hci]⟩

/-- What an append does, at values: in its place where there is room; else a new row. -/
theorem run_append_in {P : Program} {w w' : World} {st xt ty elem e : TypeId} {base : Option Addr} {len cap k : Nat} {i : TypeInfo} {y : Value} {vs : List Value} (hu : P.underlying st = some (.slice elem)) (hx : P.underlying xt = some (.slice e))
    (hi : P.info? elem = some i) (hl : (Builtin.lenOf y).run P w = .ok k w) (hf : (Builtin.firstCells i.size k y).run P w = .ok vs.toArray w) (hle : len + k ≤ cap)
    (hs : ∀ a, base = some a → (Go.storeCells (a.add (len * i.size)) vs).run P w = .ok () w') (hb : base = none → w' = w) :
    (Builtin.append_ #[st, xt] ty #[.slice base len cap, y]).run P w = .ok (.slice base (len + k) cap) w' := by
  cases base with
  | none =>
    rw [hb rfl]
    simp [Builtin.append_, run_underlying hu, run_underlying hx, sizeOf, typeInfo, hi, hl, hle, hf]
  | some a => simp [Builtin.append_, run_underlying hu, run_underlying hx, sizeOf, typeInfo, hi, hl, hle, hf, hs a rfl]

theorem run_append_new {P : Program} {w : World} {st xt ty elem e : TypeId} {base : Option Addr} {len cap k : Nat} {i : TypeInfo} {y : Value} {vs old : List Value} {z : Value} (hu : P.underlying st = some (.slice elem)) (hx : P.underlying xt = some (.slice e))
    (hi : P.info? elem = some i) (hz : i.zero = some z) (hl : (Builtin.lenOf y).run P w = .ok k w) (hf : (Builtin.firstCells i.size k y).run P w.drew = .ok vs.toArray w.drew) (hle : ¬ len + k ≤ cap)
    (ho : (Builtin.firstCells i.size len (.slice base len cap)).run P w.drew = .ok old.toArray w.drew) (hb1 : i.bytes ≤ 65536) (hb0 : 0 < i.bytes) (hk : len + k ≤ 16777216) :
    (Builtin.append_ #[st, xt] ty #[.slice base len cap, y]).run P w = .ok (.slice (some ⟨w.heap.size, 0, none⟩) (len + k) (grownCap w (len + k) cap elem))
        (w.drew.alloc (.cells (old.toArray ++ vs.toArray ++ Builtin.zeroCells z.cells (grownCap w (len + k) cap elem - (len + k))) elem)) := by
  have hcap : Builtin.nextslicecap (len + k) cap ≤ 2 * (len + k) := nextslicecap_le (by omega)
  have h48' : ¬ (281474976710656 < Builtin.nextslicecap (len + k) cap * i.bytes) := by
    have : Builtin.nextslicecap (len + k) cap * i.bytes ≤ (2 * 16777216) * 65536 := Nat.mul_le_mul (by omega) (by omega)
    omega
  have hb00 : ¬ i.bytes = 0 := by omega
  simp [Builtin.append_, run_underlying hu, run_underlying hx, sizeOf, typeInfo, zeroValue, hi, hz, hl, hle, hb00, h48', Question.forced, hf, ho, newRow, grownCap]
  congr 2
  apply Array.ext'
  simp [List.append_assoc]

theorem append_ok {P : Program} {T : Tb} (hP : TbOk P T) {ok : Nat → Prop} {C : Cx} {σ σ' : St} {w : World} (hR : R ok C σ w) (hok : ∀ b, w.heap.size ≤ b → ok b) {ats : Array TypeId} {args : List AV} {ys : Array Value} {a : AV} {ty : TypeId}
    (h : appendA T ats.toList args σ = some (a, σ')) (hy : VRs C args ys.toList) : ∃ C' w' z, (Builtin.append_ ats ty ys).run P w = .ok z w' ∧ Nx ok C σ w C' σ' w' ∧ VR C' a z := by
  obtain ⟨ats⟩ := ats
  obtain ⟨ys⟩ := ys
  simp only at h hy
  unfold appendA at h
  split at h
  · rename_i st xt s x
    obtain ⟨sv, l1, rfl, hs, hy⟩ := hy
    obtain ⟨xv, l2, rfl, hx, hy⟩ := hy
    cases hy
    split at h
    · rename_i elem e hu hux
      have hu := und_ok hP hu
      have hux := und_ok hP hux
      split at h
      · rename_i n b z hn hb hz
        obtain ⟨i, hi, hin⟩ := size_ok hP hn
        have hib : i.bytes = b := by
          obtain ⟨j, hj, hjb⟩ := run_bytes hP hb w
          simp only [typeInfo, Sem.run_bind, run_program, Result.andThen_ok, hi, Sem.run_pure, Result.ok.injEq] at hj
          rw [hj.1]; exact hjb
        obtain ⟨zv, hzr, hzo⟩ := run_zero hP hz w
        have hiz : i.zero = some zv := by
          cases hq : i.zero with
          | none => simp [zeroValue, typeInfo, hi, hq] at hzr
          | some v => simp [zeroValue, typeInfo, hi, hq] at hzr; rw [hzr]
        obtain ⟨_, hzc, hz1, _⟩ := ofV_ok (C := C) hzo
        unfold appendTo at h
        split at h
        · rename_i k new hel
          obtain ⟨vs, hlen, hvs, hvl, hnl, hfc⟩ := elems_ok (P := P) hR hel hx
          obtain ⟨us, _, hus, hul, _, hfd⟩ := elems_ok (P := P) (w := w.drew) (hR.drew rfl) hel hx
          have hfk := hfc k (Nat.le_refl _)
          rw [List.take_of_length_le (by omega)] at hfk
          have hfu := hfd k (Nat.le_refl _)
          rw [List.take_of_length_le (by omega)] at hfu
          split at h
          · rename_i hbb
            simp only [Bool.and_eq_true] at hbb
            obtain ⟨⟨⟨⟨c1, c2⟩, c3⟩, c4⟩, c5⟩ := hbb
            have hn0 : 0 < n := by simpa using c1
            have hb1 := Nat.le_of_ble_eq_true c2
            have hb0 : 0 < b := by simpa using c3
            have hzn := Nat.eq_of_beq_eq_true c4
            have hzs : zv.cells.size = n := by have := hzc.length; simp at this; omega
            have rowSize : ∀ (old : List Value) (len q : Nat), old.length = len * n → len + k ≤ q → q * n ≤ (old.toArray ++ us.toArray ++ Builtin.zeroCells zv.cells (q - (len + k))).size := fun old len q ho hq => by
              simp only [Array.size_append, List.size_toArray, size_zeroCells, hzs, ho, hul]
              rw [← Nat.add_mul, ← Nat.add_mul]
              exact Nat.mul_le_mul_right n (by omega)
            subst hin
            split at h
            · cases hs
              unfold appendNil at h
              split at h
              · rename_i hk
                have hk := Nat.eq_of_beq_eq_true hk
                cases h
                subst hk
                refine ⟨C, w, .slice none 0 0, ?_, Nx.refl hR, rfl⟩
                have := run_append_in (ty := ty) (base := none) (len := 0) (cap := 0) (w' := w) hu hux hi hlen hfk (by omega) (fun a h => by cases h) (fun _ => rfl)
                simpa using this
              · rename_i hk
                have hk0 : k ≠ 0 := fun e => by rw [beq_yes e] at hk; cases hk
                split at h
                · rename_i hk2
                  have hk2 := Nat.le_of_ble_eq_true hk2
                  unfold slOf at h
                  split at h
                  · rename_i id σ1 hnew
                    cases h
                    have hr := run_append_new (ty := ty) (base := none) (len := 0) (cap := 0) (old := []) hu hux hi hiz hlen hfu (by omega) (by simp [Builtin.firstCells]) (by omega) (by omega) (by omega)
                    obtain ⟨C', hr2, hx2, hcur, hmu, hbs⟩ := newArr_ok (P := P) (hR.drew (w' := w.drew) rfl) (by simpa using hok) hnew (vs := [].toArray ++ us.toArray ++ Builtin.zeroCells zv.cells (grownCap w (0 + k) 0 elem - (0 + k))) (by
                      simp only [Array.toList_append, List.toList_toArray, List.nil_append]
                      rw [List.take_append, List.take_of_length_le (by omega), hnl, hul, Nat.sub_self, List.take_zero, List.append_nil]
                      exact hus) elem
                    refine ⟨C', _, _, hr, (Nx.drew hR).trans hx2, ?_⟩
                    refine ⟨⟨w.heap.size, 0, none⟩, grownCap w (0 + k) 0 elem, by rw [Nat.zero_add], ⟨0, hcur, Nat.le_refl _⟩, by have := grownCap_ge w (0 + k) 0 elem; omega, (fun h => by cases h), fun _ => ⟨0, by rw [hmu]; rfl, fun _ => rfl, ?_⟩⟩
                    rw [hmu, Nat.zero_add]
                    exact Nat.le_trans (rowSize [] 0 _ (by simp) (by have := grownCap_ge w (0 + k) 0 elem; omega)) hbs
                  · cases h
                · simp [bad] at h
            · obtain ⟨ad, rfl⟩ := hs
              unfold appendE at h
              split at h
              · rename_i hk
                have hk := Nat.eq_of_beq_eq_true hk
                cases h
                subst hk
                refine ⟨C, w, .slice (some ad) 0 0, ?_, Nx.refl hR, ⟨ad, rfl⟩⟩
                have hvs0 : vs = [] := List.length_eq_zero_iff.1 (by omega)
                have := run_append_in (ty := ty) (base := some ad) (len := 0) (cap := 0) (w' := w) hu hux hi hlen hfk (by omega) (fun a _ => by rw [hvs0]; rfl) (fun h => by cases h)
                simpa using this
              · rename_i hk
                have hk0 : k ≠ 0 := fun e => by rw [beq_yes e] at hk; cases hk
                unfold appendNil at h
                rw [beq_no hk0] at h
                simp only at h
                split at h
                · rename_i hk2
                  have hk2 := Nat.le_of_ble_eq_true hk2
                  unfold slOf at h
                  split at h
                  · rename_i id σ1 hnew
                    cases h
                    have hr := run_append_new (ty := ty) (base := some ad) (len := 0) (cap := 0) (old := []) hu hux hi hiz hlen hfu (by omega) (by simp [Builtin.firstCells, Go.loadCells, loadCellsFrom]) (by omega) (by omega) (by omega)
                    obtain ⟨C', hr2, hx2, hcur, hmu, hbs⟩ := newArr_ok (P := P) (hR.drew (w' := w.drew) rfl) (by simpa using hok) hnew (vs := [].toArray ++ us.toArray ++ Builtin.zeroCells zv.cells (grownCap w (0 + k) 0 elem - (0 + k))) (by
                      simp only [Array.toList_append, List.toList_toArray, List.nil_append]
                      rw [List.take_append, List.take_of_length_le (by omega), hnl, hul, Nat.sub_self, List.take_zero, List.append_nil]
                      exact hus) elem
                    refine ⟨C', _, _, hr, (Nx.drew hR).trans hx2, ?_⟩
                    refine ⟨⟨w.heap.size, 0, none⟩, grownCap w (0 + k) 0 elem, by rw [Nat.zero_add], ⟨0, hcur, Nat.le_refl _⟩, by have := grownCap_ge w (0 + k) 0 elem; omega, (fun h => by cases h), fun _ => ⟨0, by rw [hmu]; rfl, fun _ => rfl, ?_⟩⟩
                    rw [hmu, Nat.zero_add]
                    exact Nat.le_trans (rowSize [] 0 _ (by simp) (by have := grownCap_ge w (0 + k) 0 elem; omega)) hbs
                  · cases h
                · simp [bad] at h
            · rename_i id ver off len lo sz ex
              obtain ⟨ad, cp, rfl, hp, hl, hxx, ha⟩ := hs
              unfold appendSl at h
              split at h
              · rename_i cells hc
                obtain ⟨hcur, c, ce, hh, hv, hc1⟩ := hR.arr hc hp
                obtain ⟨o, rfl, ho, hbs⟩ := ha hcur
                have hbsw := hR.bs (C.μ id)
                have hcsz : bsize w (C.μ id) = c.size := by unfold bsize; rw [hh]
                split at h
                · rename_i hb3
                  simp only [Bool.and_eq_true] at hb3
                  have e1 := Nat.eq_of_beq_eq_true hb3.1.1
                  have e2 := Nat.le_of_ble_eq_true hb3.1.2
                  have e3 := Nat.le_of_ble_eq_true hb3.2
                  subst e1
                  split at h
                  · rename_i hin
                    have hin := Nat.le_of_ble_eq_true hin
                    unfold appendIn at h
                    split at h
                    · rename_i hk
                      have hk := Nat.eq_of_beq_eq_true hk
                      cases h
                      subst hk
                      have hv0 : vs = [] := List.length_eq_zero_iff.1 (by omega)
                      subst hv0
                      refine ⟨C, w, _, run_append_in (ty := ty) (w' := w) hu hux hi hlen hfk (by omega) (fun a h => rfl) (fun h => by cases h), Nx.refl hR, ?_⟩
                      exact ⟨_, cp, rfl, hp, hl, hxx, fun _ => ⟨o, rfl, ho, hbs⟩⟩
                    · rename_i hk
                      have hk0 : k ≠ 0 := fun e => by rw [beq_yes e] at hk; cases hk
                      have hlo : 0 < lo := by omega
                      have ho := ho hlo
                      subst ho
                      split at h
                      · rename_i hfit
                        have hfit := Nat.le_of_ble_eq_true hfit
                        rw [mkSl_eq] at h
                        cases h
                        obtain ⟨w', hst, hnx⟩ := hR.splice (P := P) (off := o + len * i.size) hc hp hvs c5 (by rw [hnl]; rw [Nat.add_mul] at hfit; omega)
                        refine ⟨C, w', _, run_append_in (ty := ty) (w' := w') hu hux hi hlen hfk (by omega) (fun a h => by cases h; rw [addr_add]; exact hst) (fun h => by cases h), hnx, ?_⟩
                        exact ⟨_, cp, rfl, hp, hl, hxx, fun _ => ⟨o, rfl, fun _ => rfl, hbs⟩⟩
                      · split at h
                        · rename_i hend
                          have hend := Nat.eq_of_beq_eq_true hend
                          rw [mkSl_eq] at h
                          cases h
                          obtain ⟨w', hst, hnx, _⟩ := hR.extend (P := P) (xs := new) (vs := vs) hc hp hvs c5 (by
                            have h6 : (len + k) * i.size ≤ cp * i.size := Nat.mul_le_mul_right i.size (by omega)
                            rw [Nat.add_mul] at h6
                            omega)
                          refine ⟨C, w', _, run_append_in (ty := ty) (w' := w') hu hux hi hlen hfk (by omega) (fun a h => by cases h; rw [addr_add, hend]; exact hst) (fun h => by cases h), hnx, ?_⟩
                          exact ⟨_, cp, rfl, hp, hl, hxx, fun _ => ⟨o, rfl, fun _ => rfl, hbs⟩⟩
                        · simp [bad] at h
                  · rename_i hout
                    have hout : ¬ len + k ≤ lo := fun h => by rw [Nat.ble_eq_true_of_le h] at hout; cases hout
                    -- what was in the slice
                    have oldAt : ∀ (old : List AV), rowAt cells off (len * i.size) = some old → ∃ ol : List Value, (Builtin.firstCells i.size len (.slice (some ⟨C.μ id, o, none⟩) len cp)).run P w.drew = .ok ol.toArray w.drew ∧ VRs C old ol ∧ ol.length = len * i.size := fun old hr => by
                      obtain ⟨hle, rfl⟩ := rowAt_ok hr
                      obtain ⟨h1, h2⟩ := VRs.row hv hle
                      refine ⟨_, ?_, h1, h2⟩
                      by_cases hl0 : len = 0
                      · subst hl0
                        simp [Builtin.firstCells, Go.loadCells, loadCellsFrom]
                      · rw [ho (by omega)]
                        have := run_loadRow (P := P) (w := w.drew) (b := C.μ id) (e := ce) (fr := (0, 0)) hh (off := off) (n := len * i.size) h2
                        simpa [Builtin.firstCells] using this
                    split at h
                    · have hcp := hxx rfl
                      subst hcp
                      unfold appendNew at h
                      split at h
                      · rename_i old hrow
                        unfold slOf at h
                        split at h
                        · rename_i id' σ1 hnew
                          cases h
                          obtain ⟨ol, hol, hVo, holl⟩ := oldAt old hrow
                          have holdl := hVo.length
                          have hr := run_append_new (ty := ty) (old := ol) hu hux hi hiz hlen hfu hout hol (by omega) (by omega) (by omega)
                          have hq := grownCap_ge w (len + k) cp elem
                          obtain ⟨C', hr2, hx2, hcur', hmu, hbs'⟩ := newArr_ok (P := P) (hR.drew (w' := w.drew) rfl) (by simpa using hok) hnew (vs := ol.toArray ++ us.toArray ++ Builtin.zeroCells zv.cells (grownCap w (len + k) cp elem - (len + k))) (by
                            simp only [Array.toList_append, List.toList_toArray]
                            have e0 : (old ++ new).length = (ol ++ us).length := by simp; omega
                            rw [e0, List.take_left']
                            · exact VRs.append hVo hus
                            · rfl) elem
                          refine ⟨C', _, _, hr, (Nx.drew hR).trans hx2, ?_⟩
                          refine ⟨_, _, rfl, ⟨0, hcur', Nat.le_refl _⟩, hq, (fun h => by cases h), fun _ => ⟨0, by rw [hmu]; rfl, fun _ => rfl, ?_⟩⟩
                          rw [hmu, Nat.zero_add]
                          exact Nat.le_trans (rowSize ol len _ holl hq) hbs'
                        · cases h
                      · cases h
                    · unfold appendEnd at h
                      split at h
                      · rename_i hend
                        simp only [Bool.and_eq_true] at hend
                        have d1 := Nat.eq_of_beq_eq_true hend.1.1
                        have d2 := Nat.eq_of_beq_eq_true hend.1.2
                        have hlo : 0 < lo := by simpa using hend.2
                        subst d1
                        rw [mkSl_eq] at h
                        cases h
                        by_cases hroom : len + k ≤ cp
                        · have ho := ho hlo
                          subst ho
                          obtain ⟨w', hst, hnx, q1, q2, q3, q4, q5, q6, q7⟩ := hR.extend (P := P) (xs := new) (vs := vs) hc hp hvs c5 (by
                            have h6 : (len + k) * i.size ≤ cp * i.size := Nat.mul_le_mul_right i.size (by omega)
                            rw [Nat.add_mul] at h6
                            omega)
                          have hb' := hR.bump hok (n := cp * i.size) (b := C.μ id) (live_ok hc) hcur (.inl rfl) (o' := .arr (ver + 1) (cells ++ new)) rfl q7 q1 q2 q3 (by omega) (fun k hk _ => q5 k hk) q6 (by have := q6 (C.μ id); omega)
                          refine ⟨_, w', _, run_append_in (ty := ty) (w' := w') hu hux hi hlen hfk hroom (fun a h => by cases h; rw [addr_add, Nat.zero_add, d2]; exact hst) (fun h => by cases h), hb', ?_⟩
                          refine ⟨_, cp, rfl, ⟨ver + 1, by simp [Cx.upd], Nat.le_refl _⟩, hroom, (fun h => by cases h), fun _ => ⟨0, by simp [Cx.upd], fun _ => rfl, ?_⟩⟩
                          simp only [Cx.upd, if_true]
                          omega
                        · obtain ⟨ol, hol, hVo, holl⟩ := oldAt cells (by
                            unfold rowAt
                            rw [show Nat.ble (0 + len * i.size) cells.length = true from Nat.ble_eq_true_of_le (by omega)]
                            simp [d2])
                          have hr := run_append_new (ty := ty) (old := ol) hu hux hi hiz hlen hfu hroom hol (by omega) (by omega) (by omega)
                          have hq := grownCap_ge w (len + k) cp elem
                          have hnew' : ∀ C', Ext C C' → ORel C' (w.drew.alloc (.cells (ol.toArray ++ us.toArray ++ Builtin.zeroCells zv.cells (grownCap w (len + k) cp elem - (len + k))) elem)) (.arr (ver + 1) (cells ++ new)) w.heap.size := fun C' he => by
                            refine ⟨_, elem, heap_push_new w.drew _, ?_, by simp only [List.all_append, hc1, c5, Bool.and_self]⟩
                            simp only [Array.toList_append, List.toList_toArray]
                            have e0 : (cells ++ new).length = (ol ++ us).length := by simp; omega
                            rw [e0, List.take_left']
                            · exact VRs.ext he _ _ (VRs.append hVo hus)
                            · rfl
                          have hb' := hR.bump hok (w' := w.drew.alloc (.cells (ol.toArray ++ us.toArray ++ Builtin.zeroCells zv.cells (grownCap w (len + k) cp elem - (len + k))) elem)) (n := grownCap w (len + k) cp elem * i.size) (b := w.heap.size) (live_ok hc) hcur (.inr (Nat.le_refl _)) (o' := .arr (ver + 1) (cells ++ new)) rfl hnew' rfl rfl rfl (by simp) (fun k hk hkl => heap_push_lt w.drew _ k hkl)
                            (fun k => bsize_push w.drew _ k) (by
                              unfold bsize
                              rw [show (w.drew.alloc (.cells (ol.toArray ++ us.toArray ++ Builtin.zeroCells zv.cells (grownCap w (len + k) cp elem - (len + k))) elem)).heap[w.heap.size]? = _ from heap_push_new w.drew _]
                              exact rowSize ol len _ holl hq)
                          refine ⟨_, _, _, hr, hb', ?_⟩
                          refine ⟨_, _, rfl, ⟨ver + 1, by simp [Cx.upd], Nat.le_refl _⟩, hq, (fun h => by cases h), fun _ => ⟨0, by simp [Cx.upd], fun _ => rfl, ?_⟩⟩
                          simp only [Cx.upd, if_true]
                          omega
                      · simp [bad] at h
                · simp [bad] at h
              · cases h
            · simp [bad] at h
          · simp [bad] at h
        · cases h
      · simp [bad] at h
    · simp [bad] at h
  · simp [bad] at h
end Go.Ab
