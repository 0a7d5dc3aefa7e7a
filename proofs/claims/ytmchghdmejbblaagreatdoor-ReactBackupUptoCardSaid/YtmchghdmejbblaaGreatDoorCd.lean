/- react.Take, react.Backup, where the reactions are right. -/
import Derived.Test.YtmchghdmejbblaaGreatDoorCc
set_option linter.unusedSimpArgs false
set_option linter.unusedVariables false
noncomputable section
namespace Go.Proofs.YtmchghdmejbblaaGreatDoor
open Go Go.Ab Go.RowKit

theorem outp_rest {b : Nat} {σ σ' : St} {vq vs vb : AV} {qs : List Qu} {st : List (List Int)} {bk : List Int} (h : OutP b σ vq vs vb qs st bk) (hn : σ.next ≤ σ'.next) (k : ∀ id, b ≤ id → id < σ.next → vq.own ≠ some id → σ'.get id = σ.get id) :
    Rd (fun id => b ≤ id ∧ id < σ.next) σ' 1 (EL (fun id => b ≤ id ∧ id < σ.next) σ') vs st ∧ Rd (fun id => b ≤ id ∧ id < σ.next) σ' 1 EI vb bk := by
  obtain ⟨⟨cq, q1, q2⟩, ⟨cs, s1, s2⟩, ⟨cb, b1, b2⟩, bo, ne⟩ := h
  have kp : Keeps (Pown b σ vq vs) σ σ' := fun id hi => k id hi.1 hi.2.1 hi.2.2.1
  have ip : ∀ id, Pown b σ vq vs id → b ≤ id ∧ id < σ.next := fun id hi => ⟨hi.1, hi.2.1⟩
  have s1' : Apd b σ' vs 1 cs := s1.keep hn fun id e => k id (s1.own_lt e).1 (s1.own_lt e).2 fun e' => ne id e' e
  have b1' : Apd b σ' vb 1 cb := b1.keep hn fun id e => kp id (bo id e)
  exact ⟨s1'.rd (s2.mono fun c a e => e.keep kp ip) (by omega) fun id e h1 _ => ⟨h1, (s1.own_lt e).2⟩, b1'.rd b2 (by omega) fun id e h1 _ => ⟨h1, (b1.own_lt e).2⟩⟩
theorem right_ne {s : Re} (h : RightP s) : ∀ q ∈ s.qs, q.list.length ≠ 0 := fun q hq => (h.qs q hq).list
theorem cell87 {σ : St} {id : Nat} {r : Rx} : ldC (some 12) (some true) 0 (some r.cells) = some (.agg r.cells) := ldC_all (n := 12) (cells := r.cells) rfl

theorem leave44 {n i4 i6 : Nat} {t : Tr AV} {σ : St} {c : List AV} {r : Rx} {v w x : AV} {Q : AV → St → Prop} (h4 : getT t 4 = .ptr i4 0 0) (c4 : cellsAt σ i4 0 = some c) (hl : c.length = 4) (h5 : getT t 5 = v) (h6 : getT t 6 = .ptr i6 0 0) (c6 : cellsAt σ i6 0 = some r.cells) (h7 : getT t 7 = w) (h8 : getT t 8 = x)
    (q : Q (.tup [.agg c, v, .agg r.cells, w, x]) σ) : Leave Mq Tryz.f44 Q .ret ⟨t, [], n, none⟩ σ := by
  refine ⟨rfl, [.agg c, v, .agg r.cells, w, x], ?_, q⟩
  show resultsA _ _ _ [.cell 4 64, .tmp 5, .cell 6 87, .tmp 7, .tmp 8] = _
  simp only [resultsA, resultA, h4, h5, h6, h7, h8, load_ptr, sz64, ag64, sz87, ag87, c4, c6, ldC_all hl, ldC_all (n := 12) (cells := r.cells) rfl]
theorem leave51 {n i2 i3 : Nat} {t : Tr AV} {σ : St} {c : List AV} {r : Rx} {v w : AV} {Q : AV → St → Prop} (h2 : getT t 2 = .ptr i2 0 0) (c2 : cellsAt σ i2 0 = some c) (hl : c.length = 4) (h3 : getT t 3 = .ptr i3 0 0) (c3 : cellsAt σ i3 0 = some r.cells) (h4 : getT t 4 = v) (h5 : getT t 5 = w)
    (q : Q (.tup [.agg c, .agg r.cells, v, w]) σ) : Leave Mq Tryz.f51 Q .ret ⟨t, [], n, none⟩ σ := by
  refine ⟨rfl, [.agg c, .agg r.cells, v, w], ?_, q⟩
  show resultsA _ _ _ [.cell 2 64, .cell 3 87, .tmp 4, .tmp 5] = _
  simp only [resultsA, resultA, h2, h3, h4, h5, load_ptr, sz64, ag64, sz87, ag87, c2, c3, ldC_all hl, ldC_all (n := 12) (cells := r.cells) rfl]

/-- What both do behind their guards: own reactions in a variable, and react.take upon them. -/
theorem took {σ3 : St} {wq ws wb vl : AV} {s : Re} {l : List Int} {σ4 σ5 : St} (ho : OutP σ3.next σ4 wq ws wb s.qs s.stack s.backup) (g4 : Gro σ3 σ4) (g5 : Gro σ4 σ5) (n5 : σ5.next = σ4.next + 1) (c5 : cellsAt σ5 σ4.next 0 = some [wq, ws, wb, .bool s.busy])
    (hl : Rd (· < σ5.next) σ5 1 EI vl l) (hll : l.length ≤ Bd) (hs : s.ok) (hr : RightP s) :
    Ca Mq 99 [.ptr σ4.next 0 0, vl] σ5 (fun r σ' => TookSt σ3.next σ4.next σ4.next σ5 σ' wq ws wb s.busy (takeP s.qs l) r) := by
  obtain ⟨o1, o2, o3⟩ := outp_ones ho
  obtain ⟨⟨cq, q1, q2⟩, _⟩ := ho
  exact take_ok c5 (by omega) (.inr (Nat.le_refl _)) (by omega) (q1.keep g5.le fun id e => g5.get id (q1.own_lt e).2) (fun id e => (q1.own_lt e).2)
    (q2.mono fun c a e => e.keep (fun id h => g5.get id h.2.1) fun id h => ⟨h.1, h.2.1, h.2.2.1⟩) (fr4 o1 o2 o3) hl hll hs.qs (right_ne hr)

set_option maxRecDepth 100000 in
theorem take44_ok {σ : St} {ca : List AV} {s : Re} {vl : AV} {l : List Int} (ha : ReC (· < σ.next) σ ca s) (hs : s.ok) (hr : RightP s) (hl : Rd (· < σ.next) σ 1 EI vl l) (hll : l.length ≤ 4096) :
    Ca Mq 44 [.agg ca, vl] σ fun r σ' => ∃ c v, r = .tup [.agg c, v, .agg (takeP s.qs l).2.2.1.cells, .bool (takeP s.qs l).2.2.2, .int .i64 0] ∧ ReC (fun id => σ.next ≤ id ∧ id < σ'.next) σ' c { s with qs := (takeP s.qs l).1 } ∧ Rd (fun id => σ.next ≤ id ∧ id < σ'.next) σ' 1 EI v (takeP s.qs l).2.1 ∧ Gro σ σ' := by
  have fa := ha.fit
  obtain ⟨σ2, e2⟩ : ∃ σ2, ((σ.add (.arr 0 ca)).add (.arr 0 [.nils, .nils, .nils, .bool false])).add (.arr 0 zRx.cells) = σ2 := ⟨_, rfl⟩
  have g2 : Gro σ σ2 := by rw [← e2]; exact ((Gro.add _ _).trans (Gro.add _ _)).trans (Gro.add _ _)
  have n2 : σ2.next = σ.next + 3 := by rw [← e2]; rfl
  have c0 : cellsAt σ2 σ.next 0 = some ca := by
    rw [← e2, cellsAt_add_old (by rw [next_add, next_add]; omega), cellsAt_add_old (by rw [next_add]; omega), cellsAt_add_new]
  have c1 : cellsAt σ2 (σ.next + 1) 0 = some [.nils, .nils, .nils, .bool false] := by
    rw [← e2, cellsAt_add_old (by rw [next_add, next_add]; omega)]
    exact cellsAt_of get_new
  have c2 : cellsAt σ2 (σ.next + 2) 0 = some zRx.cells := by rw [← e2]; exact cellsAt_of get_new
  refine Ca.enter (fn := Tryz.f44) rfl (by kernel_rfl) rfl (by kernel_rfl) (Nat.le_of_ble_eq_true rfl) 37 _ rfl rfl ?_
  generalize hQ : Leave Mq Tryz.f44 _ = Q
  simp only [WW, argTmps, if_true, if_false, Nat.reduceLT, Nat.reduceEqDiff, Nat.zero_add, Nat.reduceAdd, List.getElem?_toArray, List.getElem?_cons_zero, List.getElem?_cons_succ, List.length_cons, List.length_nil, Option.map_some, reduceCtorEq, Nat.succ_ne_self, Nat.one_ne_zero, Nat.zero_ne_one, Option.some_beq_some, beq_self_eq_true, Bool.not_true, Bool.not_false, Bool.true_beq, Bool.false_beq, WT, opNew_eq fa.1, AV.cells, al64, al87, next_add, e2, c0, ldC_all fa.2, Nat.add_assoc, Nat.reduceAdd]
  refine (check_ok (ha.gro g2) hs).mono ?_
  rintro r σ3 ⟨rfl, g3⟩
  have ha3 := (ha.gro g2).gro g3
  obtain ⟨vq, vs, vb, rfl, hq, hst, hbk⟩ := ha3
  have c03 := g3.cells (by omega) c0
  have l3 := (rd_gro hl (g2.trans g3)).len und40
  rw [right_yes hr]
  simp only [WW, argTmps, if_true, if_false, Nat.reduceLT, Nat.reduceEqDiff, Nat.zero_add, Nat.reduceAdd, List.getElem?_toArray, List.getElem?_cons_zero, List.getElem?_cons_succ, List.length_cons, List.length_nil, Option.map_some, reduceCtorEq, Nat.succ_ne_self, Nat.one_ne_zero, Nat.zero_ne_one, Option.some_beq_some, beq_self_eq_true, Bool.not_true, Bool.not_false, Bool.true_beq, Bool.false_beq, WT, decide_true, l3, decide_eq_false (show ¬ (4096 : Int) < ((l.length : Nat) : Int) by omega), c03, ldC_all (n := 4) (cells := [vq, vs, vb, .bool s.busy]) rfl]
  refine (own_ok ⟨vq, vs, vb, rfl, hq, hst, hbk⟩ hs).mono ?_
  rintro r σ4 ⟨wq, ws, wb, rfl, ho, g4⟩
  obtain ⟨o1, o2, o3⟩ := outp_ones ho
  obtain ⟨σ5, e5, g5, n5, c5⟩ := var_ex σ4 [.nils, .nils, .nils, .bool false] [wq, ws, wb, .bool s.busy]
  have b3 := g3.le
  have b4 := g4.le
  have g05 := ((g2.trans g3).trans g4).trans g5
  simp only [WW, argTmps, if_true, if_false, Nat.reduceLT, Nat.reduceEqDiff, Nat.zero_add, Nat.reduceAdd, List.getElem?_toArray, List.getElem?_cons_zero, List.getElem?_cons_succ, List.length_cons, List.length_nil, Option.map_some, reduceCtorEq, Nat.succ_ne_self, Nat.one_ne_zero, Nat.zero_ne_one, Option.some_beq_some, beq_self_eq_true, Bool.not_true, Bool.not_false, Bool.true_beq, Bool.false_beq, WT, al64, st64 (c := [wq, ws, wb, .bool s.busy]) (z := [.nils, .nils, .nils, .bool false]) (fr4 o1 o2 o3) rfl rfl, e5]
  refine (took ho g4 g5 n5 c5 (rd_gro hl g05) (by unfold Bd; omega) hs hr).mono ?_
  rintro r σ6 ⟨⟨wl, wq', rfl, c46, hq6, hl6⟩, le6, k6⟩
  have hone6 := hq6.one
  have hown : ∀ id, wq.own = some id → σ3.next ≤ id ∧ id < σ4.next := fun id e => by obtain ⟨⟨cq, q1, _⟩, _⟩ := ho; exact q1.own_lt e
  obtain ⟨hs6, hb6⟩ := outp_rest ho (σ' := σ6) (by omega) fun id h1 h2 h3 => (k6 id (by omega) (by omega) h3).trans (g5.get id h2)
  have keep6 : ∀ id, id < σ3.next → σ6.get id = σ3.get id := fun id h => (k6 id (by omega) (by omega) (fun e => by have := hown id e; omega)).trans (((g4.trans g5).get id h))
  have c16 : cellsAt σ6 (σ.next + 1) 0 = some [.nils, .nils, .nils, .bool false] := cells_same (keep6 _ (by omega)) (g3.cells (by omega) c1)
  have c26 : cellsAt σ6 (σ.next + 2) 0 = some zRx.cells := cells_same (keep6 _ (by omega)) (g3.cells (by omega) c2)
  obtain ⟨rx, hrx⟩ : ∃ rx, (takeP s.qs l).2.2.1 = rx := ⟨_, rfl⟩
  rw [hrx]
  obtain ⟨σ7, e7, g7, n7, c7⟩ := var_ex σ6 zRx.cells rx.cells
  have c47 := g7.cells (by omega) c46
  have c17 := g7.cells (by omega) c16
  have c27 := g7.cells (by omega) c26
  obtain ⟨σ8, e8⟩ : ∃ σ8, σ7.put (σ.next + 1) (.arr 0 [wq', ws, wb, .bool s.busy]) = σ8 := ⟨_, rfl⟩
  have n8 : σ8.next = σ7.next := by rw [← e8, next_put]
  have get8 : ∀ k, k ≠ σ.next + 1 → σ8.get k = σ7.get k := fun k h => by rw [← e8, get_put, if_neg h]
  have c78 : cellsAt σ8 σ6.next 0 = some rx.cells := cells_same (get8 _ (by omega)) c7
  have c28 : cellsAt σ8 (σ.next + 2) 0 = some zRx.cells := cells_same (get8 _ (by omega)) c27
  have c18 : cellsAt σ8 (σ.next + 1) 0 = some [wq', ws, wb, .bool s.busy] := by rw [← e8]; exact put_cells
  obtain ⟨σ9, e9⟩ : ∃ σ9, σ8.put (σ.next + 2) (.arr 0 rx.cells) = σ9 := ⟨_, rfl⟩
  have n9 : σ9.next = σ8.next := by rw [← e9, next_put]
  have get9 : ∀ k, k ≠ σ.next + 2 → σ9.get k = σ8.get k := fun k h => by rw [← e9, get_put, if_neg h]
  have c29 : cellsAt σ9 (σ.next + 2) 0 = some rx.cells := by rw [← e9]; exact put_cells
  have c19 : cellsAt σ9 (σ.next + 1) 0 = some [wq', ws, wb, .bool s.busy] := cells_same (get9 _ (by omega)) c18
  simp only [WW, argTmps, if_true, if_false, Nat.reduceLT, Nat.reduceEqDiff, Nat.zero_add, Nat.reduceAdd, List.getElem?_toArray, List.getElem?_cons_zero, List.getElem?_cons_succ, List.length_cons, List.length_nil, Option.map_some, reduceCtorEq, Nat.succ_ne_self, Nat.one_ne_zero, Nat.zero_ne_one, Option.some_beq_some, beq_self_eq_true, Bool.not_true, Bool.not_false, Bool.true_beq, Bool.false_beq, WT, al87, st87, e7]
  refine Co_draw [] [0, 4, 1, 2, 5, 6, 3, 7, 8] (by kernel_rfl) (by kernel_rfl) (by kernel_rfl) ?_
  simp only [WW, argTmps, if_true, if_false, Nat.reduceLT, Nat.reduceEqDiff, Nat.zero_add, Nat.reduceAdd, List.getElem?_toArray, List.getElem?_cons_zero, List.getElem?_cons_succ, List.length_cons, List.length_nil, Option.map_some, reduceCtorEq, Nat.succ_ne_self, Nat.one_ne_zero, Nat.zero_ne_one, Option.some_beq_some, beq_self_eq_true, Bool.not_true, Bool.not_false, Bool.true_beq, Bool.false_beq, WD, and_true, true_and, and_self, WT, c47, ldC_all (n := 4) (cells := [wq', ws, wb, .bool s.busy]) rfl, c17, st64 (c := [wq', ws, wb, .bool s.busy]) (z := [.nils, .nils, .nils, .bool false]) (fr4 hone6 o2 o3) rfl rfl, e8, c7, c78, ldC_all (n := 12) (cells := rx.cells) rfl, c28, st87, e9]
  have k69 : ∀ k, k ≠ σ.next + 1 → k ≠ σ.next + 2 → k < σ6.next → σ9.get k = σ6.get k := fun k h1 h2 h3 => (get9 k h2).trans ((get8 k h1).trans (g7.get k h3))
  have n69 : σ9.next = σ6.next + 1 := by omega
  have kk : Keeps (fun id => σ3.next ≤ id ∧ id < σ4.next) σ6 σ9 := fun id h => by
    have h : σ3.next ≤ id ∧ id < σ4.next := h
    exact k69 id (by omega) (by omega) (by omega)
  have ip : ∀ id, (σ3.next ≤ id ∧ id < σ4.next) → σ.next ≤ id ∧ id < σ9.next := fun id h => by omega
  subst hQ
  refine leave44 (i4 := σ.next + 1) (i6 := σ.next + 2) (r := rx) (v := wl) (w := .bool (takeP s.qs l).2.2.2) (x := .int .i64 0) (by simp only [WW, argTmps, if_true, if_false, Nat.reduceLT, Nat.reduceEqDiff, Nat.zero_add, Nat.reduceAdd, List.getElem?_toArray, List.getElem?_cons_zero, List.getElem?_cons_succ, List.length_cons, List.length_nil, Option.map_some, reduceCtorEq, Nat.succ_ne_self, Nat.one_ne_zero, Nat.zero_ne_one, Option.some_beq_some, beq_self_eq_true, Bool.not_true, Bool.not_false, Bool.true_beq, Bool.false_beq]) c19 rfl (by simp only [WW, argTmps, if_true, if_false, Nat.reduceLT, Nat.reduceEqDiff, Nat.zero_add, Nat.reduceAdd, List.getElem?_toArray, List.getElem?_cons_zero, List.getElem?_cons_succ, List.length_cons, List.length_nil, Option.map_some, reduceCtorEq, Nat.succ_ne_self, Nat.one_ne_zero, Nat.zero_ne_one, Option.some_beq_some, beq_self_eq_true, Bool.not_true, Bool.not_false, Bool.true_beq, Bool.false_beq]) (by simp only [WW, argTmps, if_true, if_false, Nat.reduceLT, Nat.reduceEqDiff, Nat.zero_add, Nat.reduceAdd, List.getElem?_toArray, List.getElem?_cons_zero, List.getElem?_cons_succ, List.length_cons, List.length_nil, Option.map_some, reduceCtorEq, Nat.succ_ne_self, Nat.one_ne_zero, Nat.zero_ne_one, Option.some_beq_some, beq_self_eq_true, Bool.not_true, Bool.not_false, Bool.true_beq, Bool.false_beq]) c29 (by simp only [WW, argTmps, if_true, if_false, Nat.reduceLT, Nat.reduceEqDiff, Nat.zero_add, Nat.reduceAdd, List.getElem?_toArray, List.getElem?_cons_zero, List.getElem?_cons_succ, List.length_cons, List.length_nil, Option.map_some, reduceCtorEq, Nat.succ_ne_self, Nat.one_ne_zero, Nat.zero_ne_one, Option.some_beq_some, beq_self_eq_true, Bool.not_true, Bool.not_false, Bool.true_beq, Bool.false_beq]) (by simp only [WW, argTmps, if_true, if_false, Nat.reduceLT, Nat.reduceEqDiff, Nat.zero_add, Nat.reduceAdd, List.getElem?_toArray, List.getElem?_cons_zero, List.getElem?_cons_succ, List.length_cons, List.length_nil, Option.map_some, reduceCtorEq, Nat.succ_ne_self, Nat.one_ne_zero, Nat.zero_ne_one, Option.some_beq_some, beq_self_eq_true, Bool.not_true, Bool.not_false, Bool.true_beq, Bool.false_beq]) ⟨_, wl, by rw [hrx], ?_, ?_, ⟨by omega, fun id hi => ?_⟩⟩
  · exact ⟨wq', ws, wb, rfl, hq6.keep kk ip fun _ _ h => h.keep kk ip, hs6.keep kk ip fun _ _ h => h.keep kk ip, hb6.keep kk ip fun _ _ h => h⟩
  · exact hl6.keep (fun id h => by
      have h : σ5.next ≤ id ∧ id < σ6.next := h
      exact k69 id (by omega) (by omega) (by omega)) (fun id h => ⟨by omega, by omega⟩) fun _ _ h => h
  · rw [k69 id (by omega) (by omega) (by omega), keep6 id (by omega)]
    exact (g2.trans g3).get id hi

set_option maxRecDepth 100000 in
theorem backup51_ok {σ : St} {ca : List AV} {s : Re} (ha : ReC (· < σ.next) σ ca s) (hs : s.ok) (hr : RightP s) :
    Ca Mq 51 [.agg ca] σ fun r σ' => ∃ c, r = .tup [.agg c, .agg (takeP s.qs s.backup).2.2.1.cells, .bool (takeP s.qs s.backup).2.2.2, .int .i64 0] ∧ ReC (fun id => σ.next ≤ id ∧ id < σ'.next) σ' c { s with qs := (takeP s.qs s.backup).1, backup := (takeP s.qs s.backup).2.1, busy := (takeP s.qs s.backup).2.2.2 && s.busy } ∧ Gro σ σ' := by
  have fa := ha.fit
  obtain ⟨σ2, e2⟩ : ∃ σ2, ((σ.add (.arr 0 ca)).add (.arr 0 [.nils, .nils, .nils, .bool false])).add (.arr 0 zRx.cells) = σ2 := ⟨_, rfl⟩
  have g2 : Gro σ σ2 := by rw [← e2]; exact ((Gro.add _ _).trans (Gro.add _ _)).trans (Gro.add _ _)
  have n2 : σ2.next = σ.next + 3 := by rw [← e2]; rfl
  have c0 : cellsAt σ2 σ.next 0 = some ca := by
    rw [← e2, cellsAt_add_old (by rw [next_add, next_add]; omega), cellsAt_add_old (by rw [next_add]; omega), cellsAt_add_new]
  have c1 : cellsAt σ2 (σ.next + 1) 0 = some [.nils, .nils, .nils, .bool false] := by
    rw [← e2, cellsAt_add_old (by rw [next_add, next_add]; omega)]
    exact cellsAt_of get_new
  have c2 : cellsAt σ2 (σ.next + 2) 0 = some zRx.cells := by rw [← e2]; exact cellsAt_of get_new
  refine Ca.enter (fn := Tryz.f51) rfl (by kernel_rfl) rfl (by kernel_rfl) (Nat.le_of_ble_eq_true rfl) 32 _ rfl rfl ?_
  generalize hQ : Leave Mq Tryz.f51 _ = Q
  simp only [WW, argTmps, if_true, if_false, Nat.reduceLT, Nat.reduceEqDiff, Nat.zero_add, Nat.reduceAdd, List.getElem?_toArray, List.getElem?_cons_zero, List.getElem?_cons_succ, List.length_cons, List.length_nil, Option.map_some, reduceCtorEq, Nat.succ_ne_self, Nat.one_ne_zero, Nat.zero_ne_one, Option.some_beq_some, beq_self_eq_true, Bool.not_true, Bool.not_false, Bool.true_beq, Bool.false_beq, WT, opNew_eq fa.1, AV.cells, al64, al87, next_add, e2, c0, ldC_all fa.2, Nat.add_assoc, Nat.reduceAdd]
  refine (check_ok (ha.gro g2) hs).mono ?_
  rintro r σ3 ⟨rfl, g3⟩
  have ha3 := (ha.gro g2).gro g3
  obtain ⟨vq, vs, vb, rfl, hq, hst, hbk⟩ := ha3
  have c03 := g3.cells (by omega) c0
  rw [right_yes hr]
  simp only [WW, argTmps, if_true, if_false, Nat.reduceLT, Nat.reduceEqDiff, Nat.zero_add, Nat.reduceAdd, List.getElem?_toArray, List.getElem?_cons_zero, List.getElem?_cons_succ, List.length_cons, List.length_nil, Option.map_some, reduceCtorEq, Nat.succ_ne_self, Nat.one_ne_zero, Nat.zero_ne_one, Option.some_beq_some, beq_self_eq_true, Bool.not_true, Bool.not_false, Bool.true_beq, Bool.false_beq, WT, decide_true, c03, ldC_all (n := 4) (cells := [vq, vs, vb, .bool s.busy]) rfl]
  refine (own_ok ⟨vq, vs, vb, rfl, hq, hst, hbk⟩ hs).mono ?_
  rintro r σ4 ⟨wq, ws, wb, rfl, ho, g4⟩
  obtain ⟨o1, o2, o3⟩ := outp_ones ho
  obtain ⟨σ5, e5, g5, n5, c5⟩ := var_ex σ4 [.nils, .nils, .nils, .bool false] [wq, ws, wb, .bool s.busy]
  have b3 := g3.le
  have b4 := g4.le
  have hwb : Rd (· < σ5.next) σ5 1 EI wb s.backup := by
    obtain ⟨_, _, _, ee, _, _, k3⟩ := ho.reads s.busy
    cases ee
    exact k3.keep (fun id h => g5.get id h.2) (fun id h => by omega) fun _ _ h => h
  simp only [WW, argTmps, if_true, if_false, Nat.reduceLT, Nat.reduceEqDiff, Nat.zero_add, Nat.reduceAdd, List.getElem?_toArray, List.getElem?_cons_zero, List.getElem?_cons_succ, List.length_cons, List.length_nil, Option.map_some, reduceCtorEq, Nat.succ_ne_self, Nat.one_ne_zero, Nat.zero_ne_one, Option.some_beq_some, beq_self_eq_true, Bool.not_true, Bool.not_false, Bool.true_beq, Bool.false_beq, WT, al64, st64 (c := [wq, ws, wb, .bool s.busy]) (z := [.nils, .nils, .nils, .bool false]) (fr4 o1 o2 o3) rfl rfl, e5, c5]
  refine (took ho g4 g5 n5 c5 hwb hs.backup hs hr).mono ?_
  rintro r σ6 ⟨⟨wl, wq', rfl, c46, hq6, hl6⟩, le6, k6⟩
  have hone6 := hq6.one
  have honel := hl6.one
  have hcell := hl6.cells
  have hown : ∀ id, wq.own = some id → σ3.next ≤ id ∧ id < σ4.next := fun id e => by obtain ⟨⟨cq, q1, _⟩, _⟩ := ho; exact q1.own_lt e
  obtain ⟨hs6, hb6⟩ := outp_rest ho (σ' := σ6) (by omega) fun id h1 h2 h3 => (k6 id (by omega) (by omega) h3).trans (g5.get id h2)
  have keep6 : ∀ id, id < σ3.next → σ6.get id = σ3.get id := fun id h => (k6 id (by omega) (by omega) (fun e => by have := hown id e; omega)).trans (((g4.trans g5).get id h))
  have c16 : cellsAt σ6 (σ.next + 1) 0 = some [.nils, .nils, .nils, .bool false] := cells_same (keep6 _ (by omega)) (g3.cells (by omega) c1)
  have c26 : cellsAt σ6 (σ.next + 2) 0 = some zRx.cells := cells_same (keep6 _ (by omega)) (g3.cells (by omega) c2)
  obtain ⟨rx, hrx⟩ : ∃ rx, (takeP s.qs s.backup).2.2.1 = rx := ⟨_, rfl⟩
  obtain ⟨is, his⟩ : ∃ is, (takeP s.qs s.backup).2.2.2 = is := ⟨_, rfl⟩
  rw [hrx, his]
  obtain ⟨σ7, e7, g7, n7, c7⟩ := var_ex σ6 zRx.cells rx.cells
  have c47 := g7.cells (by omega) c46
  have c17 := g7.cells (by omega) c16
  have c27 := g7.cells (by omega) c26
  obtain ⟨σ8, e8⟩ : ∃ σ8, σ7.put σ4.next (.arr 0 [wq', ws, wl, .bool s.busy]) = σ8 := ⟨_, rfl⟩
  have n8 : σ8.next = σ7.next := by rw [← e8, next_put]
  have get8 : ∀ k, k ≠ σ4.next → σ8.get k = σ7.get k := fun k h => by rw [← e8, get_put, if_neg h]
  have c48 : cellsAt σ8 σ4.next 0 = some [wq', ws, wl, .bool s.busy] := by rw [← e8]; exact put_cells
  obtain ⟨σa, na, geta, c4a, hstep⟩ : ∃ σa : St, σa.next = σ7.next ∧ (∀ k, k ≠ σ4.next → σa.get k = σ7.get k) ∧ cellsAt σa σ4.next 0 = some [wq', ws, wl, .bool (is && s.busy)] ∧ (is = true ∧ σa = σ8 ∨ is = false ∧ σ8.put σ4.next (.arr 0 [wq', ws, wl, .bool false]) = σa) := by
    cases is with
    | true => exact ⟨σ8, n8, get8, c48, .inl ⟨rfl, rfl⟩⟩
    | false => exact ⟨_, by rw [next_put]; exact n8, fun k h => by rw [get_put, if_neg h, get8 k h], put_cells, .inr ⟨rfl, rfl⟩⟩
  have c1a : cellsAt σa (σ.next + 1) 0 = some [.nils, .nils, .nils, .bool false] := cells_same (geta _ (by omega)) c17
  have c2a : cellsAt σa (σ.next + 2) 0 = some zRx.cells := cells_same (geta _ (by omega)) c27
  have c7a : cellsAt σa σ6.next 0 = some rx.cells := cells_same (geta _ (by omega)) c7
  obtain ⟨σb, eb⟩ : ∃ σb, σa.put (σ.next + 1) (.arr 0 [wq', ws, wl, .bool (is && s.busy)]) = σb := ⟨_, rfl⟩
  have nb : σb.next = σa.next := by rw [← eb, next_put]
  have getb : ∀ k, k ≠ σ.next + 1 → σb.get k = σa.get k := fun k h => by rw [← eb, get_put, if_neg h]
  have c1b : cellsAt σb (σ.next + 1) 0 = some [wq', ws, wl, .bool (is && s.busy)] := by rw [← eb]; exact put_cells
  have c2b : cellsAt σb (σ.next + 2) 0 = some zRx.cells := cells_same (getb _ (by omega)) c2a
  have c7b : cellsAt σb σ6.next 0 = some rx.cells := cells_same (getb _ (by omega)) c7a
  obtain ⟨σc, ec⟩ : ∃ σc, σb.put (σ.next + 2) (.arr 0 rx.cells) = σc := ⟨_, rfl⟩
  have nc : σc.next = σb.next := by rw [← ec, next_put]
  have getc : ∀ k, k ≠ σ.next + 2 → σc.get k = σb.get k := fun k h => by rw [← ec, get_put, if_neg h]
  have c2c : cellsAt σc (σ.next + 2) 0 = some rx.cells := by rw [← ec]; exact put_cells
  have c1c : cellsAt σc (σ.next + 1) 0 = some [wq', ws, wl, .bool (is && s.busy)] := cells_same (getc _ (by omega)) c1b
  have k6c : ∀ k, k ≠ σ.next + 1 → k ≠ σ.next + 2 → k ≠ σ4.next → k < σ6.next → σc.get k = σ6.get k := fun k h1 h2 h3 h4 => (getc k h2).trans ((getb k h1).trans ((geta k h3).trans (g7.get k h4)))
  have kk : Keeps (fun id => σ3.next ≤ id ∧ id < σ4.next) σ6 σc := fun id h => by
    have h : σ3.next ≤ id ∧ id < σ4.next := h
    exact k6c id (by omega) (by omega) (by omega) (by omega)
  have ip : ∀ id, (σ3.next ≤ id ∧ id < σ4.next) → σ.next ≤ id ∧ id < σc.next := fun id h => by omega
  have done : ∀ t, getT t 2 = .ptr (σ.next + 1) 0 0 → getT t 3 = .ptr (σ.next + 2) 0 0 → getT t 4 = .bool is → getT t 5 = .int .i64 0 → Q .ret ⟨t, [], 32, none⟩ σc := fun t h2 h3 h4 h5 => by
    subst hQ
    refine leave51 h2 c1c rfl h3 c2c h4 h5 ⟨_, by rw [hrx, his], ?_, ⟨by omega, fun id hi => ?_⟩⟩
    · rw [his]
      exact ⟨wq', ws, wl, rfl, hq6.keep kk ip fun _ _ h => h.keep kk ip, hs6.keep kk ip fun _ _ h => h.keep kk ip, hl6.keep (fun id h => by
        have h : σ5.next ≤ id ∧ id < σ6.next := h
        exact k6c id (by omega) (by omega) (by omega) (by omega)) (fun id h => ⟨by omega, by omega⟩) fun _ _ h => h⟩
    · rw [k6c id (by omega) (by omega) (by omega) (by omega), keep6 id (by omega)]
      exact (g2.trans g3).get id hi
  clear hQ
  rcases hstep with ⟨rfl, rfl⟩ | ⟨rfl, ea⟩
  · simp only [WW, argTmps, if_true, if_false, Nat.reduceLT, Nat.reduceEqDiff, Nat.zero_add, Nat.reduceAdd, List.getElem?_toArray, List.getElem?_cons_zero, List.getElem?_cons_succ, List.length_cons, List.length_nil, Option.map_some, reduceCtorEq, Nat.succ_ne_self, Nat.one_ne_zero, Nat.zero_ne_one, Option.some_beq_some, beq_self_eq_true, Bool.not_true, Bool.not_false, Bool.true_beq, Bool.false_beq, WT, al87, st87, e7, c47, st4_2 hcell honel, e8]
    refine Co_draw [] [0, 3, 1, 4, 2, 5, 6] (by kernel_rfl) (by kernel_rfl) (by kernel_rfl) ?_
    simp only [Bool.true_and] at c4a eb c1b
    simp only [WW, argTmps, if_true, if_false, Nat.reduceLT, Nat.reduceEqDiff, Nat.zero_add, Nat.reduceAdd, List.getElem?_toArray, List.getElem?_cons_zero, List.getElem?_cons_succ, List.length_cons, List.length_nil, Option.map_some, reduceCtorEq, Nat.succ_ne_self, Nat.one_ne_zero, Nat.zero_ne_one, Option.some_beq_some, beq_self_eq_true, Bool.not_true, Bool.not_false, Bool.true_beq, Bool.false_beq, WD, and_true, true_and, and_self, WT, c4a, ldC_all (n := 4) (cells := [wq', ws, wl, .bool s.busy]) rfl, c1a, st64 (c := [wq', ws, wl, .bool s.busy]) (z := [.nils, .nils, .nils, .bool false]) (fr4 hone6 o2 honel) rfl rfl, eb, c7a, c7b, ldC_all (n := 12) (cells := rx.cells) rfl, c2b, st87, ec]
    exact done _ (by simp only [WW, argTmps, if_true, if_false, Nat.reduceLT, Nat.reduceEqDiff, Nat.zero_add, Nat.reduceAdd, List.getElem?_toArray, List.getElem?_cons_zero, List.getElem?_cons_succ, List.length_cons, List.length_nil, Option.map_some, reduceCtorEq, Nat.succ_ne_self, Nat.one_ne_zero, Nat.zero_ne_one, Option.some_beq_some, beq_self_eq_true, Bool.not_true, Bool.not_false, Bool.true_beq, Bool.false_beq]) (by simp only [WW, argTmps, if_true, if_false, Nat.reduceLT, Nat.reduceEqDiff, Nat.zero_add, Nat.reduceAdd, List.getElem?_toArray, List.getElem?_cons_zero, List.getElem?_cons_succ, List.length_cons, List.length_nil, Option.map_some, reduceCtorEq, Nat.succ_ne_self, Nat.one_ne_zero, Nat.zero_ne_one, Option.some_beq_some, beq_self_eq_true, Bool.not_true, Bool.not_false, Bool.true_beq, Bool.false_beq]) (by simp only [WW, argTmps, if_true, if_false, Nat.reduceLT, Nat.reduceEqDiff, Nat.zero_add, Nat.reduceAdd, List.getElem?_toArray, List.getElem?_cons_zero, List.getElem?_cons_succ, List.length_cons, List.length_nil, Option.map_some, reduceCtorEq, Nat.succ_ne_self, Nat.one_ne_zero, Nat.zero_ne_one, Option.some_beq_some, beq_self_eq_true, Bool.not_true, Bool.not_false, Bool.true_beq, Bool.false_beq]) (by simp only [WW, argTmps, if_true, if_false, Nat.reduceLT, Nat.reduceEqDiff, Nat.zero_add, Nat.reduceAdd, List.getElem?_toArray, List.getElem?_cons_zero, List.getElem?_cons_succ, List.length_cons, List.length_nil, Option.map_some, reduceCtorEq, Nat.succ_ne_self, Nat.one_ne_zero, Nat.zero_ne_one, Option.some_beq_some, beq_self_eq_true, Bool.not_true, Bool.not_false, Bool.true_beq, Bool.false_beq])
  · simp only [WW, argTmps, if_true, if_false, Nat.reduceLT, Nat.reduceEqDiff, Nat.zero_add, Nat.reduceAdd, List.getElem?_toArray, List.getElem?_cons_zero, List.getElem?_cons_succ, List.length_cons, List.length_nil, Option.map_some, reduceCtorEq, Nat.succ_ne_self, Nat.one_ne_zero, Nat.zero_ne_one, Option.some_beq_some, beq_self_eq_true, Bool.not_true, Bool.not_false, Bool.true_beq, Bool.false_beq, WT, al87, st87, e7, c47, st4_2 hcell honel, e8, c48, st4_3 (v := .bool false) rfl rfl, ea]
    refine Co_draw [] [0, 3, 1, 4, 2, 5, 6] (by kernel_rfl) (by kernel_rfl) (by kernel_rfl) ?_
    simp only [Bool.false_and] at c4a eb c1b
    simp only [WW, argTmps, if_true, if_false, Nat.reduceLT, Nat.reduceEqDiff, Nat.zero_add, Nat.reduceAdd, List.getElem?_toArray, List.getElem?_cons_zero, List.getElem?_cons_succ, List.length_cons, List.length_nil, Option.map_some, reduceCtorEq, Nat.succ_ne_self, Nat.one_ne_zero, Nat.zero_ne_one, Option.some_beq_some, beq_self_eq_true, Bool.not_true, Bool.not_false, Bool.true_beq, Bool.false_beq, WD, and_true, true_and, and_self, WT, c4a, ldC_all (n := 4) (cells := [wq', ws, wl, .bool false]) rfl, c1a, st64 (c := [wq', ws, wl, .bool false]) (z := [.nils, .nils, .nils, .bool false]) (fr4 hone6 o2 honel) rfl rfl, eb, c7a, c7b, ldC_all (n := 12) (cells := rx.cells) rfl, c2b, st87, ec]
    exact done _ (by simp only [WW, argTmps, if_true, if_false, Nat.reduceLT, Nat.reduceEqDiff, Nat.zero_add, Nat.reduceAdd, List.getElem?_toArray, List.getElem?_cons_zero, List.getElem?_cons_succ, List.length_cons, List.length_nil, Option.map_some, reduceCtorEq, Nat.succ_ne_self, Nat.one_ne_zero, Nat.zero_ne_one, Option.some_beq_some, beq_self_eq_true, Bool.not_true, Bool.not_false, Bool.true_beq, Bool.false_beq]) (by simp only [WW, argTmps, if_true, if_false, Nat.reduceLT, Nat.reduceEqDiff, Nat.zero_add, Nat.reduceAdd, List.getElem?_toArray, List.getElem?_cons_zero, List.getElem?_cons_succ, List.length_cons, List.length_nil, Option.map_some, reduceCtorEq, Nat.succ_ne_self, Nat.one_ne_zero, Nat.zero_ne_one, Option.some_beq_some, beq_self_eq_true, Bool.not_true, Bool.not_false, Bool.true_beq, Bool.false_beq]) (by simp only [WW, argTmps, if_true, if_false, Nat.reduceLT, Nat.reduceEqDiff, Nat.zero_add, Nat.reduceAdd, List.getElem?_toArray, List.getElem?_cons_zero, List.getElem?_cons_succ, List.length_cons, List.length_nil, Option.map_some, reduceCtorEq, Nat.succ_ne_self, Nat.one_ne_zero, Nat.zero_ne_one, Option.some_beq_some, beq_self_eq_true, Bool.not_true, Bool.not_false, Bool.true_beq, Bool.false_beq]) (by simp only [WW, argTmps, if_true, if_false, Nat.reduceLT, Nat.reduceEqDiff, Nat.zero_add, Nat.reduceAdd, List.getElem?_toArray, List.getElem?_cons_zero, List.getElem?_cons_succ, List.length_cons, List.length_nil, Option.map_some, reduceCtorEq, Nat.succ_ne_self, Nat.one_ne_zero, Nat.zero_ne_one, Option.some_beq_some, beq_self_eq_true, Bool.not_true, Bool.not_false, Bool.true_beq, Bool.false_beq])
end Go.Proofs.YtmchghdmejbblaaGreatDoor
