/- Pop, whose answer lies in new memory; what waits for an element; lists that begin alike. -/
import Derived.Test.YtmchghdmejbblaaGreatDoorCd
set_option linter.unusedSimpArgs false
set_option linter.unusedVariables false
noncomputable section
namespace Go.Proofs.YtmchghdmejbblaaGreatDoor
open Go Go.Ab Go.RowKit

set_option maxRecDepth 100000 in
theorem pop35_fresh {σ : St} {ca : List AV} {s : Re} (ha : ReC (· < σ.next) σ ca s) (hs : s.ok) : Ca Mq 35 [.agg ca] σ fun r σ' => ∃ c v, r = .tup [.agg c, v, .int .i64 (pop s).2.2] ∧ ReC (fun id => σ.next ≤ id ∧ id < σ'.next) σ' c (pop s).1 ∧ Rd (fun id => σ.next ≤ id ∧ id < σ'.next) σ' 1 EI v (pop s).2.1 ∧ Gro σ σ' := by
  obtain ⟨σ2, e2, g2, n2, c0, c1, ha2⟩ := two_vars ha
  have fa := ha.fit
  have hsn := hs.stack
  unfold Bd at hsn
  refine Ca.enter (fn := Tryz.f35) rfl (by kernel_rfl) rfl (by kernel_rfl) (Nat.le_of_ble_eq_true rfl) 36 _ rfl rfl ?_
  generalize hQ : Leave Mq Tryz.f35 _ = Q
  have no : ∀ t σ' w, Gro σ σ' → getT t 2 = .ptr (σ.next + 1) 0 0 → cellsAt σ' (σ.next + 1) 0 = some [.nils, .nils, .nils, .bool false] → getT t 3 = .nils → getT t 4 = .int .i64 w → pop s = (emptyRe, [], w) → Q .ret ⟨t, [], 36, none⟩ σ' := fun t σ' w g h1 h2 h3 h4 h5 => by
    subst hQ
    exact leave3 (d := 2) (d2 := 3) (d3 := 4) rfl h1 h2 rfl h3 h4 ⟨_, _, by rw [h5], by rw [h5]; exact ⟨.nils, .nils, .nils, rfl, rd_nils _ _ _ _, rd_nils _ _ _ _, rd_nils _ _ _ _⟩, by rw [h5]; exact rd_nils _ _ _ _, g⟩
  have yes : ∀ t σ' c v, Gro σ σ' → getT t 2 = .ptr (σ.next + 1) 0 0 → cellsAt σ' (σ.next + 1) 0 = some c → c.length = 4 → getT t 3 = v → getT t 4 = .int .i64 0 → ∀ s' l, pop s = (s', l, 0) → ReC (fun id => σ.next ≤ id ∧ id < σ'.next) σ' c s' → Rd (fun id => σ.next ≤ id ∧ id < σ'.next) σ' 1 EI v l → Q .ret ⟨t, [], 36, none⟩ σ' := fun t σ' c v g h1 h2 hl h3 h4 s' l h5 h6 h7 => by
    subst hQ
    exact leave3 (d := 2) (d2 := 3) (d3 := 4) rfl h1 h2 hl h3 h4 ⟨_, _, by rw [h5], by rw [h5]; exact h6, by rw [h5]; exact h7, g⟩
  clear hQ
  obtain ⟨vq, vs, vb, rfl, hq, hst, hbk⟩ := ha2
  have l2 := hst.len und62
  simp only [WW, argTmps, if_true, if_false, Nat.reduceLT, Nat.reduceEqDiff, Nat.zero_add, Nat.reduceAdd, List.getElem?_toArray, List.getElem?_cons_zero, List.getElem?_cons_succ, List.length_cons, List.length_nil, Option.map_some, reduceCtorEq, Nat.succ_ne_self, Nat.one_ne_zero, Nat.zero_ne_one, Option.some_beq_some, beq_self_eq_true, Bool.not_true, Bool.not_false, Bool.true_beq, Bool.false_beq, WT, opNew_eq fa.1, AV.cells, al64, next_add, e2, c0, ldC_all fa.2, l2]
  refine (check_ok ⟨vq, vs, vb, rfl, hq, hst, hbk⟩ hs).mono ?_
  rintro r σ3 ⟨rfl, g3⟩
  have c03 := g3.cells (by omega) c0
  have c13 := g3.cells (by omega) c1
  by_cases hr : RightP s
  case neg =>
    rw [right_no hr]
    simp only [WW, argTmps, if_true, if_false, Nat.reduceLT, Nat.reduceEqDiff, Nat.zero_add, Nat.reduceAdd, List.getElem?_toArray, List.getElem?_cons_zero, List.getElem?_cons_succ, List.length_cons, List.length_nil, Option.map_some, reduceCtorEq, Nat.succ_ne_self, Nat.one_ne_zero, Nat.zero_ne_one, Option.some_beq_some, beq_self_eq_true, Bool.not_true, Bool.not_false, Bool.true_beq, Bool.false_beq, WT, Bool.false_eq_true, decide_eq_false (show ¬ (15 : Int) = 0 by omega), evParts_nil, bd64_0, c13, st64 (c := [.nils, .nils, .nils, .bool false]) (z := [.nils, .nils, .nils, .bool false]) rfl rfl rfl]
    exact no _ _ 15 (gro_put (g2.trans g3) (by omega)) (by simp only [WW, argTmps, if_true, if_false, Nat.reduceLT, Nat.reduceEqDiff, Nat.zero_add, Nat.reduceAdd, List.getElem?_toArray, List.getElem?_cons_zero, List.getElem?_cons_succ, List.length_cons, List.length_nil, Option.map_some, reduceCtorEq, Nat.succ_ne_self, Nat.one_ne_zero, Nat.zero_ne_one, Option.some_beq_some, beq_self_eq_true, Bool.not_true, Bool.not_false, Bool.true_beq, Bool.false_beq]) put_cells (by simp only [WW, argTmps, if_true, if_false, Nat.reduceLT, Nat.reduceEqDiff, Nat.zero_add, Nat.reduceAdd, List.getElem?_toArray, List.getElem?_cons_zero, List.getElem?_cons_succ, List.length_cons, List.length_nil, Option.map_some, reduceCtorEq, Nat.succ_ne_self, Nat.one_ne_zero, Nat.zero_ne_one, Option.some_beq_some, beq_self_eq_true, Bool.not_true, Bool.not_false, Bool.true_beq, Bool.false_beq]) (by simp only [WW, argTmps, if_true, if_false, Nat.reduceLT, Nat.reduceEqDiff, Nat.zero_add, Nat.reduceAdd, List.getElem?_toArray, List.getElem?_cons_zero, List.getElem?_cons_succ, List.length_cons, List.length_nil, Option.map_some, reduceCtorEq, Nat.succ_ne_self, Nat.one_ne_zero, Nat.zero_ne_one, Option.some_beq_some, beq_self_eq_true, Bool.not_true, Bool.not_false, Bool.true_beq, Bool.false_beq]) (by unfold pop; rw [if_pos hr])
  rw [right_yes hr]
  by_cases hd : s.stack.length = 0
  case pos =>
    simp only [WW, argTmps, if_true, if_false, Nat.reduceLT, Nat.reduceEqDiff, Nat.zero_add, Nat.reduceAdd, List.getElem?_toArray, List.getElem?_cons_zero, List.getElem?_cons_succ, List.length_cons, List.length_nil, Option.map_some, reduceCtorEq, Nat.succ_ne_self, Nat.one_ne_zero, Nat.zero_ne_one, Option.some_beq_some, beq_self_eq_true, Bool.not_true, Bool.not_false, Bool.true_beq, Bool.false_beq, WT, decide_true, decide_eq_true (show ((s.stack.length : Nat) : Int) = 0 by omega), evParts_nil, bd64_0, c13, st64 (c := [.nils, .nils, .nils, .bool false]) (z := [.nils, .nils, .nils, .bool false]) rfl rfl rfl]
    exact no _ _ 11 (gro_put (g2.trans g3) (by omega)) (by simp only [WW, argTmps, if_true, if_false, Nat.reduceLT, Nat.reduceEqDiff, Nat.zero_add, Nat.reduceAdd, List.getElem?_toArray, List.getElem?_cons_zero, List.getElem?_cons_succ, List.length_cons, List.length_nil, Option.map_some, reduceCtorEq, Nat.succ_ne_self, Nat.one_ne_zero, Nat.zero_ne_one, Option.some_beq_some, beq_self_eq_true, Bool.not_true, Bool.not_false, Bool.true_beq, Bool.false_beq]) put_cells (by simp only [WW, argTmps, if_true, if_false, Nat.reduceLT, Nat.reduceEqDiff, Nat.zero_add, Nat.reduceAdd, List.getElem?_toArray, List.getElem?_cons_zero, List.getElem?_cons_succ, List.length_cons, List.length_nil, Option.map_some, reduceCtorEq, Nat.succ_ne_self, Nat.one_ne_zero, Nat.zero_ne_one, Option.some_beq_some, beq_self_eq_true, Bool.not_true, Bool.not_false, Bool.true_beq, Bool.false_beq]) (by simp only [WW, argTmps, if_true, if_false, Nat.reduceLT, Nat.reduceEqDiff, Nat.zero_add, Nat.reduceAdd, List.getElem?_toArray, List.getElem?_cons_zero, List.getElem?_cons_succ, List.length_cons, List.length_nil, Option.map_some, reduceCtorEq, Nat.succ_ne_self, Nat.one_ne_zero, Nat.zero_ne_one, Option.some_beq_some, beq_self_eq_true, Bool.not_true, Bool.not_false, Bool.true_beq, Bool.false_beq]) (by unfold pop; rw [if_neg (fun h => h hr), if_pos hd])
  have hq3 := rdq_gro hq g3
  have hst3 := rdl_gro hst g3
  have hbk3 := rd_gro hbk g3
  simp only [WW, argTmps, if_true, if_false, Nat.reduceLT, Nat.reduceEqDiff, Nat.zero_add, Nat.reduceAdd, List.getElem?_toArray, List.getElem?_cons_zero, List.getElem?_cons_succ, List.length_cons, List.length_nil, Option.map_some, reduceCtorEq, Nat.succ_ne_self, Nat.one_ne_zero, Nat.zero_ne_one, Option.some_beq_some, beq_self_eq_true, Bool.not_true, Bool.not_false, Bool.true_beq, Bool.false_beq, WT, decide_true, decide_eq_false (show ¬ ((s.stack.length : Nat) : Int) = 0 by omega), c03, ldC_all (n := 4) (cells := [vq, vs, vb, .bool s.busy]) rfl]
  refine (own_ok ⟨vq, vs, vb, rfl, hq3, hst3, hbk3⟩ hs).mono ?_
  rintro r σ4 ⟨wq, ws, wb, rfl, ho, g4⟩
  obtain ⟨o1, o2, o3⟩ := outp_ones ho
  obtain ⟨σ5, e5, g5, n5, c5⟩ := var_ex σ4 [.nils, .nils, .nils, .bool false] [wq, ws, wb, .bool s.busy]
  have b43 := g3.le
  have b44 := g4.le
  obtain ⟨_, _, _, ee, k1, k2, k3⟩ := ho.reads s.busy
  cases ee
  obtain ⟨c, e1, ⟨v1, rfl, h1⟩, _⟩ := k2.elt (drop_last_get (s := s) (by omega))
  obtain ⟨ws', p1, p2, p3⟩ := slice_to (T := Mq.T) und62 sz40 k2 (h := s.stack.length - 1) (by simp only; omega) (by simp only; omega)
  obtain ⟨_, _, hva, _⟩ := k2
  have e15 := elt_keep e1 hva (τ := σ5) fun id h => g5.get id h.2
  have c15 := (g4.trans g5).cells (by omega) c13
  simp only [WW, argTmps, if_true, if_false, Nat.reduceLT, Nat.reduceEqDiff, Nat.zero_add, Nat.reduceAdd, List.getElem?_toArray, List.getElem?_cons_zero, List.getElem?_cons_succ, List.length_cons, List.length_nil, Option.map_some, reduceCtorEq, Nat.succ_ne_self, Nat.one_ne_zero, Nat.zero_ne_one, Option.some_beq_some, beq_self_eq_true, Bool.not_true, Bool.not_false, Bool.true_beq, Bool.false_beq, WT, al64, st64 (c := [wq, ws, wb, .bool s.busy]) (z := [.nils, .nils, .nils, .bool false]) (fr4 o1 o2 o3) rfl rfl, e5, c5, wrapP (show 0 < s.stack.length by omega) (by omega), e15.ix und62 sz40, e15.ld0 ag40 (by omega) rfl, p1, st4_1 p3 p2.one, put_cells,
    ldC_all (n := 4) (cells := [wq, ws', wb, .bool s.busy]) rfl, put_cells_ne (show σ.next + 1 ≠ σ4.next by omega), c15, st64 (c := [wq, ws', wb, .bool s.busy]) (z := [.nils, .nils, .nils, .bool false]) (fr4 o1 p2.one o3) rfl rfl]
  have gg : Gro σ σ5 := (g2.trans g3).trans (g4.trans g5)
  have kk : Keeps (fun id => σ3.next ≤ id ∧ id < σ4.next) σ4 ((σ5.put σ4.next (.arr 0 [wq, ws', wb, .bool s.busy])).put (σ.next + 1) (.arr 0 [wq, ws', wb, .bool s.busy])) := fun id hi => by
    have hi : σ3.next ≤ id ∧ id < σ4.next := hi
    rw [get_put, if_neg (by omega), get_put, if_neg (by omega)]
    exact g5.get id hi.2
  have ip : ∀ id, (σ3.next ≤ id ∧ id < σ4.next) → σ.next ≤ id ∧ id < ((σ5.put σ4.next (.arr 0 [wq, ws', wb, .bool s.busy])).put (σ.next + 1) (.arr 0 [wq, ws', wb, .bool s.busy])).next := fun id hi => ⟨by omega, by rw [next_put, next_put]; omega⟩
  refine yes _ _ _ v1 (gro_put (gro_put gg (by omega)) (by omega)) (by simp only [WW, argTmps, if_true, if_false, Nat.reduceLT, Nat.reduceEqDiff, Nat.zero_add, Nat.reduceAdd, List.getElem?_toArray, List.getElem?_cons_zero, List.getElem?_cons_succ, List.length_cons, List.length_nil, Option.map_some, reduceCtorEq, Nat.succ_ne_self, Nat.one_ne_zero, Nat.zero_ne_one, Option.some_beq_some, beq_self_eq_true, Bool.not_true, Bool.not_false, Bool.true_beq, Bool.false_beq]) put_cells rfl (by simp only [WW, argTmps, if_true, if_false, Nat.reduceLT, Nat.reduceEqDiff, Nat.zero_add, Nat.reduceAdd, List.getElem?_toArray, List.getElem?_cons_zero, List.getElem?_cons_succ, List.length_cons, List.length_nil, Option.map_some, reduceCtorEq, Nat.succ_ne_self, Nat.one_ne_zero, Nat.zero_ne_one, Option.some_beq_some, beq_self_eq_true, Bool.not_true, Bool.not_false, Bool.true_beq, Bool.false_beq]) (by simp only [WW, argTmps, if_true, if_false, Nat.reduceLT, Nat.reduceEqDiff, Nat.zero_add, Nat.reduceAdd, List.getElem?_toArray, List.getElem?_cons_zero, List.getElem?_cons_succ, List.length_cons, List.length_nil, Option.map_some, reduceCtorEq, Nat.succ_ne_self, Nat.one_ne_zero, Nat.zero_ne_one, Option.some_beq_some, beq_self_eq_true, Bool.not_true, Bool.not_false, Bool.true_beq, Bool.false_beq]) _ _ (by unfold pop; rw [if_neg (fun h => h hr), if_neg hd]) ?_ ?_
  · refine ⟨wq, ws', wb, rfl, k1.keep kk ip fun _ _ h => h.keep kk ip, ?_, k3.keep kk ip fun _ _ h => h⟩
    have : s.stack.dropLast = s.stack.take (s.stack.length - 1) := List.dropLast_eq_take
    simp only [this]
    exact p2.keep kk ip fun _ _ h => h.keep kk ip
  · exact h1.keep kk ip fun _ _ h => h


/-- The reactions that wait for an element. -/
def waitL (qs : List Qu) (h : Int) : List Rx := match qs.find? (fun q => decide (q.el = h)) with
  | some q => q.list
  | none => []
theorem waitL_at {qs : List Qu} {h : Int} {i : Nat} {q : Qu} (hq : qs[i]? = some q) (he : q.el = h) (hp : ∀ x ∈ qs.take i, (decide (x.el = h)) = false) : waitL qs h = q.list := by
  have : qs.find? (fun q => decide (q.el = h)) = some q := by
    obtain ⟨h1, h2⟩ := List.getElem?_eq_some_iff.1 hq
    rw [List.find?_eq_some_iff_getElem]
    refine ⟨by simp [he], i, h1, h2, fun j hj => ?_⟩
    have := hp qs[j] (by rw [List.mem_take_iff_getElem]; exact ⟨j, by omega, rfl⟩)
    simp [this]
  unfold waitL
  rw [this]
theorem waitL_none {qs : List Qu} {h : Int} (hp : ∀ x ∈ qs, (decide (x.el = h)) = false) : waitL qs h = [] := by
  have : qs.find? (fun q => decide (q.el = h)) = none := by
    rw [List.find?_eq_none]
    intro x hx
    simp [hp x hx]
  unfold waitL
  rw [this]

set_option maxRecDepth 100000 in
theorem waiting_ok {σ : St} {ca : List AV} {s : Re} {h : Int} (ha : ReC (· < σ.next) σ ca s) (hs : s.qs.length ≤ Bd) : Ca Mq 45 [.agg ca, .int .i64 h] σ fun r σ' => Rd (· < σ'.next) σ' 12 ER r (waitL s.qs h) ∧ Gro σ σ' := by
  unfold Bd at hs
  have fa := ha.fit
  obtain ⟨σ1, e1⟩ : ∃ σ1, σ.add (.arr 0 ca) = σ1 := ⟨_, rfl⟩
  have g1 : Gro σ σ1 := by rw [← e1]; exact Gro.add _ _
  have c1 : cellsAt σ1 σ.next 0 = some ca := by rw [← e1, cellsAt_add_new]
  obtain ⟨vq, vs, vb, rfl, hq, hst, hbk⟩ := ha.gro g1
  have l1 := hq.len und61
  refine Ca.enter (fn := Tryz.f45) rfl (by kernel_rfl) rfl (by kernel_rfl) (Nat.le_of_ble_eq_true rfl) 27 _ rfl rfl ?_
  generalize hQ : Leave Mq Tryz.f45 _ = Q
  simp only [WW, argTmps, if_true, if_false, Nat.reduceLT, Nat.reduceEqDiff, Nat.zero_add, Nat.reduceAdd, List.getElem?_toArray, List.getElem?_cons_zero, List.getElem?_cons_succ, List.length_cons, List.length_nil, Option.map_some, reduceCtorEq, Nat.succ_ne_self, Nat.one_ne_zero, Nat.zero_ne_one, Option.some_beq_some, beq_self_eq_true, Bool.not_true, Bool.not_false, Bool.true_beq, Bool.false_beq, WT, opNew_eq fa.1, AV.cells, e1]
  refine Co_loop (fun m fr σ2 => ∃ i t, m + i = s.qs.length ∧ fr = ⟨t, [], 27, none⟩ ∧ σ1 = σ2 ∧ (∀ x ∈ s.qs.take i, (decide (x.el = h)) = false) ∧ getT t 1 = .int .i64 h ∧ getT t 2 = .ptr σ.next 0 0 ∧ getT t 5 = .int .i64 (i : Nat)) s.qs.length
    ⟨0, _, rfl, rfl, rfl, by simp, by simp only [WW, argTmps, if_true, if_false, Nat.reduceLT, Nat.reduceEqDiff, Nat.zero_add, Nat.reduceAdd, List.getElem?_toArray, List.getElem?_cons_zero, List.getElem?_cons_succ, List.length_cons, List.length_nil, Option.map_some, reduceCtorEq, Nat.succ_ne_self, Nat.one_ne_zero, Nat.zero_ne_one, Option.some_beq_some, beq_self_eq_true, Bool.not_true, Bool.not_false, Bool.true_beq, Bool.false_beq], by simp only [WW, argTmps, if_true, if_false, Nat.reduceLT, Nat.reduceEqDiff, Nat.zero_add, Nat.reduceAdd, List.getElem?_toArray, List.getElem?_cons_zero, List.getElem?_cons_succ, List.length_cons, List.length_nil, Option.map_some, reduceCtorEq, Nat.succ_ne_self, Nat.one_ne_zero, Nat.zero_ne_one, Option.some_beq_some, beq_self_eq_true, Bool.not_true, Bool.not_false, Bool.true_beq, Bool.false_beq], by simp only [WW, argTmps, if_true, if_false, Nat.reduceLT, Nat.reduceEqDiff, Nat.zero_add, Nat.reduceAdd, List.getElem?_toArray, List.getElem?_cons_zero, List.getElem?_cons_succ, List.length_cons, List.length_nil, Option.map_some, reduceCtorEq, Nat.succ_ne_self, Nat.one_ne_zero, Nat.zero_ne_one, Option.some_beq_some, beq_self_eq_true, Bool.not_true, Bool.not_false, Bool.true_beq, Bool.false_beq]; rfl⟩ ?_
  rintro m fr σ2 K ⟨i, t, hm, rfl, rfl, ht, f1, f2, f5⟩ kn ke kr
  simp only [WW, argTmps, if_true, if_false, Nat.reduceLT, Nat.reduceEqDiff, Nat.zero_add, Nat.reduceAdd, List.getElem?_toArray, List.getElem?_cons_zero, List.getElem?_cons_succ, List.length_cons, List.length_nil, Option.map_some, reduceCtorEq, Nat.succ_ne_self, Nat.one_ne_zero, Nat.zero_ne_one, Option.some_beq_some, beq_self_eq_true, Bool.not_true, Bool.not_false, Bool.true_beq, Bool.false_beq, WT, f2, f5, c1, l1]
  by_cases hi : i < s.qs.length
  case neg =>
    rw [List.take_of_length_le (by omega)] at ht
    simp only [natge hi, WW, argTmps, if_true, if_false, Nat.reduceLT, Nat.reduceEqDiff, Nat.zero_add, Nat.reduceAdd, List.getElem?_toArray, List.getElem?_cons_zero, List.getElem?_cons_succ, List.length_cons, List.length_nil, Option.map_some, reduceCtorEq, Nat.succ_ne_self, Nat.one_ne_zero, Nat.zero_ne_one, Option.some_beq_some, beq_self_eq_true, Bool.not_true, Bool.not_false, Bool.true_beq, Bool.false_beq, WT, ke, kr]
    subst hQ
    exact leave_tmp (d := 4) (v := .nils) rfl (by simp only [WW, argTmps, if_true, if_false, Nat.reduceLT, Nat.reduceEqDiff, Nat.zero_add, Nat.reduceAdd, List.getElem?_toArray, List.getElem?_cons_zero, List.getElem?_cons_succ, List.length_cons, List.length_nil, Option.map_some, reduceCtorEq, Nat.succ_ne_self, Nat.one_ne_zero, Nat.zero_ne_one, Option.some_beq_some, beq_self_eq_true, Bool.not_true, Bool.not_false, Bool.true_beq, Bool.false_beq]) ⟨by rw [waitL_none ht]; exact rd_nils _ _ _ _, g1⟩
  obtain ⟨x, hx⟩ := get_some hi
  obtain ⟨c, u1, ⟨w, rfl, hw⟩, _⟩ := hq.elt hx
  simp only [natlt hi, WW, argTmps, if_true, if_false, Nat.reduceLT, Nat.reduceEqDiff, Nat.zero_add, Nat.reduceAdd, List.getElem?_toArray, List.getElem?_cons_zero, List.getElem?_cons_succ, List.length_cons, List.length_nil, Option.map_some, reduceCtorEq, Nat.succ_ne_self, Nat.one_ne_zero, Nat.zero_ne_one, Option.some_beq_some, beq_self_eq_true, Bool.not_true, Bool.not_false, Bool.true_beq, Bool.false_beq, WT, f1, f2, f5, c1, u1.ix und61 sz81, u1.fa (fun _ _ _ => fa81_0) (fun _ _ => fr81_0), u1.ld ag3 (k := 0) (by omega) rfl]
  by_cases he : x.el = h
  · simp only [he, decide_true, WW, argTmps, if_true, if_false, Nat.reduceLT, Nat.reduceEqDiff, Nat.zero_add, Nat.reduceAdd, List.getElem?_toArray, List.getElem?_cons_zero, List.getElem?_cons_succ, List.length_cons, List.length_nil, Option.map_some, reduceCtorEq, Nat.succ_ne_self, Nat.one_ne_zero, Nat.zero_ne_one, Option.some_beq_some, beq_self_eq_true, Bool.not_true, Bool.not_false, Bool.true_beq, Bool.false_beq, WT, f2, f5, c1, u1.ix und61 sz81, u1.fa (fun _ _ _ => fa81_1) (fun _ _ => fr81_1), u1.ld ag79 (k := 1) (by omega) rfl, ke, kr]
    subst hQ
    exact leave_tmp (d := 4) (v := w) rfl (by simp only [WW, argTmps, if_true, if_false, Nat.reduceLT, Nat.reduceEqDiff, Nat.zero_add, Nat.reduceAdd, List.getElem?_toArray, List.getElem?_cons_zero, List.getElem?_cons_succ, List.length_cons, List.length_nil, Option.map_some, reduceCtorEq, Nat.succ_ne_self, Nat.one_ne_zero, Nat.zero_ne_one, Option.some_beq_some, beq_self_eq_true, Bool.not_true, Bool.not_false, Bool.true_beq, Bool.false_beq]) ⟨by rw [waitL_at hx he ht]; exact hw, g1⟩
  · simp only [he, decide_false, WW, argTmps, if_true, if_false, Nat.reduceLT, Nat.reduceEqDiff, Nat.zero_add, Nat.reduceAdd, List.getElem?_toArray, List.getElem?_cons_zero, List.getElem?_cons_succ, List.length_cons, List.length_nil, Option.map_some, reduceCtorEq, Nat.succ_ne_self, Nat.one_ne_zero, Nat.zero_ne_one, Option.some_beq_some, beq_self_eq_true, Bool.not_true, Bool.not_false, Bool.true_beq, Bool.false_beq, WT, f5, wrapS (show i < 1000000000000 by omega)]
    exact kn (m - 1) _ _ (by omega) ⟨i + 1, _, by omega, rfl, rfl, fun y hy => by
      rcases (take_mem hx).1 hy with hh | hh
      · exact ht y hh
      · rw [hh]; simp [he], by simp only [WW, argTmps, if_true, if_false, Nat.reduceLT, Nat.reduceEqDiff, Nat.zero_add, Nat.reduceAdd, List.getElem?_toArray, List.getElem?_cons_zero, List.getElem?_cons_succ, List.length_cons, List.length_nil, Option.map_some, reduceCtorEq, Nat.succ_ne_self, Nat.one_ne_zero, Nat.zero_ne_one, Option.some_beq_some, beq_self_eq_true, Bool.not_true, Bool.not_false, Bool.true_beq, Bool.false_beq]; exact f1, by simp only [WW, argTmps, if_true, if_false, Nat.reduceLT, Nat.reduceEqDiff, Nat.zero_add, Nat.reduceAdd, List.getElem?_toArray, List.getElem?_cons_zero, List.getElem?_cons_succ, List.length_cons, List.length_nil, Option.map_some, reduceCtorEq, Nat.succ_ne_self, Nat.one_ne_zero, Nat.zero_ne_one, Option.some_beq_some, beq_self_eq_true, Bool.not_true, Bool.not_false, Bool.true_beq, Bool.false_beq]; exact f2, by simp only [WW, argTmps, if_true, if_false, Nat.reduceLT, Nat.reduceEqDiff, Nat.zero_add, Nat.reduceAdd, List.getElem?_toArray, List.getElem?_cons_zero, List.getElem?_cons_succ, List.length_cons, List.length_nil, Option.map_some, reduceCtorEq, Nat.succ_ne_self, Nat.one_ne_zero, Nat.zero_ne_one, Option.some_beq_some, beq_self_eq_true, Bool.not_true, Bool.not_false, Bool.true_beq, Bool.false_beq]⟩

set_option maxRecDepth 100000 in
theorem begun_same {p q : Nat → Prop} {σ : St} {va vb : AV} {a : List Rx} (ha : Rd p σ 12 ER va a) (hb : Rd q σ 12 ER vb a) (hs : a.length ≤ Bd) : Ca Mq 42 [va, vb] σ fun r σ' => r = .bool true ∧ σ = σ' := by
  unfold Bd at hs
  have l1 := ha.len und79
  have l2 := hb.len und79
  refine Ca.enter (fn := Tryz.f42) rfl (by kernel_rfl) rfl (by kernel_rfl) (Nat.le_of_ble_eq_true rfl) 27 _ rfl rfl ?_
  generalize hQ : Leave Mq Tryz.f42 _ = Q
  simp only [WW, argTmps, if_true, if_false, Nat.reduceLT, Nat.reduceEqDiff, Nat.zero_add, Nat.reduceAdd, List.getElem?_toArray, List.getElem?_cons_zero, List.getElem?_cons_succ, List.length_cons, List.length_nil, Option.map_some, reduceCtorEq, Nat.succ_ne_self, Nat.one_ne_zero, Nat.zero_ne_one, Option.some_beq_some, beq_self_eq_true, Bool.not_true, Bool.not_false, Bool.true_beq, Bool.false_beq, WT]
  refine Co_loop (fun m fr σ2 => ∃ i t, m + i = a.length ∧ fr = ⟨t, [], 27, none⟩ ∧ σ = σ2 ∧ getT t 0 = va ∧ getT t 1 = vb ∧ getT t 5 = .int .i64 (i : Nat)) a.length
    ⟨0, _, rfl, rfl, rfl, by simp only [WW, argTmps, if_true, if_false, Nat.reduceLT, Nat.reduceEqDiff, Nat.zero_add, Nat.reduceAdd, List.getElem?_toArray, List.getElem?_cons_zero, List.getElem?_cons_succ, List.length_cons, List.length_nil, Option.map_some, reduceCtorEq, Nat.succ_ne_self, Nat.one_ne_zero, Nat.zero_ne_one, Option.some_beq_some, beq_self_eq_true, Bool.not_true, Bool.not_false, Bool.true_beq, Bool.false_beq], by simp only [WW, argTmps, if_true, if_false, Nat.reduceLT, Nat.reduceEqDiff, Nat.zero_add, Nat.reduceAdd, List.getElem?_toArray, List.getElem?_cons_zero, List.getElem?_cons_succ, List.length_cons, List.length_nil, Option.map_some, reduceCtorEq, Nat.succ_ne_self, Nat.one_ne_zero, Nat.zero_ne_one, Option.some_beq_some, beq_self_eq_true, Bool.not_true, Bool.not_false, Bool.true_beq, Bool.false_beq], by simp only [WW, argTmps, if_true, if_false, Nat.reduceLT, Nat.reduceEqDiff, Nat.zero_add, Nat.reduceAdd, List.getElem?_toArray, List.getElem?_cons_zero, List.getElem?_cons_succ, List.length_cons, List.length_nil, Option.map_some, reduceCtorEq, Nat.succ_ne_self, Nat.one_ne_zero, Nat.zero_ne_one, Option.some_beq_some, beq_self_eq_true, Bool.not_true, Bool.not_false, Bool.true_beq, Bool.false_beq]; rfl⟩ ?_
  rintro m fr σ2 K ⟨i, t, hm, rfl, rfl, f0, f1, f5⟩ kn ke kr
  simp only [WW, argTmps, if_true, if_false, Nat.reduceLT, Nat.reduceEqDiff, Nat.zero_add, Nat.reduceAdd, List.getElem?_toArray, List.getElem?_cons_zero, List.getElem?_cons_succ, List.length_cons, List.length_nil, Option.map_some, reduceCtorEq, Nat.succ_ne_self, Nat.one_ne_zero, Nat.zero_ne_one, Option.some_beq_some, beq_self_eq_true, Bool.not_true, Bool.not_false, Bool.true_beq, Bool.false_beq, WT, f1, f5, l2]
  by_cases hi : i < a.length
  case neg =>
    simp only [natge hi, WW, argTmps, if_true, if_false, Nat.reduceLT, Nat.reduceEqDiff, Nat.zero_add, Nat.reduceAdd, List.getElem?_toArray, List.getElem?_cons_zero, List.getElem?_cons_succ, List.length_cons, List.length_nil, Option.map_some, reduceCtorEq, Nat.succ_ne_self, Nat.one_ne_zero, Nat.zero_ne_one, Option.some_beq_some, beq_self_eq_true, Bool.not_true, Bool.not_false, Bool.true_beq, Bool.false_beq, WT, ke, kr]
    subst hQ
    exact leave_tmp (d := 4) (v := .bool true) rfl (by simp only [WW, argTmps, if_true, if_false, Nat.reduceLT, Nat.reduceEqDiff, Nat.zero_add, Nat.reduceAdd, List.getElem?_toArray, List.getElem?_cons_zero, List.getElem?_cons_succ, List.length_cons, List.length_nil, Option.map_some, reduceCtorEq, Nat.succ_ne_self, Nat.one_ne_zero, Nat.zero_ne_one, Option.some_beq_some, beq_self_eq_true, Bool.not_true, Bool.not_false, Bool.true_beq, Bool.false_beq]) ⟨rfl, rfl⟩
  obtain ⟨x, hx⟩ := get_some hi
  obtain ⟨c, u1, ⟨rfl, _⟩, _⟩ := ha.elt hx
  obtain ⟨c, u2, ⟨rfl, _⟩, _⟩ := hb.elt hx
  simp only [natlt hi, WW, argTmps, if_true, if_false, Nat.reduceLT, Nat.reduceEqDiff, Nat.zero_add, Nat.reduceAdd, List.getElem?_toArray, List.getElem?_cons_zero, List.getElem?_cons_succ, List.length_cons, List.length_nil, Option.map_some, reduceCtorEq, Nat.succ_ne_self, Nat.one_ne_zero, Nat.zero_ne_one, Option.some_beq_some, beq_self_eq_true, Bool.not_true, Bool.not_false, Bool.true_beq, Bool.false_beq]
  refine Co_draw [] [0, 1, 2, 3, 4, 5, 6, 7, 8, 9, 10, 11, 12, 13, 14] (by kernel_rfl) (by kernel_rfl) (by kernel_rfl) ?_
  simp only [WW, argTmps, if_true, if_false, Nat.reduceLT, Nat.reduceEqDiff, Nat.zero_add, Nat.reduceAdd, List.getElem?_toArray, List.getElem?_cons_zero, List.getElem?_cons_succ, List.length_cons, List.length_nil, Option.map_some, reduceCtorEq, Nat.succ_ne_self, Nat.one_ne_zero, Nat.zero_ne_one, Option.some_beq_some, beq_self_eq_true, Bool.not_true, Bool.not_false, Bool.true_beq, Bool.false_beq, WD, and_true, true_and, and_self, WT, f0, f1, f5, l1, decide_eq_false (show ¬ ((a.length : Nat) : Int) ≤ ((i : Nat) : Int) by omega), u1.ix und79 sz87, u2.ix und79 sz87, u1.lda ag87 sz87, u2.lda ag87 sz87, neqRx, decide_true, wrapS (show i < 1000000000000 by omega)]
  exact kn (m - 1) _ _ (by omega) ⟨i + 1, _, by omega, rfl, rfl, by simp only [WW, argTmps, if_true, if_false, Nat.reduceLT, Nat.reduceEqDiff, Nat.zero_add, Nat.reduceAdd, List.getElem?_toArray, List.getElem?_cons_zero, List.getElem?_cons_succ, List.length_cons, List.length_nil, Option.map_some, reduceCtorEq, Nat.succ_ne_self, Nat.one_ne_zero, Nat.zero_ne_one, Option.some_beq_some, beq_self_eq_true, Bool.not_true, Bool.not_false, Bool.true_beq, Bool.false_beq]; exact f0, by simp only [WW, argTmps, if_true, if_false, Nat.reduceLT, Nat.reduceEqDiff, Nat.zero_add, Nat.reduceAdd, List.getElem?_toArray, List.getElem?_cons_zero, List.getElem?_cons_succ, List.length_cons, List.length_nil, Option.map_some, reduceCtorEq, Nat.succ_ne_self, Nat.one_ne_zero, Nat.zero_ne_one, Option.some_beq_some, beq_self_eq_true, Bool.not_true, Bool.not_false, Bool.true_beq, Bool.false_beq]; exact f1, by simp only [WW, argTmps, if_true, if_false, Nat.reduceLT, Nat.reduceEqDiff, Nat.zero_add, Nat.reduceAdd, List.getElem?_toArray, List.getElem?_cons_zero, List.getElem?_cons_succ, List.length_cons, List.length_nil, Option.map_some, reduceCtorEq, Nat.succ_ne_self, Nat.one_ne_zero, Nat.zero_ne_one, Option.some_beq_some, beq_self_eq_true, Bool.not_true, Bool.not_false, Bool.true_beq, Bool.false_beq]⟩
end Go.Proofs.YtmchghdmejbblaaGreatDoor
