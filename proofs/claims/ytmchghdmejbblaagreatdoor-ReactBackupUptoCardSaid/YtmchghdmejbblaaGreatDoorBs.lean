/- Pop: the program's and the document's. -/
import Derived.Test.YtmchghdmejbblaaGreatDoorBr
set_option linter.unusedSimpArgs false
set_option linter.unusedVariables false
noncomputable section
namespace Go.Proofs.YtmchghdmejbblaaGreatDoor
open Go Go.Ab Go.RowKit

theorem wrapP {n : Nat} (h0 : 0 < n) (h : n < 1000000000000) : IntKind.i64.wrap ((n : Int) - 1) = ((n - 1 : Nat) : Int) := by
  rw [wrap_in (by omega) (by omega)]
  omega
theorem drop_last_get {s : Re} (h : 0 < s.stack.length) : s.stack[s.stack.length - 1]? = some (s.stack.getLast?.getD []) := by
  rw [List.getLast?_eq_getElem?]
  obtain ⟨x, hx⟩ := get_some (show s.stack.length - 1 < s.stack.length by omega)
  rw [hx]
  rfl

set_option maxRecDepth 100000 in
theorem pop35_ok {σ : St} {ca : List AV} {s : Re} (ha : ReC (· < σ.next) σ ca s) (hs : s.ok) : Ca Mq 35 [.agg ca] σ fun r σ' => ∃ c v, r = .tup [.agg c, v, .int .i64 (pop s).2.2] ∧ ReC (· < σ'.next) σ' c (pop s).1 ∧ Rd (· < σ'.next) σ' 1 EI v (pop s).2.1 ∧ Gro σ σ' := by
  obtain ⟨σ2, e2, g2, n2, c0, c1, ha2⟩ := two_vars ha
  have fa := ha.fit
  have hsn := hs.stack
  unfold Bd at hsn
  refine Ca.enter (fn := Tryz.f35) rfl (by kernel_rfl) rfl (by kernel_rfl) (Nat.le_of_ble_eq_true rfl) 36 _ rfl rfl ?_
  generalize hQ : Leave Mq Tryz.f35 _ = Q
  have no : ∀ t σ' w, Gro σ σ' → getT t 2 = .ptr (σ.next + 1) 0 0 → cellsAt σ' (σ.next + 1) 0 = some [.nils, .nils, .nils, .bool false] → getT t 3 = .nils → getT t 4 = .int .i64 w → pop s = (emptyRe, [], w) → Q .ret ⟨t, [], 36, none⟩ σ' := fun t σ' w g h1 h2 h3 h4 h5 => by
    subst hQ
    exact leave3 (d := 2) (d2 := 3) (d3 := 4) rfl h1 h2 rfl h3 h4 ⟨_, _, by rw [h5], by rw [h5]; exact empty_rec σ', by rw [h5]; exact rd_nils _ _ _ _, g⟩
  have yes : ∀ t σ' c v, Gro σ σ' → getT t 2 = .ptr (σ.next + 1) 0 0 → cellsAt σ' (σ.next + 1) 0 = some c → c.length = 4 → getT t 3 = v → getT t 4 = .int .i64 0 → ∀ s' l, pop s = (s', l, 0) → ReC (· < σ'.next) σ' c s' → Rd (· < σ'.next) σ' 1 EI v l → Q .ret ⟨t, [], 36, none⟩ σ' := fun t σ' c v g h1 h2 hl h3 h4 s' l h5 h6 h7 => by
    subst hQ
    exact leave3 (d := 2) (d2 := 3) (d3 := 4) rfl h1 h2 hl h3 h4 ⟨_, _, by rw [h5], by rw [h5]; exact h6, by rw [h5]; exact h7, g⟩
  clear hQ
  obtain ⟨vq, vs, vb, rfl, hq, hst, hbk⟩ := ha2
  have l2 := hst.len und62
  simp only [WW, argTmps, if_true, if_false, Nat.reduceLT, Nat.reduceEqDiff, Nat.zero_add, Nat.reduceAdd, List.getElem?_toArray, List.getElem?_cons_zero, List.getElem?_cons_succ, List.length_cons, List.length_nil, Option.map_some, reduceCtorEq, Nat.succ_ne_self, Nat.one_ne_zero, Nat.zero_ne_one, Option.some_beq_some, beq_self_eq_true, Bool.not_true, Bool.not_false, Bool.true_beq, Bool.false_beq, WT, opNew_eq fa.1, AV.cells, al64, next_add, e2, c0, ldC_all fa.2, l2]
  refine (check_ok ⟨vq, vs, vb, rfl, hq, hst, hbk⟩ hs).mono ?_
  rintro r σ3 ⟨rfl, g3⟩
  have c03 := g3.cells (by omega) c0
  have c13 := g3.cells (by omega) c1
  by_cases hr : RightP s
  case neg =>
    rw [right_no hr]
    simp only [WW, argTmps, if_true, if_false, Nat.reduceLT, Nat.reduceEqDiff, Nat.zero_add, Nat.reduceAdd, List.getElem?_toArray, List.getElem?_cons_zero, List.getElem?_cons_succ, List.length_cons, List.length_nil, Option.map_some, reduceCtorEq, Nat.succ_ne_self, Nat.one_ne_zero, Nat.zero_ne_one, Option.some_beq_some, beq_self_eq_true, Bool.not_true, Bool.not_false, Bool.true_beq, Bool.false_beq, WT, Bool.false_eq_true, decide_eq_false (show ¬ (15 : Int) = 0 by omega), evParts_nil, bd64_0, c13, st64 (c := [.nils, .nils, .nils, .bool false]) (z := [.nils, .nils, .nils, .bool false]) rfl rfl rfl]
    exact no _ _ 15 (gro_put (g2.trans g3) (by omega)) (by simp only [WW, argTmps, if_true, if_false, Nat.reduceLT, Nat.reduceEqDiff, Nat.zero_add, Nat.reduceAdd, List.getElem?_toArray, List.getElem?_cons_zero, List.getElem?_cons_succ, List.length_cons, List.length_nil, Option.map_some, reduceCtorEq, Nat.succ_ne_self, Nat.one_ne_zero, Nat.zero_ne_one, Option.some_beq_some, beq_self_eq_true, Bool.not_true, Bool.not_false, Bool.true_beq, Bool.false_beq]) put_cells (by simp only [WW, argTmps, if_true, if_false, Nat.reduceLT, Nat.reduceEqDiff, Nat.zero_add, Nat.reduceAdd, List.getElem?_toArray, List.getElem?_cons_zero, List.getElem?_cons_succ, List.length_cons, List.length_nil, Option.map_some, reduceCtorEq, Nat.succ_ne_self, Nat.one_ne_zero, Nat.zero_ne_one, Option.some_beq_some, beq_self_eq_true, Bool.not_true, Bool.not_false, Bool.true_beq, Bool.false_beq]) (by simp only [WW, argTmps, if_true, if_false, Nat.reduceLT, Nat.reduceEqDiff, Nat.zero_add, Nat.reduceAdd, List.getElem?_toArray, List.getElem?_cons_zero, List.getElem?_cons_succ, List.length_cons, List.length_nil, Option.map_some, reduceCtorEq, Nat.succ_ne_self, Nat.one_ne_zero, Nat.zero_ne_one, Option.some_beq_some, beq_self_eq_true, Bool.not_true, Bool.not_false, Bool.true_beq, Bool.false_beq]) (by unfold pop; rw [if_pos hr])
  rw [right_yes hr]
  by_cases hd : s.stack.length = 0
  case pos =>
    simp only [WW, argTmps, if_true, if_false, Nat.reduceLT, Nat.reduceEqDiff, Nat.zero_add, Nat.reduceAdd, List.getElem?_toArray, List.getElem?_cons_zero, List.getElem?_cons_succ, List.length_cons, List.length_nil, Option.map_some, reduceCtorEq, Nat.succ_ne_self, Nat.one_ne_zero, Nat.zero_ne_one, Option.some_beq_some, beq_self_eq_true, Bool.not_true, Bool.not_false, Bool.true_beq, Bool.false_beq, WT, decide_true, decide_eq_true (show ((s.stack.length : Nat) : Int) = 0 by omega), evParts_nil, bd64_0, c13, st64 (c := [.nils, .nils, .nils, .bool false]) (z := [.nils, .nils, .nils, .bool false]) rfl rfl rfl]
    exact no _ _ 11 (gro_put (g2.trans g3) (by omega)) (by simp only [WW, argTmps, if_true, if_false, Nat.reduceLT, Nat.reduceEqDiff, Nat.zero_add, Nat.reduceAdd, List.getElem?_toArray, List.getElem?_cons_zero, List.getElem?_cons_succ, List.length_cons, List.length_nil, Option.map_some, reduceCtorEq, Nat.succ_ne_self, Nat.one_ne_zero, Nat.zero_ne_one, Option.some_beq_some, beq_self_eq_true, Bool.not_true, Bool.not_false, Bool.true_beq, Bool.false_beq]) put_cells (by simp only [WW, argTmps, if_true, if_false, Nat.reduceLT, Nat.reduceEqDiff, Nat.zero_add, Nat.reduceAdd, List.getElem?_toArray, List.getElem?_cons_zero, List.getElem?_cons_succ, List.length_cons, List.length_nil, Option.map_some, reduceCtorEq, Nat.succ_ne_self, Nat.one_ne_zero, Nat.zero_ne_one, Option.some_beq_some, beq_self_eq_true, Bool.not_true, Bool.not_false, Bool.true_beq, Bool.false_beq]) (by simp only [WW, argTmps, if_true, if_false, Nat.reduceLT, Nat.reduceEqDiff, Nat.zero_add, Nat.reduceAdd, List.getElem?_toArray, List.getElem?_cons_zero, List.getElem?_cons_succ, List.length_cons, List.length_nil, Option.map_some, reduceCtorEq, Nat.succ_ne_self, Nat.one_ne_zero, Nat.zero_ne_one, Option.some_beq_some, beq_self_eq_true, Bool.not_true, Bool.not_false, Bool.true_beq, Bool.false_beq]) (by unfold pop; rw [if_neg (fun h => h hr), if_pos hd])
  have hq3 := rdq_gro hq g3
  have hst3 := rdl_gro hst g3
  have hbk3 := rd_gro hbk g3
  simp only [WW, argTmps, if_true, if_false, Nat.reduceLT, Nat.reduceEqDiff, Nat.zero_add, Nat.reduceAdd, List.getElem?_toArray, List.getElem?_cons_zero, List.getElem?_cons_succ, List.length_cons, List.length_nil, Option.map_some, reduceCtorEq, Nat.succ_ne_self, Nat.one_ne_zero, Nat.zero_ne_one, Option.some_beq_some, beq_self_eq_true, Bool.not_true, Bool.not_false, Bool.true_beq, Bool.false_beq, WT, decide_true, decide_eq_false (show ¬ ((s.stack.length : Nat) : Int) = 0 by omega), c03, ldC_all (n := 4) (cells := [vq, vs, vb, .bool s.busy]) rfl]
  refine (own_ok ⟨vq, vs, vb, rfl, hq3, hst3, hbk3⟩ hs).mono ?_
  rintro r σ4 ⟨wq, ws, wb, rfl, ho, g4⟩
  obtain ⟨o1, o2, o3⟩ := outp_ones ho
  obtain ⟨σ5, e5, g5, n5, c5⟩ := var_ex σ4 [.nils, .nils, .nils, .bool false] [wq, ws, wb, .bool s.busy]
  have b43 := g3.le
  have b44 := g4.le
  obtain ⟨_, _, _, ee, k1, k2, k3⟩ := ho.reads s.busy
  cases ee
  obtain ⟨c, e1, ⟨v1, rfl, h1⟩, _⟩ := k2.elt (drop_last_get (s := s) (by omega))
  obtain ⟨ws', p1, p2, p3⟩ := slice_to (T := Mq.T) und62 sz40 k2 (h := s.stack.length - 1) (by simp only; omega) (by simp only; omega)
  obtain ⟨_, _, hva, _⟩ := k2
  have e15 := elt_keep e1 hva (τ := σ5) fun id h => g5.get id h.2
  have c15 := (g4.trans g5).cells (by omega) c13
  simp only [WW, argTmps, if_true, if_false, Nat.reduceLT, Nat.reduceEqDiff, Nat.zero_add, Nat.reduceAdd, List.getElem?_toArray, List.getElem?_cons_zero, List.getElem?_cons_succ, List.length_cons, List.length_nil, Option.map_some, reduceCtorEq, Nat.succ_ne_self, Nat.one_ne_zero, Nat.zero_ne_one, Option.some_beq_some, beq_self_eq_true, Bool.not_true, Bool.not_false, Bool.true_beq, Bool.false_beq, WT, al64, st64 (c := [wq, ws, wb, .bool s.busy]) (z := [.nils, .nils, .nils, .bool false]) (fr4 o1 o2 o3) rfl rfl, e5, c5, wrapP (show 0 < s.stack.length by omega) (by omega), e15.ix und62 sz40, e15.ld0 ag40 (by omega) rfl, p1, st4_1 p3 p2.one, put_cells,
    ldC_all (n := 4) (cells := [wq, ws', wb, .bool s.busy]) rfl, put_cells_ne (show σ.next + 1 ≠ σ4.next by omega), c15, st64 (c := [wq, ws', wb, .bool s.busy]) (z := [.nils, .nils, .nils, .bool false]) (fr4 o1 p2.one o3) rfl rfl]
  have gg : Gro σ σ5 := (g2.trans g3).trans (g4.trans g5)
  have kk : Keeps (fun id => σ3.next ≤ id ∧ id < σ4.next) σ4 ((σ5.put σ4.next (.arr 0 [wq, ws', wb, .bool s.busy])).put (σ.next + 1) (.arr 0 [wq, ws', wb, .bool s.busy])) := fun id hi => by
    have hi : σ3.next ≤ id ∧ id < σ4.next := hi
    rw [get_put, if_neg (by omega), get_put, if_neg (by omega)]
    exact g5.get id hi.2
  have ip : ∀ id, (σ3.next ≤ id ∧ id < σ4.next) → id < ((σ5.put σ4.next (.arr 0 [wq, ws', wb, .bool s.busy])).put (σ.next + 1) (.arr 0 [wq, ws', wb, .bool s.busy])).next := fun id hi => by rw [next_put, next_put]; omega
  refine yes _ _ _ v1 (gro_put (gro_put gg (by omega)) (by omega)) (by simp only [WW, argTmps, if_true, if_false, Nat.reduceLT, Nat.reduceEqDiff, Nat.zero_add, Nat.reduceAdd, List.getElem?_toArray, List.getElem?_cons_zero, List.getElem?_cons_succ, List.length_cons, List.length_nil, Option.map_some, reduceCtorEq, Nat.succ_ne_self, Nat.one_ne_zero, Nat.zero_ne_one, Option.some_beq_some, beq_self_eq_true, Bool.not_true, Bool.not_false, Bool.true_beq, Bool.false_beq]) put_cells rfl (by simp only [WW, argTmps, if_true, if_false, Nat.reduceLT, Nat.reduceEqDiff, Nat.zero_add, Nat.reduceAdd, List.getElem?_toArray, List.getElem?_cons_zero, List.getElem?_cons_succ, List.length_cons, List.length_nil, Option.map_some, reduceCtorEq, Nat.succ_ne_self, Nat.one_ne_zero, Nat.zero_ne_one, Option.some_beq_some, beq_self_eq_true, Bool.not_true, Bool.not_false, Bool.true_beq, Bool.false_beq]) (by simp only [WW, argTmps, if_true, if_false, Nat.reduceLT, Nat.reduceEqDiff, Nat.zero_add, Nat.reduceAdd, List.getElem?_toArray, List.getElem?_cons_zero, List.getElem?_cons_succ, List.length_cons, List.length_nil, Option.map_some, reduceCtorEq, Nat.succ_ne_self, Nat.one_ne_zero, Nat.zero_ne_one, Option.some_beq_some, beq_self_eq_true, Bool.not_true, Bool.not_false, Bool.true_beq, Bool.false_beq]) _ _ (by unfold pop; rw [if_neg (fun h => h hr), if_neg hd]) ?_ ?_
  · refine ⟨wq, ws', wb, rfl, k1.keep kk ip fun _ _ h => h.keep kk ip, ?_, k3.keep kk ip fun _ _ h => h⟩
    have : s.stack.dropLast = s.stack.take (s.stack.length - 1) := List.dropLast_eq_take
    simp only [this]
    exact p2.keep kk ip fun _ _ h => h.keep kk ip
  · exact h1.keep kk ip fun _ _ h => h

set_option maxRecDepth 100000 in
theorem pop36_ok {σ : St} {ca : List AV} {s : Re} (ha : ReC (· < σ.next) σ ca s) (hs : s.ok) : Ca Mq 36 [.agg ca] σ fun r σ' => ∃ c v, r = .tup [.agg c, v, .int .i64 (pop s).2.2] ∧ ReC (· < σ'.next) σ' c (pop s).1 ∧ Rd (· < σ'.next) σ' 1 EI v (pop s).2.1 ∧ Gro σ σ' := by
  obtain ⟨σ2, e2, g2, n2, c0, c1, ha2⟩ := two_vars ha
  have fa := ha.fit
  have hsn := hs.stack
  unfold Bd at hsn
  refine Ca.enter (fn := Tryz.f36) rfl (by kernel_rfl) rfl (by kernel_rfl) (Nat.le_of_ble_eq_true rfl) 34 _ rfl rfl ?_
  generalize hQ : Leave Mq Tryz.f36 _ = Q
  have no : ∀ t σ' w, Gro σ σ' → getT t 2 = .ptr (σ.next + 1) 0 0 → cellsAt σ' (σ.next + 1) 0 = some [.nils, .nils, .nils, .bool false] → getT t 3 = .nils → getT t 4 = .int .i64 w → pop s = (emptyRe, [], w) → Q .ret ⟨t, [], 34, none⟩ σ' := fun t σ' w g h1 h2 h3 h4 h5 => by
    subst hQ
    exact leave3 (d := 2) (d2 := 3) (d3 := 4) rfl h1 h2 rfl h3 h4 ⟨_, _, by rw [h5], by rw [h5]; exact empty_rec σ', by rw [h5]; exact rd_nils _ _ _ _, g⟩
  have yes : ∀ t σ' c v, Gro σ σ' → getT t 2 = .ptr (σ.next + 1) 0 0 → cellsAt σ' (σ.next + 1) 0 = some c → c.length = 4 → getT t 3 = v → getT t 4 = .int .i64 0 → ∀ s' l, pop s = (s', l, 0) → ReC (· < σ'.next) σ' c s' → Rd (· < σ'.next) σ' 1 EI v l → Q .ret ⟨t, [], 34, none⟩ σ' := fun t σ' c v g h1 h2 hl h3 h4 s' l h5 h6 h7 => by
    subst hQ
    exact leave3 (d := 2) (d2 := 3) (d3 := 4) rfl h1 h2 hl h3 h4 ⟨_, _, by rw [h5], by rw [h5]; exact h6, by rw [h5]; exact h7, g⟩
  clear hQ
  simp only [WW, argTmps, if_true, if_false, Nat.reduceLT, Nat.reduceEqDiff, Nat.zero_add, Nat.reduceAdd, List.getElem?_toArray, List.getElem?_cons_zero, List.getElem?_cons_succ, List.length_cons, List.length_nil, Option.map_some, reduceCtorEq, Nat.succ_ne_self, Nat.one_ne_zero, Nat.zero_ne_one, Option.some_beq_some, beq_self_eq_true, Bool.not_true, Bool.not_false, Bool.true_beq, Bool.false_beq, WT, opNew_eq fa.1, AV.cells, al64, next_add, e2, c0, ldC_all fa.2]
  refine (right_ok ha2 hs).mono ?_
  rintro r σ3 ⟨rfl, g3⟩
  have c03 := g3.cells (by omega) c0
  have c13 := g3.cells (by omega) c1
  by_cases hr : RightP s
  case neg =>
    rw [right_no hr]
    simp only [WW, argTmps, if_true, if_false, Nat.reduceLT, Nat.reduceEqDiff, Nat.zero_add, Nat.reduceAdd, List.getElem?_toArray, List.getElem?_cons_zero, List.getElem?_cons_succ, List.length_cons, List.length_nil, Option.map_some, reduceCtorEq, Nat.succ_ne_self, Nat.one_ne_zero, Nat.zero_ne_one, Option.some_beq_some, beq_self_eq_true, Bool.not_true, Bool.not_false, Bool.true_beq, Bool.false_beq, WT, evParts_nil, bd64_0, c13, st64 (c := [.nils, .nils, .nils, .bool false]) (z := [.nils, .nils, .nils, .bool false]) rfl rfl rfl]
    exact no _ _ 15 (gro_put (g2.trans g3) (by omega)) (by simp only [WW, argTmps, if_true, if_false, Nat.reduceLT, Nat.reduceEqDiff, Nat.zero_add, Nat.reduceAdd, List.getElem?_toArray, List.getElem?_cons_zero, List.getElem?_cons_succ, List.length_cons, List.length_nil, Option.map_some, reduceCtorEq, Nat.succ_ne_self, Nat.one_ne_zero, Nat.zero_ne_one, Option.some_beq_some, beq_self_eq_true, Bool.not_true, Bool.not_false, Bool.true_beq, Bool.false_beq]) put_cells (by simp only [WW, argTmps, if_true, if_false, Nat.reduceLT, Nat.reduceEqDiff, Nat.zero_add, Nat.reduceAdd, List.getElem?_toArray, List.getElem?_cons_zero, List.getElem?_cons_succ, List.length_cons, List.length_nil, Option.map_some, reduceCtorEq, Nat.succ_ne_self, Nat.one_ne_zero, Nat.zero_ne_one, Option.some_beq_some, beq_self_eq_true, Bool.not_true, Bool.not_false, Bool.true_beq, Bool.false_beq]) (by simp only [WW, argTmps, if_true, if_false, Nat.reduceLT, Nat.reduceEqDiff, Nat.zero_add, Nat.reduceAdd, List.getElem?_toArray, List.getElem?_cons_zero, List.getElem?_cons_succ, List.length_cons, List.length_nil, Option.map_some, reduceCtorEq, Nat.succ_ne_self, Nat.one_ne_zero, Nat.zero_ne_one, Option.some_beq_some, beq_self_eq_true, Bool.not_true, Bool.not_false, Bool.true_beq, Bool.false_beq]) (by unfold pop; rw [if_pos hr])
  rw [right_yes hr]
  have ha3 := ha2.gro g3
  obtain ⟨vq, vs, vb, rfl, hq3, hst3, hbk3⟩ := ha3
  have l3 := hst3.len und62
  by_cases hd : s.stack.length = 0
  case pos =>
    simp only [WW, argTmps, if_true, if_false, Nat.reduceLT, Nat.reduceEqDiff, Nat.zero_add, Nat.reduceAdd, List.getElem?_toArray, List.getElem?_cons_zero, List.getElem?_cons_succ, List.length_cons, List.length_nil, Option.map_some, reduceCtorEq, Nat.succ_ne_self, Nat.one_ne_zero, Nat.zero_ne_one, Option.some_beq_some, beq_self_eq_true, Bool.not_true, Bool.not_false, Bool.true_beq, Bool.false_beq, WT, c03, l3, decide_eq_true (show ((s.stack.length : Nat) : Int) = 0 by omega), evParts_nil, bd64_0, c13, st64 (c := [.nils, .nils, .nils, .bool false]) (z := [.nils, .nils, .nils, .bool false]) rfl rfl rfl]
    exact no _ _ 11 (gro_put (g2.trans g3) (by omega)) (by simp only [WW, argTmps, if_true, if_false, Nat.reduceLT, Nat.reduceEqDiff, Nat.zero_add, Nat.reduceAdd, List.getElem?_toArray, List.getElem?_cons_zero, List.getElem?_cons_succ, List.length_cons, List.length_nil, Option.map_some, reduceCtorEq, Nat.succ_ne_self, Nat.one_ne_zero, Nat.zero_ne_one, Option.some_beq_some, beq_self_eq_true, Bool.not_true, Bool.not_false, Bool.true_beq, Bool.false_beq]) put_cells (by simp only [WW, argTmps, if_true, if_false, Nat.reduceLT, Nat.reduceEqDiff, Nat.zero_add, Nat.reduceAdd, List.getElem?_toArray, List.getElem?_cons_zero, List.getElem?_cons_succ, List.length_cons, List.length_nil, Option.map_some, reduceCtorEq, Nat.succ_ne_self, Nat.one_ne_zero, Nat.zero_ne_one, Option.some_beq_some, beq_self_eq_true, Bool.not_true, Bool.not_false, Bool.true_beq, Bool.false_beq]) (by simp only [WW, argTmps, if_true, if_false, Nat.reduceLT, Nat.reduceEqDiff, Nat.zero_add, Nat.reduceAdd, List.getElem?_toArray, List.getElem?_cons_zero, List.getElem?_cons_succ, List.length_cons, List.length_nil, Option.map_some, reduceCtorEq, Nat.succ_ne_self, Nat.one_ne_zero, Nat.zero_ne_one, Option.some_beq_some, beq_self_eq_true, Bool.not_true, Bool.not_false, Bool.true_beq, Bool.false_beq]) (by unfold pop; rw [if_neg (fun h => h hr), if_pos hd])
  simp only [WW, argTmps, if_true, if_false, Nat.reduceLT, Nat.reduceEqDiff, Nat.zero_add, Nat.reduceAdd, List.getElem?_toArray, List.getElem?_cons_zero, List.getElem?_cons_succ, List.length_cons, List.length_nil, Option.map_some, reduceCtorEq, Nat.succ_ne_self, Nat.one_ne_zero, Nat.zero_ne_one, Option.some_beq_some, beq_self_eq_true, Bool.not_true, Bool.not_false, Bool.true_beq, Bool.false_beq, WT, l3, decide_eq_false (show ¬ ((s.stack.length : Nat) : Int) = 0 by omega), c03, ldC_all (n := 4) (cells := [vq, vs, vb, .bool s.busy]) rfl]
  refine (copy_ok ⟨vq, vs, vb, rfl, hq3, hst3, hbk3⟩ hs).mono ?_
  rintro r σ4 ⟨wq, ws, wb, rfl, ho, g4⟩
  obtain ⟨o1, o2, o3⟩ := outp_ones ho
  have b43 := g3.le
  have b44 := g4.le
  have c04 := g4.cells (by omega) c03
  obtain ⟨σ5, e5⟩ : ∃ σ5, σ4.put σ.next (.arr 0 [wq, ws, wb, .bool s.busy]) = σ5 := ⟨_, rfl⟩
  have n5 : σ5.next = σ4.next := by rw [← e5]; rfl
  have c05 : cellsAt σ5 σ.next 0 = some [wq, ws, wb, .bool s.busy] := by rw [← e5]; exact put_cells
  have c15 : cellsAt σ5 (σ.next + 1) 0 = some [.nils, .nils, .nils, .bool false] := by rw [← e5, put_cells_ne (by omega)]; exact g4.cells (by omega) c13
  have k5 : ∀ id, id ≠ σ.next → σ5.get id = σ4.get id := fun id h => by rw [← e5, get_put, if_neg h]
  obtain ⟨_, _, _, ee, k1, k2, k3⟩ := ho.reads s.busy
  cases ee
  obtain ⟨c, e1, ⟨v1, rfl, h1⟩, _⟩ := k2.elt (drop_last_get (s := s) (by omega))
  have l5 := (k2.keep (σ' := σ5) (q := fun _ => True) (fun id h => k5 id (by omega)) (fun _ _ => trivial) (E' := fun _ _ => True) (fun _ _ _ => trivial)).len und62
  obtain ⟨ws', p1, p2, p3⟩ := slice_to (T := Mq.T) und62 sz40 k2 (h := s.stack.length - 1) (by simp only; omega) (by simp only; omega)
  obtain ⟨_, _, hva, _⟩ := k2
  have e15 := elt_keep e1 hva (τ := σ5) fun id h => k5 id (by omega)
  simp only [WW, argTmps, if_true, if_false, Nat.reduceLT, Nat.reduceEqDiff, Nat.zero_add, Nat.reduceAdd, List.getElem?_toArray, List.getElem?_cons_zero, List.getElem?_cons_succ, List.length_cons, List.length_nil, Option.map_some, reduceCtorEq, Nat.succ_ne_self, Nat.one_ne_zero, Nat.zero_ne_one, Option.some_beq_some, beq_self_eq_true, Bool.not_true, Bool.not_false, Bool.true_beq, Bool.false_beq, WT, c04, st64 (c := [wq, ws, wb, .bool s.busy]) (z := [vq, vs, vb, .bool s.busy]) (fr4 o1 o2 o3) rfl rfl, e5, c05, l5, wrapP (show 0 < s.stack.length by omega) (by omega), e15.ix und62 sz40, e15.ld0 ag40 (by omega) rfl, p1, st4_1 p3 p2.one, put_cells,
    ldC_all (n := 4) (cells := [wq, ws', wb, .bool s.busy]) rfl, put_cells_ne (show σ.next + 1 ≠ σ.next by omega), c15, st64 (c := [wq, ws', wb, .bool s.busy]) (z := [.nils, .nils, .nils, .bool false]) (fr4 o1 p2.one o3) rfl rfl]
  have gg : Gro σ σ5 := by rw [← e5]; exact gro_put ((g2.trans g3).trans g4) (by omega)
  have kk : Keeps (fun id => σ3.next ≤ id ∧ id < σ4.next) σ4 ((σ5.put σ.next (.arr 0 [wq, ws', wb, .bool s.busy])).put (σ.next + 1) (.arr 0 [wq, ws', wb, .bool s.busy])) := fun id hi => by
    have hi : σ3.next ≤ id ∧ id < σ4.next := hi
    rw [get_put, if_neg (by omega), get_put, if_neg (by omega)]
    exact k5 id (by omega)
  have ip : ∀ id, (σ3.next ≤ id ∧ id < σ4.next) → id < ((σ5.put σ.next (.arr 0 [wq, ws', wb, .bool s.busy])).put (σ.next + 1) (.arr 0 [wq, ws', wb, .bool s.busy])).next := fun id hi => by rw [next_put, next_put]; omega
  refine yes _ _ _ v1 (gro_put (gro_put gg (by omega)) (by omega)) (by simp only [WW, argTmps, if_true, if_false, Nat.reduceLT, Nat.reduceEqDiff, Nat.zero_add, Nat.reduceAdd, List.getElem?_toArray, List.getElem?_cons_zero, List.getElem?_cons_succ, List.length_cons, List.length_nil, Option.map_some, reduceCtorEq, Nat.succ_ne_self, Nat.one_ne_zero, Nat.zero_ne_one, Option.some_beq_some, beq_self_eq_true, Bool.not_true, Bool.not_false, Bool.true_beq, Bool.false_beq]) put_cells rfl (by simp only [WW, argTmps, if_true, if_false, Nat.reduceLT, Nat.reduceEqDiff, Nat.zero_add, Nat.reduceAdd, List.getElem?_toArray, List.getElem?_cons_zero, List.getElem?_cons_succ, List.length_cons, List.length_nil, Option.map_some, reduceCtorEq, Nat.succ_ne_self, Nat.one_ne_zero, Nat.zero_ne_one, Option.some_beq_some, beq_self_eq_true, Bool.not_true, Bool.not_false, Bool.true_beq, Bool.false_beq]) (by simp only [WW, argTmps, if_true, if_false, Nat.reduceLT, Nat.reduceEqDiff, Nat.zero_add, Nat.reduceAdd, List.getElem?_toArray, List.getElem?_cons_zero, List.getElem?_cons_succ, List.length_cons, List.length_nil, Option.map_some, reduceCtorEq, Nat.succ_ne_self, Nat.one_ne_zero, Nat.zero_ne_one, Option.some_beq_some, beq_self_eq_true, Bool.not_true, Bool.not_false, Bool.true_beq, Bool.false_beq]) _ _ (by unfold pop; rw [if_neg (fun h => h hr), if_neg hd]) ?_ ?_
  · refine ⟨wq, ws', wb, rfl, k1.keep kk ip fun _ _ h => h.keep kk ip, ?_, k3.keep kk ip fun _ _ h => h⟩
    have : s.stack.dropLast = s.stack.take (s.stack.length - 1) := List.dropLast_eq_take
    simp only [this]
    exact p2.keep kk ip fun _ _ h => h.keep kk ip
  · exact h1.keep kk ip fun _ _ h => h
end Go.Proofs.YtmchghdmejbblaaGreatDoor
