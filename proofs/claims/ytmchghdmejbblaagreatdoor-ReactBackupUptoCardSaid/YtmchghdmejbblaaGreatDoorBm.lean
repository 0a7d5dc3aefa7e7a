/- react.Check. -/
import Derived.Test.YtmchghdmejbblaaGreatDoorBl
set_option linter.unusedSimpArgs false
set_option linter.unusedVariables false
noncomputable section
namespace Go.Proofs.YtmchghdmejbblaaGreatDoor
open Go Go.Ab Go.RowKit

/-- The map of what was seen. -/
def seenM (l : List Int) : List (AV × AV) := l.map fun h => (.int .i64 h, .bool true)
theorem findKey_seen (k : Int) : ∀ (l : List Int) (i : Nat), findKey (.int .i64 k) (seenM l) i = some (if k ∈ l then some (i + l.idxOf k, .bool true) else none)
  | [], i => rfl
  | h :: l, i => by
    show (match sameKey (.int .i64 k) (.int .i64 h) with | some true => some (some (i, AV.bool true)) | some false => findKey (.int .i64 k) (seenM l) (i + 1) | none => none) = _
    have : sameKey (.int .i64 k) (.int .i64 h) = some (decide (k = h)) := by
      show (if (IntKind.i64 = IntKind.i64) then some (decide (k = h)) else bad "key") = _
      simp
    rw [this]
    by_cases e : k = h
    · subst e
      simp
    · simp only [e, decide_false]
      rw [findKey_seen k l (i + 1)]
      have e' : ¬ h = k := fun x => e x.symm
      by_cases hm : k ∈ l
      · have h1 : (h :: l).idxOf k = l.idxOf k + 1 := by
          rw [List.idxOf_cons]
          have : (h == k) = false := by simp [e']
          rw [this]
          rfl
        rw [if_pos hm, if_pos (List.mem_cons_of_mem h hm), h1]
        simp only [Option.some.injEq, Prod.mk.injEq, and_true]
        omega
      · simp [hm, e]
open Classical in
theorem lookup_seen {σ : St} {id : Nat} {l : List Int} {k : Int} (h : mapAt (σ.get id) = some (seenM l)) : lookupA Mq.T 150 (.mp id) (.int .i64 k) false σ = some (.bool (decide (k ∈ l))) := by
  have hu : und Mq.T 150 = some (.map 3 4) := by kernel_rfl
  have hk : plainKey Mq.T 3 (.int .i64 k) = true := by kernel_rfl
  have hz : zeroA Mq.T 4 = some (.bool false) := by kernel_rfl
  simp only [lookupA, hu, entriesA, h, hk, hz, findKey_seen]
  by_cases hm : k ∈ l <;> simp [hm, lookIn]
theorem update_seen {σ : St} {id : Nat} {l : List Int} {k : Int} (h : mapAt (σ.get id) = some (seenM l)) (hm : k ∉ l) : updateA Mq.T 150 (.mp id) (.int .i64 k) (.bool true) σ = some (σ.put id (.mp (seenM (l ++ [k])))) := by
  have hu : und Mq.T 150 = some (.map 3 4) := by kernel_rfl
  have hk : plainKey Mq.T 3 (.int .i64 k) = true := by kernel_rfl
  simp only [updateA, hu, h, hk, findKey_seen, hm, if_false, updIn]
  simp [seenM]
theorem makeMap_eq {σ : St} : opMakeMap σ = some (.val (.mp σ.next), σ.add (.mp (seenM []))) := rfl

theorem right_int {s : Re} : (if right s then (0 : Int) else 15) = 0 ↔ RightP s := by
  unfold right
  by_cases h : RightP s <;> simp [h]

set_option maxRecDepth 100000 in
theorem check_ok {σ : St} {ca : List AV} {s : Re} (ha : ReC (· < σ.next) σ ca s) (hs : s.ok) : Ca Mq 38 [.agg ca] σ fun r σ' => r = .int .i64 (if right s then 0 else 15) ∧ Gro σ σ' := by
  obtain ⟨σ2, e2⟩ : ∃ σ2, σ.add (.arr 0 ca) = σ2 := ⟨_, rfl⟩
  have g2 : Gro σ σ2 := by rw [← e2]; exact Gro.add _ _
  have n2 : σ2.next = σ.next + 1 := by rw [← e2]; rfl
  have cA : cellsAt σ2 σ.next 0 = some ca := by rw [← e2, cellsAt_add_new]
  have fa := ha.fit
  have ha2 := ha.gro g2
  have hs1 := hs.qs
  have hs2 := hs.stack
  unfold Bd at hs1 hs2
  refine Ca.enter (fn := Tryz.f38) rfl (by kernel_rfl) rfl (by kernel_rfl) (Nat.le_of_ble_eq_true rfl) 86 _ rfl rfl ?_
  generalize hQ : Leave Mq Tryz.f38 _ = Q
  have no : ∀ t σ', Gro σ σ' → ¬ RightP s → getT t 2 = .int .i64 15 → Q .ret ⟨t, [], 86, none⟩ σ' := fun t σ' g h ht => by
    subst hQ; exact leave_tmp (d := 2) rfl ht ⟨by rw [right_no h]; rfl, g⟩
  have yes : ∀ t σ', Gro σ σ' → RightP s → getT t 2 = .int .i64 0 → Q .ret ⟨t, [], 86, none⟩ σ' := fun t σ' g h ht => by
    subst hQ; exact leave_tmp (d := 2) rfl ht ⟨by rw [right_yes h]; rfl, g⟩
  clear hQ
  simp only [WW, argTmps, if_true, if_false, Nat.reduceLT, Nat.reduceEqDiff, Nat.zero_add, Nat.reduceAdd, List.getElem?_toArray, List.getElem?_cons_zero, List.getElem?_cons_succ, List.length_cons, List.length_nil, Option.map_some, reduceCtorEq, Nat.succ_ne_self, Nat.one_ne_zero, Nat.zero_ne_one, Option.some_beq_some, beq_self_eq_true, Bool.not_true, Bool.not_false, Bool.true_beq, Bool.false_beq, WT, opNew_eq fa.1, AV.cells, e2, cA, ldC_all fa.2]
  refine (rmany_ok ha2 hs).mono ?_
  rintro r σ3 ⟨rfl, g3⟩
  have cA3 := g3.cells (show σ.next < σ2.next by omega) cA
  have ha3 := ha2.gro g3
  obtain ⟨vq, vs, vb, rfl, hq, hst, hbk⟩ := ha3
  have l3 := hst.len und62
  by_cases hmn : many s ≤ 4096
  case neg =>
    simp only [WW, argTmps, if_true, if_false, Nat.reduceLT, Nat.reduceEqDiff, Nat.zero_add, Nat.reduceAdd, List.getElem?_toArray, List.getElem?_cons_zero, List.getElem?_cons_succ, List.length_cons, List.length_nil, Option.map_some, reduceCtorEq, Nat.succ_ne_self, Nat.one_ne_zero, Nat.zero_ne_one, Option.some_beq_some, beq_self_eq_true, Bool.not_true, Bool.not_false, Bool.true_beq, Bool.false_beq, WT, decide_eq_true (show (4096 : Int) < ((many s : Nat) : Int) by omega)]
    exact no _ _ (g2.trans g3) (fun h => hmn h.many) (by simp only [WW, argTmps, if_true, if_false, Nat.reduceLT, Nat.reduceEqDiff, Nat.zero_add, Nat.reduceAdd, List.getElem?_toArray, List.getElem?_cons_zero, List.getElem?_cons_succ, List.length_cons, List.length_nil, Option.map_some, reduceCtorEq, Nat.succ_ne_self, Nat.one_ne_zero, Nat.zero_ne_one, Option.some_beq_some, beq_self_eq_true, Bool.not_true, Bool.not_false, Bool.true_beq, Bool.false_beq])
  by_cases hsn : s.stack.length ≤ 1024
  case neg =>
    simp only [WW, argTmps, if_true, if_false, Nat.reduceLT, Nat.reduceEqDiff, Nat.zero_add, Nat.reduceAdd, List.getElem?_toArray, List.getElem?_cons_zero, List.getElem?_cons_succ, List.length_cons, List.length_nil, Option.map_some, reduceCtorEq, Nat.succ_ne_self, Nat.one_ne_zero, Nat.zero_ne_one, Option.some_beq_some, beq_self_eq_true, Bool.not_true, Bool.not_false, Bool.true_beq, Bool.false_beq, WT, decide_eq_false (show ¬ (4096 : Int) < ((many s : Nat) : Int) by omega), cA3, l3, decide_eq_true (show (1024 : Int) < ((s.stack.length : Nat) : Int) by omega)]
    exact no _ _ (g2.trans g3) (fun h => hsn h.deep) (by simp only [WW, argTmps, if_true, if_false, Nat.reduceLT, Nat.reduceEqDiff, Nat.zero_add, Nat.reduceAdd, List.getElem?_toArray, List.getElem?_cons_zero, List.getElem?_cons_succ, List.length_cons, List.length_nil, Option.map_some, reduceCtorEq, Nat.succ_ne_self, Nat.one_ne_zero, Nat.zero_ne_one, Option.some_beq_some, beq_self_eq_true, Bool.not_true, Bool.not_false, Bool.true_beq, Bool.false_beq])
  simp only [WW, argTmps, if_true, if_false, Nat.reduceLT, Nat.reduceEqDiff, Nat.zero_add, Nat.reduceAdd, List.getElem?_toArray, List.getElem?_cons_zero, List.getElem?_cons_succ, List.length_cons, List.length_nil, Option.map_some, reduceCtorEq, Nat.succ_ne_self, Nat.one_ne_zero, Nat.zero_ne_one, Option.some_beq_some, beq_self_eq_true, Bool.not_true, Bool.not_false, Bool.true_beq, Bool.false_beq, WT, decide_eq_false (show ¬ (4096 : Int) < ((many s : Nat) : Int) by omega), cA3, l3, decide_eq_false (show ¬ (1024 : Int) < ((s.stack.length : Nat) : Int) by omega)]
  refine (relements_ok hbk hs.backup).mono ?_
  rintro r σ4 ⟨rfl, g4⟩
  have g04 := (g2.trans g3).trans g4
  cases hb : els s.backup with
  | false =>
    simp only [WW, argTmps, if_true, if_false, Nat.reduceLT, Nat.reduceEqDiff, Nat.zero_add, Nat.reduceAdd, List.getElem?_toArray, List.getElem?_cons_zero, List.getElem?_cons_succ, List.length_cons, List.length_nil, Option.map_some, reduceCtorEq, Nat.succ_ne_self, Nat.one_ne_zero, Nat.zero_ne_one, Option.some_beq_some, beq_self_eq_true, Bool.not_true, Bool.not_false, Bool.true_beq, Bool.false_beq, WT]
    exact no _ _ g04 (fun h => by rw [h.backup] at hb; cases hb) (by simp only [WW, argTmps, if_true, if_false, Nat.reduceLT, Nat.reduceEqDiff, Nat.zero_add, Nat.reduceAdd, List.getElem?_toArray, List.getElem?_cons_zero, List.getElem?_cons_succ, List.length_cons, List.length_nil, Option.map_some, reduceCtorEq, Nat.succ_ne_self, Nat.one_ne_zero, Nat.zero_ne_one, Option.some_beq_some, beq_self_eq_true, Bool.not_true, Bool.not_false, Bool.true_beq, Bool.false_beq])
  | true =>
  have b4 : σ.next < σ4.next := by have := g3.le; have := g4.le; omega
  have cA4 := g4.cells (show σ.next < σ3.next by have := g3.le; omega) cA3
  have hq4 := rdq_gro hq g4
  have hst4 := rdl_gro hst g4
  obtain ⟨σ5, e5⟩ : ∃ σ5, σ4.add (.mp (seenM [])) = σ5 := ⟨_, rfl⟩
  have g5 : Gro σ4 σ5 := by rw [← e5]; exact Gro.add _ _
  have n5 : σ5.next = σ4.next + 1 := by rw [← e5]; rfl
  have m5 : mapAt (σ5.get σ4.next) = some (seenM []) := by rw [← e5, get_add, if_pos rfl]; rfl
  have cA5 := g5.cells b4 cA4
  have l1 := (rdq_gro hq4 g5).len und61
  simp only [WW, argTmps, if_true, if_false, Nat.reduceLT, Nat.reduceEqDiff, Nat.zero_add, Nat.reduceAdd, List.getElem?_toArray, List.getElem?_cons_zero, List.getElem?_cons_succ, List.length_cons, List.length_nil, Option.map_some, reduceCtorEq, Nat.succ_ne_self, Nat.one_ne_zero, Nat.zero_ne_one, Option.some_beq_some, beq_self_eq_true, Bool.not_true, Bool.not_false, Bool.true_beq, Bool.false_beq, WT, makeMap_eq, e5, cA5, l1]
  refine Co_loop (fun m fr σ1 => ∃ i t, m + i = s.qs.length ∧ fr = ⟨t, [], 86, none⟩ ∧ Gro σ4 σ1 ∧ σ4.next < σ1.next ∧ mapAt (σ1.get σ4.next) = some (seenM ((s.qs.take i).map (·.el))) ∧ (∀ q ∈ s.qs.take i, okQ q) ∧ ((s.qs.take i).map (·.el)).Nodup ∧
      getT t 1 = .ptr σ.next 0 0 ∧ getT t 3 = .mp σ4.next ∧ getT t 27 = vq ∧ getT t 28 = .int .i64 (s.qs.length : Nat) ∧ getT t 29 = .int .i64 (i : Nat)) s.qs.length
    ⟨0, _, rfl, rfl, g5, by omega, m5, by simp, by simp, by simp only [WW, argTmps, if_true, if_false, Nat.reduceLT, Nat.reduceEqDiff, Nat.zero_add, Nat.reduceAdd, List.getElem?_toArray, List.getElem?_cons_zero, List.getElem?_cons_succ, List.length_cons, List.length_nil, Option.map_some, reduceCtorEq, Nat.succ_ne_self, Nat.one_ne_zero, Nat.zero_ne_one, Option.some_beq_some, beq_self_eq_true, Bool.not_true, Bool.not_false, Bool.true_beq, Bool.false_beq], by simp only [WW, argTmps, if_true, if_false, Nat.reduceLT, Nat.reduceEqDiff, Nat.zero_add, Nat.reduceAdd, List.getElem?_toArray, List.getElem?_cons_zero, List.getElem?_cons_succ, List.length_cons, List.length_nil, Option.map_some, reduceCtorEq, Nat.succ_ne_self, Nat.one_ne_zero, Nat.zero_ne_one, Option.some_beq_some, beq_self_eq_true, Bool.not_true, Bool.not_false, Bool.true_beq, Bool.false_beq], by simp only [WW, argTmps, if_true, if_false, Nat.reduceLT, Nat.reduceEqDiff, Nat.zero_add, Nat.reduceAdd, List.getElem?_toArray, List.getElem?_cons_zero, List.getElem?_cons_succ, List.length_cons, List.length_nil, Option.map_some, reduceCtorEq, Nat.succ_ne_self, Nat.one_ne_zero, Nat.zero_ne_one, Option.some_beq_some, beq_self_eq_true, Bool.not_true, Bool.not_false, Bool.true_beq, Bool.false_beq], by simp only [WW, argTmps, if_true, if_false, Nat.reduceLT, Nat.reduceEqDiff, Nat.zero_add, Nat.reduceAdd, List.getElem?_toArray, List.getElem?_cons_zero, List.getElem?_cons_succ, List.length_cons, List.length_nil, Option.map_some, reduceCtorEq, Nat.succ_ne_self, Nat.one_ne_zero, Nat.zero_ne_one, Option.some_beq_some, beq_self_eq_true, Bool.not_true, Bool.not_false, Bool.true_beq, Bool.false_beq], by simp only [WW, argTmps, if_true, if_false, Nat.reduceLT, Nat.reduceEqDiff, Nat.zero_add, Nat.reduceAdd, List.getElem?_toArray, List.getElem?_cons_zero, List.getElem?_cons_succ, List.length_cons, List.length_nil, Option.map_some, reduceCtorEq, Nat.succ_ne_self, Nat.one_ne_zero, Nat.zero_ne_one, Option.some_beq_some, beq_self_eq_true, Bool.not_true, Bool.not_false, Bool.true_beq, Bool.false_beq]; rfl⟩ ?_
  rintro m fr σ1 K ⟨i, t, hm, rfl, g1, hlt, hmp, ho, hnd, f1, f3, f27, f28, f29⟩ kn ke kr
  simp only [WW, argTmps, if_true, if_false, Nat.reduceLT, Nat.reduceEqDiff, Nat.zero_add, Nat.reduceAdd, List.getElem?_toArray, List.getElem?_cons_zero, List.getElem?_cons_succ, List.length_cons, List.length_nil, Option.map_some, reduceCtorEq, Nat.succ_ne_self, Nat.one_ne_zero, Nat.zero_ne_one, Option.some_beq_some, beq_self_eq_true, Bool.not_true, Bool.not_false, Bool.true_beq, Bool.false_beq, WT, f28, f29]
  by_cases hi : i < s.qs.length
  case neg =>
    rw [List.take_of_length_le (by omega)] at ho hnd
    have cA1 := g1.cells b4 cA4
    have l3 := (rdl_gro hst4 g1).len und62
    simp only [natge hi, WW, argTmps, if_true, if_false, Nat.reduceLT, Nat.reduceEqDiff, Nat.zero_add, Nat.reduceAdd, List.getElem?_toArray, List.getElem?_cons_zero, List.getElem?_cons_succ, List.length_cons, List.length_nil, Option.map_some, reduceCtorEq, Nat.succ_ne_self, Nat.one_ne_zero, Nat.zero_ne_one, Option.some_beq_some, beq_self_eq_true, Bool.not_true, Bool.not_false, Bool.true_beq, Bool.false_beq, WT, ke, kr, f1, cA1, l3]
    clear kn ke kr
    refine Co_loop (fun m fr σ6 => ∃ i t, m + i = s.stack.length ∧ fr = ⟨t, [], 86, none⟩ ∧ Gro σ4 σ6 ∧ (∀ l ∈ s.stack.take i, els l = true) ∧ getT t 76 = vs ∧ getT t 77 = .int .i64 (s.stack.length : Nat) ∧ getT t 78 = .int .i64 (i : Nat)) s.stack.length
      ⟨0, _, rfl, rfl, g1, by simp, by simp only [WW, argTmps, if_true, if_false, Nat.reduceLT, Nat.reduceEqDiff, Nat.zero_add, Nat.reduceAdd, List.getElem?_toArray, List.getElem?_cons_zero, List.getElem?_cons_succ, List.length_cons, List.length_nil, Option.map_some, reduceCtorEq, Nat.succ_ne_self, Nat.one_ne_zero, Nat.zero_ne_one, Option.some_beq_some, beq_self_eq_true, Bool.not_true, Bool.not_false, Bool.true_beq, Bool.false_beq], by simp only [WW, argTmps, if_true, if_false, Nat.reduceLT, Nat.reduceEqDiff, Nat.zero_add, Nat.reduceAdd, List.getElem?_toArray, List.getElem?_cons_zero, List.getElem?_cons_succ, List.length_cons, List.length_nil, Option.map_some, reduceCtorEq, Nat.succ_ne_self, Nat.one_ne_zero, Nat.zero_ne_one, Option.some_beq_some, beq_self_eq_true, Bool.not_true, Bool.not_false, Bool.true_beq, Bool.false_beq], by simp only [WW, argTmps, if_true, if_false, Nat.reduceLT, Nat.reduceEqDiff, Nat.zero_add, Nat.reduceAdd, List.getElem?_toArray, List.getElem?_cons_zero, List.getElem?_cons_succ, List.length_cons, List.length_nil, Option.map_some, reduceCtorEq, Nat.succ_ne_self, Nat.one_ne_zero, Nat.zero_ne_one, Option.some_beq_some, beq_self_eq_true, Bool.not_true, Bool.not_false, Bool.true_beq, Bool.false_beq]; rfl⟩ ?_
    rintro m fr σ6 K ⟨i, t, hm, rfl, g6, ht, f76, f77, f78⟩ kn ke kr
    simp only [WW, argTmps, if_true, if_false, Nat.reduceLT, Nat.reduceEqDiff, Nat.zero_add, Nat.reduceAdd, List.getElem?_toArray, List.getElem?_cons_zero, List.getElem?_cons_succ, List.length_cons, List.length_nil, Option.map_some, reduceCtorEq, Nat.succ_ne_self, Nat.one_ne_zero, Nat.zero_ne_one, Option.some_beq_some, beq_self_eq_true, Bool.not_true, Bool.not_false, Bool.true_beq, Bool.false_beq, WT, f77, f78]
    by_cases hi : i < s.stack.length
    case neg =>
      rw [List.take_of_length_le (by omega)] at ht
      simp only [natge hi, WW, argTmps, if_true, if_false, Nat.reduceLT, Nat.reduceEqDiff, Nat.zero_add, Nat.reduceAdd, List.getElem?_toArray, List.getElem?_cons_zero, List.getElem?_cons_succ, List.length_cons, List.length_nil, Option.map_some, reduceCtorEq, Nat.succ_ne_self, Nat.one_ne_zero, Nat.zero_ne_one, Option.some_beq_some, beq_self_eq_true, Bool.not_true, Bool.not_false, Bool.true_beq, Bool.false_beq, WT, ke, kr]
      exact yes _ _ (g04.trans g6) ⟨ho, hnd, ht, hmn, hsn, hb⟩ (by simp only [WW, argTmps, if_true, if_false, Nat.reduceLT, Nat.reduceEqDiff, Nat.zero_add, Nat.reduceAdd, List.getElem?_toArray, List.getElem?_cons_zero, List.getElem?_cons_succ, List.length_cons, List.length_nil, Option.map_some, reduceCtorEq, Nat.succ_ne_self, Nat.one_ne_zero, Nat.zero_ne_one, Option.some_beq_some, beq_self_eq_true, Bool.not_true, Bool.not_false, Bool.true_beq, Bool.false_beq])
    obtain ⟨x, hx⟩ := get_some hi
    obtain ⟨c, e1, ⟨v1, rfl, h1⟩, _⟩ := (rdl_gro hst4 g6).elt hx
    simp only [natlt hi, WW, argTmps, if_true, if_false, Nat.reduceLT, Nat.reduceEqDiff, Nat.zero_add, Nat.reduceAdd, List.getElem?_toArray, List.getElem?_cons_zero, List.getElem?_cons_succ, List.length_cons, List.length_nil, Option.map_some, reduceCtorEq, Nat.succ_ne_self, Nat.one_ne_zero, Nat.zero_ne_one, Option.some_beq_some, beq_self_eq_true, Bool.not_true, Bool.not_false, Bool.true_beq, Bool.false_beq, WT, f76, f78, e1.ix und62 sz40, e1.ld0 ag40 (by omega) rfl]
    refine (relements_ok h1 (hs.lists x (List.mem_of_getElem? hx))).mono ?_
    rintro r σ7 ⟨rfl, g7⟩
    cases hb : els x with
    | false =>
      simp only [WW, argTmps, if_true, if_false, Nat.reduceLT, Nat.reduceEqDiff, Nat.zero_add, Nat.reduceAdd, List.getElem?_toArray, List.getElem?_cons_zero, List.getElem?_cons_succ, List.length_cons, List.length_nil, Option.map_some, reduceCtorEq, Nat.succ_ne_self, Nat.one_ne_zero, Nat.zero_ne_one, Option.some_beq_some, beq_self_eq_true, Bool.not_true, Bool.not_false, Bool.true_beq, Bool.false_beq, WT, ke, kr]
      exact no _ _ ((g04.trans g6).trans g7) (fun h => by rw [h.stack x (List.mem_of_getElem? hx)] at hb; cases hb) (by simp only [WW, argTmps, if_true, if_false, Nat.reduceLT, Nat.reduceEqDiff, Nat.zero_add, Nat.reduceAdd, List.getElem?_toArray, List.getElem?_cons_zero, List.getElem?_cons_succ, List.length_cons, List.length_nil, Option.map_some, reduceCtorEq, Nat.succ_ne_self, Nat.one_ne_zero, Nat.zero_ne_one, Option.some_beq_some, beq_self_eq_true, Bool.not_true, Bool.not_false, Bool.true_beq, Bool.false_beq])
    | true =>
      simp only [WW, argTmps, if_true, if_false, Nat.reduceLT, Nat.reduceEqDiff, Nat.zero_add, Nat.reduceAdd, List.getElem?_toArray, List.getElem?_cons_zero, List.getElem?_cons_succ, List.length_cons, List.length_nil, Option.map_some, reduceCtorEq, Nat.succ_ne_self, Nat.one_ne_zero, Nat.zero_ne_one, Option.some_beq_some, beq_self_eq_true, Bool.not_true, Bool.not_false, Bool.true_beq, Bool.false_beq, WT, f78, wrapS (show i < 1000000000000 by omega)]
      exact kn (m - 1) _ _ (by omega) ⟨i + 1, _, by omega, rfl, g6.trans g7, fun l hl => by
        rcases (take_mem hx).1 hl with h | h
        · exact ht l h
        · rw [h]; exact hb, by simp only [WW, argTmps, if_true, if_false, Nat.reduceLT, Nat.reduceEqDiff, Nat.zero_add, Nat.reduceAdd, List.getElem?_toArray, List.getElem?_cons_zero, List.getElem?_cons_succ, List.length_cons, List.length_nil, Option.map_some, reduceCtorEq, Nat.succ_ne_self, Nat.one_ne_zero, Nat.zero_ne_one, Option.some_beq_some, beq_self_eq_true, Bool.not_true, Bool.not_false, Bool.true_beq, Bool.false_beq]; exact f76, by simp only [WW, argTmps, if_true, if_false, Nat.reduceLT, Nat.reduceEqDiff, Nat.zero_add, Nat.reduceAdd, List.getElem?_toArray, List.getElem?_cons_zero, List.getElem?_cons_succ, List.length_cons, List.length_nil, Option.map_some, reduceCtorEq, Nat.succ_ne_self, Nat.one_ne_zero, Nat.zero_ne_one, Option.some_beq_some, beq_self_eq_true, Bool.not_true, Bool.not_false, Bool.true_beq, Bool.false_beq]; exact f77, by simp only [WW, argTmps, if_true, if_false, Nat.reduceLT, Nat.reduceEqDiff, Nat.zero_add, Nat.reduceAdd, List.getElem?_toArray, List.getElem?_cons_zero, List.getElem?_cons_succ, List.length_cons, List.length_nil, Option.map_some, reduceCtorEq, Nat.succ_ne_self, Nat.one_ne_zero, Nat.zero_ne_one, Option.some_beq_some, beq_self_eq_true, Bool.not_true, Bool.not_false, Bool.true_beq, Bool.false_beq]⟩
  obtain ⟨x, hx⟩ := get_some hi
  have hxm := List.mem_of_getElem? hx
  have hxl := list_le hs hx
  obtain ⟨c, e1, ⟨v1, rfl, h1⟩, _⟩ := (rdq_gro hq4 g1).elt hx
  have o1 := h1.one
  obtain ⟨σ6, e6, g6, n6, c6⟩ := var_ex σ1 [.int .i64 0, .nils] [.int .i64 x.el, v1]
  have h16 := rd_gro h1 g6
  have l6 := h16.len und79
  have hmp6 : mapAt (σ6.get σ4.next) = some (seenM ((s.qs.take i).map (·.el))) := by rw [g6.get _ hlt]; exact hmp
  simp only [natlt hi, WW, argTmps, if_true, if_false, Nat.reduceLT, Nat.reduceEqDiff, Nat.zero_add, Nat.reduceAdd, List.getElem?_toArray, List.getElem?_cons_zero, List.getElem?_cons_succ, List.length_cons, List.length_nil, Option.map_some, reduceCtorEq, Nat.succ_ne_self, Nat.one_ne_zero, Nat.zero_ne_one, Option.some_beq_some, beq_self_eq_true, Bool.not_true, Bool.not_false, Bool.true_beq, Bool.false_beq, WT, f27, f29, e1.ix und61 sz81, e1.lda ag81 sz81, al81, st81 o1, e6, c6]
  by_cases hel : 1 ≤ x.el
  case neg =>
    simp only [decide_eq_true (show x.el < 1 by omega), WW, argTmps, if_true, if_false, Nat.reduceLT, Nat.reduceEqDiff, Nat.zero_add, Nat.reduceAdd, List.getElem?_toArray, List.getElem?_cons_zero, List.getElem?_cons_succ, List.length_cons, List.length_nil, Option.map_some, reduceCtorEq, Nat.succ_ne_self, Nat.one_ne_zero, Nat.zero_ne_one, Option.some_beq_some, beq_self_eq_true, Bool.not_true, Bool.not_false, Bool.true_beq, Bool.false_beq, WT, kr, ke]
    exact no _ _ ((g04.trans g1).trans g6) (fun h => hel (h.qs x hxm).el) (by simp only [WW, argTmps, if_true, if_false, Nat.reduceLT, Nat.reduceEqDiff, Nat.zero_add, Nat.reduceAdd, List.getElem?_toArray, List.getElem?_cons_zero, List.getElem?_cons_succ, List.length_cons, List.length_nil, Option.map_some, reduceCtorEq, Nat.succ_ne_self, Nat.one_ne_zero, Nat.zero_ne_one, Option.some_beq_some, beq_self_eq_true, Bool.not_true, Bool.not_false, Bool.true_beq, Bool.false_beq])
  have hlk := lookup_seen (k := x.el) hmp6
  by_cases hin : x.el ∈ (s.qs.take i).map (·.el)
  case pos =>
    rw [decide_eq_true hin] at hlk
    simp only [decide_eq_false (show ¬ x.el < 1 by omega), WW, argTmps, if_true, if_false, Nat.reduceLT, Nat.reduceEqDiff, Nat.zero_add, Nat.reduceAdd, List.getElem?_toArray, List.getElem?_cons_zero, List.getElem?_cons_succ, List.length_cons, List.length_nil, Option.map_some, reduceCtorEq, Nat.succ_ne_self, Nat.one_ne_zero, Nat.zero_ne_one, Option.some_beq_some, beq_self_eq_true, Bool.not_true, Bool.not_false, Bool.true_beq, Bool.false_beq, WT, c6, f3, hlk, kr, ke]
    refine no _ _ ((g04.trans g1).trans g6) (fun h => ?_) (by simp only [WW, argTmps, if_true, if_false, Nat.reduceLT, Nat.reduceEqDiff, Nat.zero_add, Nat.reduceAdd, List.getElem?_toArray, List.getElem?_cons_zero, List.getElem?_cons_succ, List.length_cons, List.length_nil, Option.map_some, reduceCtorEq, Nat.succ_ne_self, Nat.one_ne_zero, Nat.zero_ne_one, Option.some_beq_some, beq_self_eq_true, Bool.not_true, Bool.not_false, Bool.true_beq, Bool.false_beq])
    have hn := h.apart
    have : s.qs.map (·.el) = (s.qs.take i).map (·.el) ++ (s.qs.drop i).map (·.el) := by rw [← List.map_append, List.take_append_drop]
    rw [this, List.nodup_append] at hn
    refine hn.2.2 _ hin x.el ?_ rfl
    refine List.mem_map.2 ⟨x, List.mem_of_getElem? (i := 0) ?_, rfl⟩
    rw [List.getElem?_drop]
    exact hx
  rw [decide_eq_false hin] at hlk
  by_cases hle : x.list.length = 0
  case pos =>
    simp only [decide_eq_false (show ¬ x.el < 1 by omega), WW, argTmps, if_true, if_false, Nat.reduceLT, Nat.reduceEqDiff, Nat.zero_add, Nat.reduceAdd, List.getElem?_toArray, List.getElem?_cons_zero, List.getElem?_cons_succ, List.length_cons, List.length_nil, Option.map_some, reduceCtorEq, Nat.succ_ne_self, Nat.one_ne_zero, Nat.zero_ne_one, Option.some_beq_some, beq_self_eq_true, Bool.not_true, Bool.not_false, Bool.true_beq, Bool.false_beq, WT, c6, f3, hlk, l6, decide_eq_true (show ((x.list.length : Nat) : Int) = 0 by omega), kr, ke]
    exact no _ _ ((g04.trans g1).trans g6) (fun h => (h.qs x hxm).list hle) (by simp only [WW, argTmps, if_true, if_false, Nat.reduceLT, Nat.reduceEqDiff, Nat.zero_add, Nat.reduceAdd, List.getElem?_toArray, List.getElem?_cons_zero, List.getElem?_cons_succ, List.length_cons, List.length_nil, Option.map_some, reduceCtorEq, Nat.succ_ne_self, Nat.one_ne_zero, Nat.zero_ne_one, Option.some_beq_some, beq_self_eq_true, Bool.not_true, Bool.not_false, Bool.true_beq, Bool.false_beq])
  obtain ⟨σ7, e7⟩ : ∃ σ7, σ6.put σ4.next (.mp (seenM ((s.qs.take i).map (·.el) ++ [x.el]))) = σ7 := ⟨_, rfl⟩
  have n7 : σ7.next = σ6.next := by rw [← e7]; rfl
  have get7 : ∀ id, id ≠ σ4.next → σ7.get id = σ6.get id := fun id h => by rw [← e7, get_put, if_neg h]
  have mp7 : mapAt (σ7.get σ4.next) = some (seenM ((s.qs.take i).map (·.el) ++ [x.el])) := by rw [← e7, get_put, if_pos rfl]; rfl
  have k7 : Keeps (fun id => id < σ6.next ∧ id ≠ σ4.next) σ6 σ7 := fun id h => get7 id h.2
  have g7 : Gro σ4 σ7 := ⟨by have := g6.le; have := g1.le; omega, fun id h => by
    have := g6.le
    have := g1.le
    rw [get7 id (by omega), g6.get id (by omega), g1.get id h]⟩
  have c7 : cellsAt σ7 σ1.next 0 = some [.int .i64 x.el, v1] := by
    unfold cellsAt
    rw [get7 _ (by omega)]
    exact c6
  -- the queue's list lies among what was ahead of the map
  obtain ⟨c, u0, ⟨v0, hv0, h10⟩, _⟩ := hq4.elt hx
  obtain ⟨c', u1', hc', _⟩ := (hq4.keep g1.keeps (q := (· < σ4.next)) (fun _ h => h) (E' := EQ (· < σ4.next) σ1) (fun c a h => h.keep g1.keeps fun _ h => h)).elt hx
  obtain ⟨w1, hw1, hr1⟩ := hc'
  have hvw : w1 = v1 := by
    obtain ⟨n1, cs1, a1, a2, a3⟩ := e1
    obtain ⟨n2, cs2, b1, b2, b3⟩ := u1'
    rw [a1] at b1
    cases b1
    rw [← b3] at hw1
    rw [a3] at hw1
    simpa using hw1.symm
  subst hvw
  have hr7 : Rd (· < σ4.next) σ7 12 ER w1 x.list := by
    refine hr1.keep (σ' := σ7) (fun id h => ?_) (fun _ h => h) (fun _ _ h => h)
    have := g6.le
    have := g1.le
    have hid : id < σ4.next := h
    rw [get7 id (by omega), g6.get id (by omega)]
  have l7 := hr7.len und79
  simp only [decide_eq_false (show ¬ x.el < 1 by omega), WW, argTmps, if_true, if_false, Nat.reduceLT, Nat.reduceEqDiff, Nat.zero_add, Nat.reduceAdd, List.getElem?_toArray, List.getElem?_cons_zero, List.getElem?_cons_succ, List.length_cons, List.length_nil, Option.map_some, reduceCtorEq, Nat.succ_ne_self, Nat.one_ne_zero, Nat.zero_ne_one, Option.some_beq_some, beq_self_eq_true, Bool.not_true, Bool.not_false, Bool.true_beq, Bool.false_beq, WT, c6, f3, hlk, l6, decide_eq_false (show ¬ ((x.list.length : Nat) : Int) = 0 by omega), update_seen hmp6 hin, e7, c7, l7]
  refine Co_loop (fun m fr σ8 => ∃ j t, m + j = x.list.length ∧ fr = ⟨t, [], 86, none⟩ ∧ Gro σ7 σ8 ∧ (∀ r ∈ x.list.take j, okR x.el r) ∧ getT t 1 = .ptr σ.next 0 0 ∧ getT t 3 = .mp σ4.next ∧ getT t 27 = vq ∧ getT t 28 = .int .i64 (s.qs.length : Nat) ∧ getT t 29 = .int .i64 (i : Nat) ∧
      getT t 5 = .ptr σ1.next 0 0 ∧ getT t 52 = w1 ∧ getT t 53 = .int .i64 (x.list.length : Nat) ∧ getT t 54 = .int .i64 (j : Nat)) x.list.length
    ⟨0, _, rfl, rfl, Gro.refl _, by simp, by simp only [WW, argTmps, if_true, if_false, Nat.reduceLT, Nat.reduceEqDiff, Nat.zero_add, Nat.reduceAdd, List.getElem?_toArray, List.getElem?_cons_zero, List.getElem?_cons_succ, List.length_cons, List.length_nil, Option.map_some, reduceCtorEq, Nat.succ_ne_self, Nat.one_ne_zero, Nat.zero_ne_one, Option.some_beq_some, beq_self_eq_true, Bool.not_true, Bool.not_false, Bool.true_beq, Bool.false_beq]; exact f1, by simp only [WW, argTmps, if_true, if_false, Nat.reduceLT, Nat.reduceEqDiff, Nat.zero_add, Nat.reduceAdd, List.getElem?_toArray, List.getElem?_cons_zero, List.getElem?_cons_succ, List.length_cons, List.length_nil, Option.map_some, reduceCtorEq, Nat.succ_ne_self, Nat.one_ne_zero, Nat.zero_ne_one, Option.some_beq_some, beq_self_eq_true, Bool.not_true, Bool.not_false, Bool.true_beq, Bool.false_beq]; exact f3, by simp only [WW, argTmps, if_true, if_false, Nat.reduceLT, Nat.reduceEqDiff, Nat.zero_add, Nat.reduceAdd, List.getElem?_toArray, List.getElem?_cons_zero, List.getElem?_cons_succ, List.length_cons, List.length_nil, Option.map_some, reduceCtorEq, Nat.succ_ne_self, Nat.one_ne_zero, Nat.zero_ne_one, Option.some_beq_some, beq_self_eq_true, Bool.not_true, Bool.not_false, Bool.true_beq, Bool.false_beq]; exact f27, by simp only [WW, argTmps, if_true, if_false, Nat.reduceLT, Nat.reduceEqDiff, Nat.zero_add, Nat.reduceAdd, List.getElem?_toArray, List.getElem?_cons_zero, List.getElem?_cons_succ, List.length_cons, List.length_nil, Option.map_some, reduceCtorEq, Nat.succ_ne_self, Nat.one_ne_zero, Nat.zero_ne_one, Option.some_beq_some, beq_self_eq_true, Bool.not_true, Bool.not_false, Bool.true_beq, Bool.false_beq]; exact f28, by simp only [WW, argTmps, if_true, if_false, Nat.reduceLT, Nat.reduceEqDiff, Nat.zero_add, Nat.reduceAdd, List.getElem?_toArray, List.getElem?_cons_zero, List.getElem?_cons_succ, List.length_cons, List.length_nil, Option.map_some, reduceCtorEq, Nat.succ_ne_self, Nat.one_ne_zero, Nat.zero_ne_one, Option.some_beq_some, beq_self_eq_true, Bool.not_true, Bool.not_false, Bool.true_beq, Bool.false_beq]; exact f29, by simp only [WW, argTmps, if_true, if_false, Nat.reduceLT, Nat.reduceEqDiff, Nat.zero_add, Nat.reduceAdd, List.getElem?_toArray, List.getElem?_cons_zero, List.getElem?_cons_succ, List.length_cons, List.length_nil, Option.map_some, reduceCtorEq, Nat.succ_ne_self, Nat.one_ne_zero, Nat.zero_ne_one, Option.some_beq_some, beq_self_eq_true, Bool.not_true, Bool.not_false, Bool.true_beq, Bool.false_beq], by simp only [WW, argTmps, if_true, if_false, Nat.reduceLT, Nat.reduceEqDiff, Nat.zero_add, Nat.reduceAdd, List.getElem?_toArray, List.getElem?_cons_zero, List.getElem?_cons_succ, List.length_cons, List.length_nil, Option.map_some, reduceCtorEq, Nat.succ_ne_self, Nat.one_ne_zero, Nat.zero_ne_one, Option.some_beq_some, beq_self_eq_true, Bool.not_true, Bool.not_false, Bool.true_beq, Bool.false_beq], by simp only [WW, argTmps, if_true, if_false, Nat.reduceLT, Nat.reduceEqDiff, Nat.zero_add, Nat.reduceAdd, List.getElem?_toArray, List.getElem?_cons_zero, List.getElem?_cons_succ, List.length_cons, List.length_nil, Option.map_some, reduceCtorEq, Nat.succ_ne_self, Nat.one_ne_zero, Nat.zero_ne_one, Option.some_beq_some, beq_self_eq_true, Bool.not_true, Bool.not_false, Bool.true_beq, Bool.false_beq], by simp only [WW, argTmps, if_true, if_false, Nat.reduceLT, Nat.reduceEqDiff, Nat.zero_add, Nat.reduceAdd, List.getElem?_toArray, List.getElem?_cons_zero, List.getElem?_cons_succ, List.length_cons, List.length_nil, Option.map_some, reduceCtorEq, Nat.succ_ne_self, Nat.one_ne_zero, Nat.zero_ne_one, Option.some_beq_some, beq_self_eq_true, Bool.not_true, Bool.not_false, Bool.true_beq, Bool.false_beq]; rfl⟩ ?_
  clear f1 f3 f27 f28 f29
  rintro m2 fr σ8 K2 ⟨j, t2, hm2, rfl, g8, hrs, f1, f3, f27, f28, f29, f5, f52, f53, f54⟩ kn2 ke2 kr2
  simp only [WW, argTmps, if_true, if_false, Nat.reduceLT, Nat.reduceEqDiff, Nat.zero_add, Nat.reduceAdd, List.getElem?_toArray, List.getElem?_cons_zero, List.getElem?_cons_succ, List.length_cons, List.length_nil, Option.map_some, reduceCtorEq, Nat.succ_ne_self, Nat.one_ne_zero, Nat.zero_ne_one, Option.some_beq_some, beq_self_eq_true, Bool.not_true, Bool.not_false, Bool.true_beq, Bool.false_beq, WT, f53, f54]
  by_cases hj : j < x.list.length
  case neg =>
    rw [List.take_of_length_le (by omega)] at hrs
    simp only [natge hj, WW, argTmps, if_true, if_false, Nat.reduceLT, Nat.reduceEqDiff, Nat.zero_add, Nat.reduceAdd, List.getElem?_toArray, List.getElem?_cons_zero, List.getElem?_cons_succ, List.length_cons, List.length_nil, Option.map_some, reduceCtorEq, Nat.succ_ne_self, Nat.one_ne_zero, Nat.zero_ne_one, Option.some_beq_some, beq_self_eq_true, Bool.not_true, Bool.not_false, Bool.true_beq, Bool.false_beq, WT, ke2, kr2, f29, wrapS (show i < 1000000000000 by omega)]
    refine kn (m - 1) _ _ (by omega) ⟨i + 1, _, by omega, rfl, g7.trans g8, by have := g8.le; omega, ?_, fun q hq => ?_, ?_, by simp only [WW, argTmps, if_true, if_false, Nat.reduceLT, Nat.reduceEqDiff, Nat.zero_add, Nat.reduceAdd, List.getElem?_toArray, List.getElem?_cons_zero, List.getElem?_cons_succ, List.length_cons, List.length_nil, Option.map_some, reduceCtorEq, Nat.succ_ne_self, Nat.one_ne_zero, Nat.zero_ne_one, Option.some_beq_some, beq_self_eq_true, Bool.not_true, Bool.not_false, Bool.true_beq, Bool.false_beq]; exact f1, by simp only [WW, argTmps, if_true, if_false, Nat.reduceLT, Nat.reduceEqDiff, Nat.zero_add, Nat.reduceAdd, List.getElem?_toArray, List.getElem?_cons_zero, List.getElem?_cons_succ, List.length_cons, List.length_nil, Option.map_some, reduceCtorEq, Nat.succ_ne_self, Nat.one_ne_zero, Nat.zero_ne_one, Option.some_beq_some, beq_self_eq_true, Bool.not_true, Bool.not_false, Bool.true_beq, Bool.false_beq]; exact f3, by simp only [WW, argTmps, if_true, if_false, Nat.reduceLT, Nat.reduceEqDiff, Nat.zero_add, Nat.reduceAdd, List.getElem?_toArray, List.getElem?_cons_zero, List.getElem?_cons_succ, List.length_cons, List.length_nil, Option.map_some, reduceCtorEq, Nat.succ_ne_self, Nat.one_ne_zero, Nat.zero_ne_one, Option.some_beq_some, beq_self_eq_true, Bool.not_true, Bool.not_false, Bool.true_beq, Bool.false_beq]; exact f27, by simp only [WW, argTmps, if_true, if_false, Nat.reduceLT, Nat.reduceEqDiff, Nat.zero_add, Nat.reduceAdd, List.getElem?_toArray, List.getElem?_cons_zero, List.getElem?_cons_succ, List.length_cons, List.length_nil, Option.map_some, reduceCtorEq, Nat.succ_ne_self, Nat.one_ne_zero, Nat.zero_ne_one, Option.some_beq_some, beq_self_eq_true, Bool.not_true, Bool.not_false, Bool.true_beq, Bool.false_beq]; exact f28, by simp only [WW, argTmps, if_true, if_false, Nat.reduceLT, Nat.reduceEqDiff, Nat.zero_add, Nat.reduceAdd, List.getElem?_toArray, List.getElem?_cons_zero, List.getElem?_cons_succ, List.length_cons, List.length_nil, Option.map_some, reduceCtorEq, Nat.succ_ne_self, Nat.one_ne_zero, Nat.zero_ne_one, Option.some_beq_some, beq_self_eq_true, Bool.not_true, Bool.not_false, Bool.true_beq, Bool.false_beq]⟩
    · rw [g8.get _ (by omega), mp7, List.take_add_one, hx]
      simp
    · rcases (take_mem hx).1 hq with h | h
      · exact ho q h
      · rw [h]; exact ⟨by omega, hle, hrs⟩
    · rw [List.take_add_one, hx, List.map_append, List.nodup_append]
      refine ⟨hnd, by simp, fun a h1 b h2 => ?_⟩
      simp at h2
      subst h2
      exact fun e => hin (e ▸ h1)
  obtain ⟨r, hr⟩ := get_some hj
  have hrm := List.mem_of_getElem? hr
  have hr8 : Rd (· < σ4.next) σ8 12 ER w1 x.list := hr7.keep (σ' := σ8) (fun id h => g8.get id (by have := g7.le; have : id < σ4.next := h; omega)) (fun _ h => h) (fun _ _ h => h)
  obtain ⟨c, u1, ⟨rfl, hr0⟩, _⟩ := hr8.elt hr
  obtain ⟨σ9, e9, g9, n9, c9⟩ := var_ex σ8 zRx.cells r.cells
  have c79 := (g8.trans g9).cells (show σ1.next < σ7.next by omega) c7
  have r0 : r.cells[0]? = some (.int .i64 r.el) := rfl
  have r1 : r.cells[1]? = some (.int .u8 r.kind) := rfl
  simp only [natlt hj, WW, argTmps, if_true, if_false, Nat.reduceLT, Nat.reduceEqDiff, Nat.zero_add, Nat.reduceAdd, List.getElem?_toArray, List.getElem?_cons_zero, List.getElem?_cons_succ, List.length_cons, List.length_nil, Option.map_some, reduceCtorEq, Nat.succ_ne_self, Nat.one_ne_zero, Nat.zero_ne_one, Option.some_beq_some, beq_self_eq_true, Bool.not_true, Bool.not_false, Bool.true_beq, Bool.false_beq, WT, f52, f54, u1.ix und79 sz87, u1.lda ag87 sz87, al87, st87, e9, c9, c79, f5, r0]
  by_cases q1 : r.el = x.el
  case neg =>
    simp only [q1, decide_false, WW, argTmps, if_true, if_false, Nat.reduceLT, Nat.reduceEqDiff, Nat.zero_add, Nat.reduceAdd, List.getElem?_toArray, List.getElem?_cons_zero, List.getElem?_cons_succ, List.length_cons, List.length_nil, Option.map_some, reduceCtorEq, Nat.succ_ne_self, Nat.one_ne_zero, Nat.zero_ne_one, Option.some_beq_some, beq_self_eq_true, Bool.not_true, Bool.not_false, Bool.true_beq, Bool.false_beq, WT, kr2, ke2, kr, ke]
    exact no _ _ (((g04.trans g7).trans g8).trans g9) (fun h => q1 ((h.qs x hxm).rs r hrm).1) (by simp only [WW, argTmps, if_true, if_false, Nat.reduceLT, Nat.reduceEqDiff, Nat.zero_add, Nat.reduceAdd, List.getElem?_toArray, List.getElem?_cons_zero, List.getElem?_cons_succ, List.length_cons, List.length_nil, Option.map_some, reduceCtorEq, Nat.succ_ne_self, Nat.one_ne_zero, Nat.zero_ne_one, Option.some_beq_some, beq_self_eq_true, Bool.not_true, Bool.not_false, Bool.true_beq, Bool.false_beq])
  by_cases q2 : 1 ≤ r.kind
  case neg =>
    simp only [q1, decide_true, WW, argTmps, if_true, if_false, Nat.reduceLT, Nat.reduceEqDiff, Nat.zero_add, Nat.reduceAdd, List.getElem?_toArray, List.getElem?_cons_zero, List.getElem?_cons_succ, List.length_cons, List.length_nil, Option.map_some, reduceCtorEq, Nat.succ_ne_self, Nat.one_ne_zero, Nat.zero_ne_one, Option.some_beq_some, beq_self_eq_true, Bool.not_true, Bool.not_false, Bool.true_beq, Bool.false_beq, WT, c9, r1, decide_eq_true (show r.kind < 1 by omega), kr2, ke2, kr, ke]
    exact no _ _ (((g04.trans g7).trans g8).trans g9) (fun h => q2 ((h.qs x hxm).rs r hrm).2.1) (by simp only [WW, argTmps, if_true, if_false, Nat.reduceLT, Nat.reduceEqDiff, Nat.zero_add, Nat.reduceAdd, List.getElem?_toArray, List.getElem?_cons_zero, List.getElem?_cons_succ, List.length_cons, List.length_nil, Option.map_some, reduceCtorEq, Nat.succ_ne_self, Nat.one_ne_zero, Nat.zero_ne_one, Option.some_beq_some, beq_self_eq_true, Bool.not_true, Bool.not_false, Bool.true_beq, Bool.false_beq])
  by_cases q3 : r.kind < 6
  case neg =>
    simp only [q1, decide_true, WW, argTmps, if_true, if_false, Nat.reduceLT, Nat.reduceEqDiff, Nat.zero_add, Nat.reduceAdd, List.getElem?_toArray, List.getElem?_cons_zero, List.getElem?_cons_succ, List.length_cons, List.length_nil, Option.map_some, reduceCtorEq, Nat.succ_ne_self, Nat.one_ne_zero, Nat.zero_ne_one, Option.some_beq_some, beq_self_eq_true, Bool.not_true, Bool.not_false, Bool.true_beq, Bool.false_beq, WT, c9, r1, decide_eq_false (show ¬ r.kind < 1 by omega), decide_eq_true (show 6 ≤ r.kind by omega), kr2, ke2, kr, ke]
    exact no _ _ (((g04.trans g7).trans g8).trans g9) (fun h => q3 ((h.qs x hxm).rs r hrm).2.2) (by simp only [WW, argTmps, if_true, if_false, Nat.reduceLT, Nat.reduceEqDiff, Nat.zero_add, Nat.reduceAdd, List.getElem?_toArray, List.getElem?_cons_zero, List.getElem?_cons_succ, List.length_cons, List.length_nil, Option.map_some, reduceCtorEq, Nat.succ_ne_self, Nat.one_ne_zero, Nat.zero_ne_one, Option.some_beq_some, beq_self_eq_true, Bool.not_true, Bool.not_false, Bool.true_beq, Bool.false_beq])
  simp only [q1, decide_true, WW, argTmps, if_true, if_false, Nat.reduceLT, Nat.reduceEqDiff, Nat.zero_add, Nat.reduceAdd, List.getElem?_toArray, List.getElem?_cons_zero, List.getElem?_cons_succ, List.length_cons, List.length_nil, Option.map_some, reduceCtorEq, Nat.succ_ne_self, Nat.one_ne_zero, Nat.zero_ne_one, Option.some_beq_some, beq_self_eq_true, Bool.not_true, Bool.not_false, Bool.true_beq, Bool.false_beq, WT, c9, r1, decide_eq_false (show ¬ r.kind < 1 by omega), decide_eq_false (show ¬ 6 ≤ r.kind by omega), f54, wrapS (show j < 1000000000000 by omega)]
  exact kn2 (m2 - 1) _ _ (by omega) ⟨j + 1, _, by omega, rfl, g8.trans g9, fun y hy => by
      rcases (take_mem hr).1 hy with h | h
      · exact hrs y h
      · rw [h]; exact ⟨q1, by omega, q3⟩, by simp only [WW, argTmps, if_true, if_false, Nat.reduceLT, Nat.reduceEqDiff, Nat.zero_add, Nat.reduceAdd, List.getElem?_toArray, List.getElem?_cons_zero, List.getElem?_cons_succ, List.length_cons, List.length_nil, Option.map_some, reduceCtorEq, Nat.succ_ne_self, Nat.one_ne_zero, Nat.zero_ne_one, Option.some_beq_some, beq_self_eq_true, Bool.not_true, Bool.not_false, Bool.true_beq, Bool.false_beq]; exact f1, by simp only [WW, argTmps, if_true, if_false, Nat.reduceLT, Nat.reduceEqDiff, Nat.zero_add, Nat.reduceAdd, List.getElem?_toArray, List.getElem?_cons_zero, List.getElem?_cons_succ, List.length_cons, List.length_nil, Option.map_some, reduceCtorEq, Nat.succ_ne_self, Nat.one_ne_zero, Nat.zero_ne_one, Option.some_beq_some, beq_self_eq_true, Bool.not_true, Bool.not_false, Bool.true_beq, Bool.false_beq]; exact f3, by simp only [WW, argTmps, if_true, if_false, Nat.reduceLT, Nat.reduceEqDiff, Nat.zero_add, Nat.reduceAdd, List.getElem?_toArray, List.getElem?_cons_zero, List.getElem?_cons_succ, List.length_cons, List.length_nil, Option.map_some, reduceCtorEq, Nat.succ_ne_self, Nat.one_ne_zero, Nat.zero_ne_one, Option.some_beq_some, beq_self_eq_true, Bool.not_true, Bool.not_false, Bool.true_beq, Bool.false_beq]; exact f27, by simp only [WW, argTmps, if_true, if_false, Nat.reduceLT, Nat.reduceEqDiff, Nat.zero_add, Nat.reduceAdd, List.getElem?_toArray, List.getElem?_cons_zero, List.getElem?_cons_succ, List.length_cons, List.length_nil, Option.map_some, reduceCtorEq, Nat.succ_ne_self, Nat.one_ne_zero, Nat.zero_ne_one, Option.some_beq_some, beq_self_eq_true, Bool.not_true, Bool.not_false, Bool.true_beq, Bool.false_beq]; exact f28, by simp only [WW, argTmps, if_true, if_false, Nat.reduceLT, Nat.reduceEqDiff, Nat.zero_add, Nat.reduceAdd, List.getElem?_toArray, List.getElem?_cons_zero, List.getElem?_cons_succ, List.length_cons, List.length_nil, Option.map_some, reduceCtorEq, Nat.succ_ne_self, Nat.one_ne_zero, Nat.zero_ne_one, Option.some_beq_some, beq_self_eq_true, Bool.not_true, Bool.not_false, Bool.true_beq, Bool.false_beq]; exact f29, by simp only [WW, argTmps, if_true, if_false, Nat.reduceLT, Nat.reduceEqDiff, Nat.zero_add, Nat.reduceAdd, List.getElem?_toArray, List.getElem?_cons_zero, List.getElem?_cons_succ, List.length_cons, List.length_nil, Option.map_some, reduceCtorEq, Nat.succ_ne_self, Nat.one_ne_zero, Nat.zero_ne_one, Option.some_beq_some, beq_self_eq_true, Bool.not_true, Bool.not_false, Bool.true_beq, Bool.false_beq]; exact f5, by simp only [WW, argTmps, if_true, if_false, Nat.reduceLT, Nat.reduceEqDiff, Nat.zero_add, Nat.reduceAdd, List.getElem?_toArray, List.getElem?_cons_zero, List.getElem?_cons_succ, List.length_cons, List.length_nil, Option.map_some, reduceCtorEq, Nat.succ_ne_self, Nat.one_ne_zero, Nat.zero_ne_one, Option.some_beq_some, beq_self_eq_true, Bool.not_true, Bool.not_false, Bool.true_beq, Bool.false_beq]; exact f52, by simp only [WW, argTmps, if_true, if_false, Nat.reduceLT, Nat.reduceEqDiff, Nat.zero_add, Nat.reduceAdd, List.getElem?_toArray, List.getElem?_cons_zero, List.getElem?_cons_succ, List.length_cons, List.length_nil, Option.map_some, reduceCtorEq, Nat.succ_ne_self, Nat.one_ne_zero, Nat.zero_ne_one, Option.some_beq_some, beq_self_eq_true, Bool.not_true, Bool.not_false, Bool.true_beq, Bool.false_beq]; exact f53, by simp only [WW, argTmps, if_true, if_false, Nat.reduceLT, Nat.reduceEqDiff, Nat.zero_add, Nat.reduceAdd, List.getElem?_toArray, List.getElem?_cons_zero, List.getElem?_cons_succ, List.length_cons, List.length_nil, Option.map_some, reduceCtorEq, Nat.succ_ne_self, Nat.one_ne_zero, Nat.zero_ne_one, Option.some_beq_some, beq_self_eq_true, Bool.not_true, Bool.not_false, Bool.true_beq, Bool.false_beq]⟩
end Go.Proofs.YtmchghdmejbblaaGreatDoor
