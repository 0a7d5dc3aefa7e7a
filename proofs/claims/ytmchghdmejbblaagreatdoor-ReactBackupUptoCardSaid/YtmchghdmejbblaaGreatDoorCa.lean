/- react.place; the pure word of react.take. -/
import Derived.Test.YtmchghdmejbblaaGreatDoorBs
set_option linter.unusedSimpArgs false
set_option linter.unusedVariables false
noncomputable section
namespace Go.Proofs.YtmchghdmejbblaaGreatDoor
open Go Go.Ab Go.RowKit

/-- The test of react.place's literal: a queue is that of the element h. -/
theorem isq_ok {σ : St} {x : Qu} {v : AV} {id : Nat} {h : Int} (o : v.one = true) (hi : id < σ.next) (hc : cellsAt σ id 0 = some [.int .i64 h]) : Ca Mq 204 [.agg [.int .i64 x.el, v], .ptr id 0 0] σ fun r σ' => r = .bool (decide (x.el = h)) ∧ Gro σ σ' := by
  obtain ⟨σ1, e1⟩ : ∃ σ1, σ.add (.arr 0 [.int .i64 x.el, v]) = σ1 := ⟨_, rfl⟩
  have g1 : Gro σ σ1 := by rw [← e1]; exact Gro.add _ _
  have c1 : cellsAt σ1 σ.next 0 = some [.int .i64 x.el, v] := by rw [← e1, cellsAt_add_new]
  have c2 := g1.cells hi hc
  refine Ca.enter (fn := Tryz.f204) rfl (by kernel_rfl) rfl (by kernel_rfl) (Nat.le_of_ble_eq_true rfl) 8 _ rfl rfl ?_
  generalize hQ : Leave Mq Tryz.f204 _ = Q
  simp only [WW, argTmps, if_true, if_false, Nat.reduceLT, Nat.reduceEqDiff, Nat.zero_add, Nat.reduceAdd, List.getElem?_toArray, List.getElem?_cons_zero, List.getElem?_cons_succ, List.length_cons, List.length_nil, Option.map_some, reduceCtorEq, Nat.succ_ne_self, Nat.one_ne_zero, Nat.zero_ne_one, Option.some_beq_some, beq_self_eq_true, Bool.not_true, Bool.not_false, Bool.true_beq, Bool.false_beq, WT, opNew_eq (fr2 o), AV.cells, e1, c1, c2]
  subst hQ
  exact leave_tmp (d := 3) rfl (by simp only [WW, argTmps, if_true, if_false, Nat.reduceLT, Nat.reduceEqDiff, Nat.zero_add, Nat.reduceAdd, List.getElem?_toArray, List.getElem?_cons_zero, List.getElem?_cons_succ, List.length_cons, List.length_nil, Option.map_some, reduceCtorEq, Nat.succ_ne_self, Nat.one_ne_zero, Nat.zero_ne_one, Option.some_beq_some, beq_self_eq_true, Bool.not_true, Bool.not_false, Bool.true_beq, Bool.false_beq]) ⟨rfl, g1⟩

theorem qindex_ok {σ : St} {v : AV} {l : List Qu} {id : Nat} {h : Int} (hv : Rd (· < σ.next) σ 2 (EQ (· < σ.next) σ) v l) (hl : l.length ≤ Bd) (hi : id < σ.next) (hc : cellsAt σ id 0 = some [.int .i64 h]) :
    Ca Mq 203 [v, .fn 204 [] [.ptr id 0 0]] σ fun r σ' => r = .int .i64 (ixOf (fun q : Qu => decide (q.el = h)) l) ∧ Gro σ σ' := by
  unfold Bd at hl
  have l1 := hv.len und61
  refine Ca.enter (fn := Tryz.f203) rfl (by kernel_rfl) rfl (by kernel_rfl) (Nat.le_of_ble_eq_true rfl) 19 _ rfl rfl ?_
  generalize hQ : Leave Mq Tryz.f203 _ = Q
  simp only [WW, argTmps, if_true, if_false, Nat.reduceLT, Nat.reduceEqDiff, Nat.zero_add, Nat.reduceAdd, List.getElem?_toArray, List.getElem?_cons_zero, List.getElem?_cons_succ, List.length_cons, List.length_nil, Option.map_some, reduceCtorEq, Nat.succ_ne_self, Nat.one_ne_zero, Nat.zero_ne_one, Option.some_beq_some, beq_self_eq_true, Bool.not_true, Bool.not_false, Bool.true_beq, Bool.false_beq, WT, l1]
  refine Co_loop (fun m fr σ1 => ∃ i t, m + i = l.length ∧ fr = ⟨t, [], 19, none⟩ ∧ Gro σ σ1 ∧ (∀ x ∈ l.take i, (decide (x.el = h)) = false) ∧ getT t 0 = v ∧ getT t 1 = .fn 204 [] [.ptr id 0 0] ∧ getT t 7 = .int .i64 (l.length : Nat) ∧ getT t 8 = .int .i64 (i : Nat)) l.length
    ⟨0, _, rfl, rfl, Gro.refl _, by simp, by simp only [WW, argTmps, if_true, if_false, Nat.reduceLT, Nat.reduceEqDiff, Nat.zero_add, Nat.reduceAdd, List.getElem?_toArray, List.getElem?_cons_zero, List.getElem?_cons_succ, List.length_cons, List.length_nil, Option.map_some, reduceCtorEq, Nat.succ_ne_self, Nat.one_ne_zero, Nat.zero_ne_one, Option.some_beq_some, beq_self_eq_true, Bool.not_true, Bool.not_false, Bool.true_beq, Bool.false_beq], by simp only [WW, argTmps, if_true, if_false, Nat.reduceLT, Nat.reduceEqDiff, Nat.zero_add, Nat.reduceAdd, List.getElem?_toArray, List.getElem?_cons_zero, List.getElem?_cons_succ, List.length_cons, List.length_nil, Option.map_some, reduceCtorEq, Nat.succ_ne_self, Nat.one_ne_zero, Nat.zero_ne_one, Option.some_beq_some, beq_self_eq_true, Bool.not_true, Bool.not_false, Bool.true_beq, Bool.false_beq], by simp only [WW, argTmps, if_true, if_false, Nat.reduceLT, Nat.reduceEqDiff, Nat.zero_add, Nat.reduceAdd, List.getElem?_toArray, List.getElem?_cons_zero, List.getElem?_cons_succ, List.length_cons, List.length_nil, Option.map_some, reduceCtorEq, Nat.succ_ne_self, Nat.one_ne_zero, Nat.zero_ne_one, Option.some_beq_some, beq_self_eq_true, Bool.not_true, Bool.not_false, Bool.true_beq, Bool.false_beq], by simp only [WW, argTmps, if_true, if_false, Nat.reduceLT, Nat.reduceEqDiff, Nat.zero_add, Nat.reduceAdd, List.getElem?_toArray, List.getElem?_cons_zero, List.getElem?_cons_succ, List.length_cons, List.length_nil, Option.map_some, reduceCtorEq, Nat.succ_ne_self, Nat.one_ne_zero, Nat.zero_ne_one, Option.some_beq_some, beq_self_eq_true, Bool.not_true, Bool.not_false, Bool.true_beq, Bool.false_beq]; rfl⟩ ?_
  rintro m fr σ1 K ⟨i, t, hm, rfl, g1, ht, f0, f1, f7, f8⟩ kn ke kr
  simp only [WW, argTmps, if_true, if_false, Nat.reduceLT, Nat.reduceEqDiff, Nat.zero_add, Nat.reduceAdd, List.getElem?_toArray, List.getElem?_cons_zero, List.getElem?_cons_succ, List.length_cons, List.length_nil, Option.map_some, reduceCtorEq, Nat.succ_ne_self, Nat.one_ne_zero, Nat.zero_ne_one, Option.some_beq_some, beq_self_eq_true, Bool.not_true, Bool.not_false, Bool.true_beq, Bool.false_beq, WT, f7, f8]
  by_cases hi' : i < l.length
  case neg =>
    simp only [natge hi', WW, argTmps, if_true, if_false, Nat.reduceLT, Nat.reduceEqDiff, Nat.zero_add, Nat.reduceAdd, List.getElem?_toArray, List.getElem?_cons_zero, List.getElem?_cons_succ, List.length_cons, List.length_nil, Option.map_some, reduceCtorEq, Nat.succ_ne_self, Nat.one_ne_zero, Nat.zero_ne_one, Option.some_beq_some, beq_self_eq_true, Bool.not_true, Bool.not_false, Bool.true_beq, Bool.false_beq, WT, ke, kr]
    subst hQ
    rw [List.take_of_length_le (by omega)] at ht
    exact leave_tmp (d := 4) rfl (by simp only [WW, argTmps, if_true, if_false, Nat.reduceLT, Nat.reduceEqDiff, Nat.zero_add, Nat.reduceAdd, List.getElem?_toArray, List.getElem?_cons_zero, List.getElem?_cons_succ, List.length_cons, List.length_nil, Option.map_some, reduceCtorEq, Nat.succ_ne_self, Nat.one_ne_zero, Nat.zero_ne_one, Option.some_beq_some, beq_self_eq_true, Bool.not_true, Bool.not_false, Bool.true_beq, Bool.false_beq]; rw [ixOf_none ht]) ⟨rfl, g1⟩
  obtain ⟨x, hx⟩ := get_some hi'
  obtain ⟨c, e1, ⟨w, rfl, hw⟩, _⟩ := (rdq_gro hv g1).elt hx
  simp only [natlt hi', WW, argTmps, if_true, if_false, Nat.reduceLT, Nat.reduceEqDiff, Nat.zero_add, Nat.reduceAdd, List.getElem?_toArray, List.getElem?_cons_zero, List.getElem?_cons_succ, List.length_cons, List.length_nil, Option.map_some, reduceCtorEq, Nat.succ_ne_self, Nat.one_ne_zero, Nat.zero_ne_one, Option.some_beq_some, beq_self_eq_true, Bool.not_true, Bool.not_false, Bool.true_beq, Bool.false_beq, WT, f0, f1, f8, e1.ix und61 sz81, e1.lda ag81 sz81, List.nil_append, List.cons_append]
  refine (isq_ok hw.one (by have := g1.le; omega) (g1.cells hi hc)).mono ?_
  rintro r σ' ⟨rfl, g3⟩
  cases hp : decide (x.el = h) with
  | true =>
    simp only [WW, argTmps, if_true, if_false, Nat.reduceLT, Nat.reduceEqDiff, Nat.zero_add, Nat.reduceAdd, List.getElem?_toArray, List.getElem?_cons_zero, List.getElem?_cons_succ, List.length_cons, List.length_nil, Option.map_some, reduceCtorEq, Nat.succ_ne_self, Nat.one_ne_zero, Nat.zero_ne_one, Option.some_beq_some, beq_self_eq_true, Bool.not_true, Bool.not_false, Bool.true_beq, Bool.false_beq, WT, ke, kr]
    subst hQ
    exact leave_tmp (d := 4) rfl (by simp only [WW, argTmps, if_true, if_false, Nat.reduceLT, Nat.reduceEqDiff, Nat.zero_add, Nat.reduceAdd, List.getElem?_toArray, List.getElem?_cons_zero, List.getElem?_cons_succ, List.length_cons, List.length_nil, Option.map_some, reduceCtorEq, Nat.succ_ne_self, Nat.one_ne_zero, Nat.zero_ne_one, Option.some_beq_some, beq_self_eq_true, Bool.not_true, Bool.not_false, Bool.true_beq, Bool.false_beq]; rw [ixOf_some hx hp ht]) ⟨rfl, g1.trans g3⟩
  | false =>
    simp only [WW, argTmps, if_true, if_false, Nat.reduceLT, Nat.reduceEqDiff, Nat.zero_add, Nat.reduceAdd, List.getElem?_toArray, List.getElem?_cons_zero, List.getElem?_cons_succ, List.length_cons, List.length_nil, Option.map_some, reduceCtorEq, Nat.succ_ne_self, Nat.one_ne_zero, Nat.zero_ne_one, Option.some_beq_some, beq_self_eq_true, Bool.not_true, Bool.not_false, Bool.true_beq, Bool.false_beq, WT, f8, wrapS (show i < 1000000000000 by omega)]
    exact kn (m - 1) _ _ (by omega) ⟨i + 1, _, by omega, rfl, g1.trans g3, fun y hy => by
      rcases (take_mem hx).1 hy with h | h
      · exact ht y h
      · rw [h]; exact hp, by simp only [WW, argTmps, if_true, if_false, Nat.reduceLT, Nat.reduceEqDiff, Nat.zero_add, Nat.reduceAdd, List.getElem?_toArray, List.getElem?_cons_zero, List.getElem?_cons_succ, List.length_cons, List.length_nil, Option.map_some, reduceCtorEq, Nat.succ_ne_self, Nat.one_ne_zero, Nat.zero_ne_one, Option.some_beq_some, beq_self_eq_true, Bool.not_true, Bool.not_false, Bool.true_beq, Bool.false_beq]; exact f0, by simp only [WW, argTmps, if_true, if_false, Nat.reduceLT, Nat.reduceEqDiff, Nat.zero_add, Nat.reduceAdd, List.getElem?_toArray, List.getElem?_cons_zero, List.getElem?_cons_succ, List.length_cons, List.length_nil, Option.map_some, reduceCtorEq, Nat.succ_ne_self, Nat.one_ne_zero, Nat.zero_ne_one, Option.some_beq_some, beq_self_eq_true, Bool.not_true, Bool.not_false, Bool.true_beq, Bool.false_beq]; exact f1, by simp only [WW, argTmps, if_true, if_false, Nat.reduceLT, Nat.reduceEqDiff, Nat.zero_add, Nat.reduceAdd, List.getElem?_toArray, List.getElem?_cons_zero, List.getElem?_cons_succ, List.length_cons, List.length_nil, Option.map_some, reduceCtorEq, Nat.succ_ne_self, Nat.one_ne_zero, Nat.zero_ne_one, Option.some_beq_some, beq_self_eq_true, Bool.not_true, Bool.not_false, Bool.true_beq, Bool.false_beq]; exact f7, by simp only [WW, argTmps, if_true, if_false, Nat.reduceLT, Nat.reduceEqDiff, Nat.zero_add, Nat.reduceAdd, List.getElem?_toArray, List.getElem?_cons_zero, List.getElem?_cons_succ, List.length_cons, List.length_nil, Option.map_some, reduceCtorEq, Nat.succ_ne_self, Nat.one_ne_zero, Nat.zero_ne_one, Option.some_beq_some, beq_self_eq_true, Bool.not_true, Bool.not_false, Bool.true_beq, Bool.false_beq]⟩

def placeOf (qs : List Qu) (h : Int) : Int := ixOf (fun q : Qu => decide (q.el = h)) qs
theorem place_ok {σ : St} {vq vs vb : AV} {b : Bool} {qs : List Qu} {h : Int} (hq : Rd (· < σ.next) σ 2 (EQ (· < σ.next) σ) vq qs) (o : ([vq, vs, vb, .bool b] : List AV).all AV.one = true) (hl : qs.length ≤ Bd) :
    Ca Mq 140 [.agg [vq, vs, vb, .bool b], .int .i64 h] σ fun r σ' => r = .int .i64 (placeOf qs h) ∧ Gro σ σ' := by
  obtain ⟨σ1, e1⟩ : ∃ σ1, (σ.add (.arr 0 [vq, vs, vb, .bool b])).add (.arr 0 [.int .i64 h]) = σ1 := ⟨_, rfl⟩
  have g1 : Gro σ σ1 := by rw [← e1]; exact (Gro.add _ _).trans (Gro.add _ _)
  have n1 : σ1.next = σ.next + 2 := by rw [← e1]; rfl
  have c1 : cellsAt σ1 σ.next 0 = some [vq, vs, vb, .bool b] := by rw [← e1, cellsAt_add_old (by rw [next_add]; omega), cellsAt_add_new]
  have c2 : cellsAt σ1 (σ.next + 1) 0 = some [.int .i64 h] := by rw [← e1]; exact cellsAt_of get_new
  have oi : ([.int .i64 h] : List AV).all AV.one = true := rfl
  refine Ca.enter (fn := Tryz.f140) rfl (by kernel_rfl) rfl (by kernel_rfl) (Nat.le_of_ble_eq_true rfl) 9 _ rfl rfl ?_
  generalize hQ : Leave Mq Tryz.f140 _ = Q
  simp only [WW, argTmps, if_true, if_false, Nat.reduceLT, Nat.reduceEqDiff, Nat.zero_add, Nat.reduceAdd, List.getElem?_toArray, List.getElem?_cons_zero, List.getElem?_cons_succ, List.length_cons, List.length_nil, Option.map_some, reduceCtorEq, Nat.succ_ne_self, Nat.one_ne_zero, Nat.zero_ne_one, Option.some_beq_some, beq_self_eq_true, Bool.not_true, Bool.not_false, Bool.true_beq, Bool.false_beq, WT, opNew_eq o, opNew_eq oi, AV.cells, next_add, e1, c1]
  refine (qindex_ok (rdq_gro hq g1) hl (by omega) c2).mono ?_
  rintro r σ' ⟨rfl, g3⟩
  simp only [WW, argTmps, if_true, if_false, Nat.reduceLT, Nat.reduceEqDiff, Nat.zero_add, Nat.reduceAdd, List.getElem?_toArray, List.getElem?_cons_zero, List.getElem?_cons_succ, List.length_cons, List.length_nil, Option.map_some, reduceCtorEq, Nat.succ_ne_self, Nat.one_ne_zero, Nat.zero_ne_one, Option.some_beq_some, beq_self_eq_true, Bool.not_true, Bool.not_false, Bool.true_beq, Bool.false_beq, WT]
  subst hQ
  exact leave_tmp (d := 4) rfl (by simp only [WW, argTmps, if_true, if_false, Nat.reduceLT, Nat.reduceEqDiff, Nat.zero_add, Nat.reduceAdd, List.getElem?_toArray, List.getElem?_cons_zero, List.getElem?_cons_succ, List.length_cons, List.length_nil, Option.map_some, reduceCtorEq, Nat.succ_ne_self, Nat.one_ne_zero, Nat.zero_ne_one, Option.some_beq_some, beq_self_eq_true, Bool.not_true, Bool.not_false, Bool.true_beq, Bool.false_beq]; rfl) ⟨rfl, g1.trans g3⟩

/-- What react.take comes to: the queues, what is left of the list, the reaction, whether there is one. -/
def takeP (qs : List Qu) : List Int → List Qu × List Int × Rx × Bool
  | [] => (qs, [], zRx, false)
  | h :: t => match qs.findIdx? (fun q => decide (q.el = h)) with
    | none => takeP qs t
    | some i => match qs[i]? with
      | some ⟨e, r :: l⟩ => if l.length = 0 then (qs.eraseIdx i, t, r, true) else (qs.set i ⟨e, l⟩, h :: t, r, true)
      | _ => (qs, [], zRx, false)
theorem takeP_skip {qs : List Qu} {h : Int} {t : List Int} (hn : placeOf qs h < 0) : takeP qs (h :: t) = takeP qs t := by
  unfold placeOf ixOf at hn
  simp only [takeP]
  split at hn
  · omega
  · rename_i h0; rw [h0]
theorem placeOf_at {qs : List Qu} {h : Int} (hn : ¬ placeOf qs h < 0) : ∃ i q, placeOf qs h = (i : Nat) ∧ qs.findIdx? (fun q => decide (q.el = h)) = some i ∧ qs[i]? = some q ∧ q.el = h := by
  unfold placeOf ixOf at *
  split at hn
  · rename_i i hi
    have h2 := hi
    rw [List.findIdx?_eq_some_iff_getElem] at h2
    obtain ⟨h1, h3, _⟩ := h2
    exact ⟨i, qs[i], rfl, hi, by simp, by simpa using h3⟩
  · omega
end Go.Proofs.YtmchghdmejbblaaGreatDoor
