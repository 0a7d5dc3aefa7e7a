/- ReactBackup yields true of every input whose bulk is at most the row's bound (the row's second form, tied: its card). Conditions: none beyond the row's own. -/
import Derived.Test.YtmchghdmejbblaaGreatDoorCg
import Derived.Test.YtmchghdmejbblaaGreatDoorBv
import Derived.Test.YtmchghdmejbblaaGreatDoorFBackup
set_option linter.unusedSimpArgs false
set_option linter.unusedVariables false
noncomputable section
namespace Go.Proofs.YtmchghdmejbblaaGreatDoor
open Go Go.Ab Go.RowKit

set_option maxRecDepth 100000 in
theorem law12_ok {σ : St} {ca : List AV} {s : Re} (ha : ReC (· < σ.next) σ ca s) (hs : s.ok) : Ca Mq 12 [.agg ca] σ fun r _ => r = .bool true := by
  have fa := ha.fit
  obtain ⟨σ1, e1⟩ : ∃ σ1, σ.add (.arr 0 ca) = σ1 := ⟨_, rfl⟩
  have g1 : Gro σ σ1 := by rw [← e1]; exact Gro.add _ _
  have n1 : σ1.next = σ.next + 1 := by rw [← e1]; rfl
  have c1 : cellsAt σ1 σ.next 0 = some ca := by rw [← e1, cellsAt_add_new]
  refine Ca.enter (fn := Tryz.f12) rfl (by kernel_rfl) rfl (by kernel_rfl) (Nat.le_of_ble_eq_true rfl) 60 _ rfl rfl ?_
  generalize hQ : Leave Mq Tryz.f12 _ = Q
  have ret : ∀ t σ', getT t 2 = .bool true → Q .ret ⟨t, [], 60, none⟩ σ' := fun t σ' h => by subst hQ; exact leave_tmp (d := 2) rfl h rfl
  clear hQ
  simp only [WW, argTmps, if_true, if_false, Nat.reduceLT, Nat.reduceEqDiff, Nat.zero_add, Nat.reduceAdd, List.getElem?_toArray, List.getElem?_cons_zero, List.getElem?_cons_succ, List.length_cons, List.length_nil, Option.map_some, reduceCtorEq, Nat.succ_ne_self, Nat.one_ne_zero, Nat.zero_ne_one, Option.some_beq_some, beq_self_eq_true, Bool.not_true, Bool.not_false, Bool.true_beq, Bool.false_beq, WT, opNew_eq fa.1, AV.cells, e1]
  refine Ca.known (v := .bool true) rfl ?_
  simp only [WW, argTmps, if_true, if_false, Nat.reduceLT, Nat.reduceEqDiff, Nat.zero_add, Nat.reduceAdd, List.getElem?_toArray, List.getElem?_cons_zero, List.getElem?_cons_succ, List.length_cons, List.length_nil, Option.map_some, reduceCtorEq, Nat.succ_ne_self, Nat.one_ne_zero, Nat.zero_ne_one, Option.some_beq_some, beq_self_eq_true, Bool.not_true, Bool.not_false, Bool.true_beq, Bool.false_beq, WT, c1, ldC_all fa.2]
  refine (check_ok (ha.gro g1) hs).mono ?_
  rintro r σ2 ⟨rfl, g2⟩
  by_cases hr : RightP s
  case neg =>
    rw [right_no hr]
    simp only [WW, argTmps, if_true, if_false, Nat.reduceLT, Nat.reduceEqDiff, Nat.zero_add, Nat.reduceAdd, List.getElem?_toArray, List.getElem?_cons_zero, List.getElem?_cons_succ, List.length_cons, List.length_nil, Option.map_some, reduceCtorEq, Nat.succ_ne_self, Nat.one_ne_zero, Nat.zero_ne_one, Option.some_beq_some, beq_self_eq_true, Bool.not_true, Bool.not_false, Bool.true_beq, Bool.false_beq, WT, Bool.false_eq_true, decide_eq_false (show ¬ (15 : Int) = 0 by omega)]
    exact ret _ _ (by simp only [WW, argTmps, if_true, if_false, Nat.reduceLT, Nat.reduceEqDiff, Nat.zero_add, Nat.reduceAdd, List.getElem?_toArray, List.getElem?_cons_zero, List.getElem?_cons_succ, List.length_cons, List.length_nil, Option.map_some, reduceCtorEq, Nat.succ_ne_self, Nat.one_ne_zero, Nat.zero_ne_one, Option.some_beq_some, beq_self_eq_true, Bool.not_true, Bool.not_false, Bool.true_beq, Bool.false_beq])
  rw [right_yes hr]
  have c2 := g2.cells (by omega) c1
  obtain ⟨σ3, e3, g3, n3, c3⟩ := var_ex σ2 [.nils, .nils, .nils, .bool false] ca
  have c13 := g3.cells (by have := g2.le; omega) c2
  have b2 := g2.le
  have G3 := (g1.trans g2).trans g3
  have ha3 : ReC (· < σ.next) σ3 ca s := rec_move ha (fun id h => G3.get id h) fun _ h => h
  simp only [WW, argTmps, if_true, if_false, Nat.reduceLT, Nat.reduceEqDiff, Nat.zero_add, Nat.reduceAdd, List.getElem?_toArray, List.getElem?_cons_zero, List.getElem?_cons_succ, List.length_cons, List.length_nil, Option.map_some, reduceCtorEq, Nat.succ_ne_self, Nat.one_ne_zero, Nat.zero_ne_one, Option.some_beq_some, beq_self_eq_true, Bool.not_true, Bool.not_false, Bool.true_beq, Bool.false_beq, WT, decide_true, c2, ldC_all fa.2, al64, st64 (c := ca) (z := [.nils, .nils, .nils, .bool false]) fa.1 fa.2 rfl, e3, c3]
  refine (many_ok (rec_sub ha3 fun id h => by have := G3.le; omega) hs).mono ?_
  rintro r σ4 ⟨rfl, g4⟩
  have b4 := g4.le
  have hm0 := hr.many
  simp only [WW, argTmps, if_true, if_false, Nat.reduceLT, Nat.reduceEqDiff, Nat.zero_add, Nat.reduceAdd, List.getElem?_toArray, List.getElem?_cons_zero, List.getElem?_cons_succ, List.length_cons, List.length_nil, Option.map_some, reduceCtorEq, Nat.succ_ne_self, Nat.one_ne_zero, Nat.zero_ne_one, Option.some_beq_some, beq_self_eq_true, Bool.not_true, Bool.not_false, Bool.true_beq, Bool.false_beq, WT]
  refine Co_loop (fun m fr σ5 => ∃ i t a c, m + i = many s ∧ many a = m ∧ fr = ⟨t, [], 60, none⟩ ∧ σ2.next < σ5.next ∧ cellsAt σ5 σ2.next 0 = some c ∧ cellsAt σ5 σ.next 0 = some ca ∧ ReC (fun id => id < σ5.next ∧ id ≠ σ2.next) σ5 c a ∧ RightP a ∧ ReC (· < σ.next) σ5 ca s ∧
      (∀ h ∈ s.backup, h ∈ a.backup ∨ waitL a.qs h = []) ∧ getT t 1 = .ptr σ.next 0 0 ∧ getT t 3 = .ptr σ2.next 0 0 ∧ getT t 4 = .int .i64 (many s : Nat) ∧ getT t 5 = .int .i64 (i : Nat)) (many s)
    ⟨0, _, s, ca, rfl, rfl, rfl, by omega, g4.cells (by omega) c3, g4.cells (by omega) c13, rec_move ha3 (fun id h => g4.get id (by have := G3.le; omega)) (fun id h => ⟨by have := G3.le; omega, by omega⟩), hr, rec_move ha3 (fun id h => g4.get id (by have := G3.le; omega)) (fun _ h => h), fun h hh => .inl hh,
      by simp only [WW, argTmps, if_true, if_false, Nat.reduceLT, Nat.reduceEqDiff, Nat.zero_add, Nat.reduceAdd, List.getElem?_toArray, List.getElem?_cons_zero, List.getElem?_cons_succ, List.length_cons, List.length_nil, Option.map_some, reduceCtorEq, Nat.succ_ne_self, Nat.one_ne_zero, Nat.zero_ne_one, Option.some_beq_some, beq_self_eq_true, Bool.not_true, Bool.not_false, Bool.true_beq, Bool.false_beq], by simp only [WW, argTmps, if_true, if_false, Nat.reduceLT, Nat.reduceEqDiff, Nat.zero_add, Nat.reduceAdd, List.getElem?_toArray, List.getElem?_cons_zero, List.getElem?_cons_succ, List.length_cons, List.length_nil, Option.map_some, reduceCtorEq, Nat.succ_ne_self, Nat.one_ne_zero, Nat.zero_ne_one, Option.some_beq_some, beq_self_eq_true, Bool.not_true, Bool.not_false, Bool.true_beq, Bool.false_beq], by simp only [WW, argTmps, if_true, if_false, Nat.reduceLT, Nat.reduceEqDiff, Nat.zero_add, Nat.reduceAdd, List.getElem?_toArray, List.getElem?_cons_zero, List.getElem?_cons_succ, List.length_cons, List.length_nil, Option.map_some, reduceCtorEq, Nat.succ_ne_self, Nat.one_ne_zero, Nat.zero_ne_one, Option.some_beq_some, beq_self_eq_true, Bool.not_true, Bool.not_false, Bool.true_beq, Bool.false_beq], by simp only [WW, argTmps, if_true, if_false, Nat.reduceLT, Nat.reduceEqDiff, Nat.zero_add, Nat.reduceAdd, List.getElem?_toArray, List.getElem?_cons_zero, List.getElem?_cons_succ, List.length_cons, List.length_nil, Option.map_some, reduceCtorEq, Nat.succ_ne_self, Nat.one_ne_zero, Nat.zero_ne_one, Option.some_beq_some, beq_self_eq_true, Bool.not_true, Bool.not_false, Bool.true_beq, Bool.false_beq]; rfl⟩ ?_
  rintro m fr σ5 K ⟨i, t, a, c, hm, hma, rfl, hlt, hc, hcs, hrec, hra, hrs, hJ, f1, f3, f4, f5⟩ kn ke kr
  have fc := hrec.fit
  simp only [WW, argTmps, if_true, if_false, Nat.reduceLT, Nat.reduceEqDiff, Nat.zero_add, Nat.reduceAdd, List.getElem?_toArray, List.getElem?_cons_zero, List.getElem?_cons_succ, List.length_cons, List.length_nil, Option.map_some, reduceCtorEq, Nat.succ_ne_self, Nat.one_ne_zero, Nat.zero_ne_one, Option.some_beq_some, beq_self_eq_true, Bool.not_true, Bool.not_false, Bool.true_beq, Bool.false_beq, WT, f3, f4, f5, natle (show i ≤ many s by omega), hc, ldC_all fc.2]
  refine (backup51_ok (rec_sub hrec fun id h => h.1) (right_size hra) hra).mono ?_
  rintro r σ6 ⟨c', rfl, hrec', g6⟩
  have fc' := hrec'.fit
  have b6 := g6.le
  obtain ⟨x, hx⟩ : ∃ x, takeP a.qs a.backup = x := ⟨_, rfl⟩
  obtain ⟨σ7, e7, g7, n7, c7, c71, z1, z2⟩ := two_var_ex σ6 c' x.2.2.1
  have G7 := g6.trans g7
  have hc7 := G7.cells hlt hc
  obtain ⟨σ8, e8⟩ : ∃ σ8, σ7.put σ2.next (.arr 0 c') = σ8 := ⟨_, rfl⟩
  have n8 : σ8.next = σ7.next := by rw [← e8, next_put]
  have get8 : ∀ k, k ≠ σ2.next → σ8.get k = σ7.get k := fun k h => by rw [← e8, get_put, if_neg h]
  have c28 : cellsAt σ8 σ2.next 0 = some c' := by rw [← e8]; exact put_cells
  have cs8 : cellsAt σ8 σ.next 0 = some ca := cells_same (get8 _ (by omega)) (G7.cells (by omega) hcs)
  have hrs8 : ReC (· < σ.next) σ8 ca s := rec_move hrs (fun id h => (get8 id (by omega)).trans (G7.get id (by omega))) fun _ h => h
  rw [hx] at hrec' ⊢
  have hrec8 : ReC (fun id => id < σ8.next ∧ id ≠ σ2.next) σ8 c' { a with qs := x.1, backup := x.2.1, busy := x.2.2.2 && a.busy } := rec_move hrec' (fun id h => (get8 id (by omega)).trans (g7.get id h.2)) fun id h => ⟨by omega, by omega⟩
  rcases takeP_cases (right_q hra) a.backup with ⟨ht, hend⟩ | ⟨qs', left, rx, rest, ht, tk⟩
  · obtain rfl : x = (a.qs, [], zRx, false) := hx.symm.trans ht
    simp only [Bool.false_and] at hrec8 e7 ⊢
    simp only [WW, argTmps, if_true, if_false, Nat.reduceLT, Nat.reduceEqDiff, Nat.zero_add, Nat.reduceAdd, List.getElem?_toArray, List.getElem?_cons_zero, List.getElem?_cons_succ, List.length_cons, List.length_nil, Option.map_some, reduceCtorEq, Nat.succ_ne_self, Nat.one_ne_zero, Nat.zero_ne_one, Option.some_beq_some, beq_self_eq_true, Bool.not_true, Bool.not_false, Bool.true_beq, Bool.false_beq, WT, al64, al87, next_add, z1, z2, st64 (c := c') (z := [.nils, .nils, .nils, .bool false]) fc'.1 fc'.2 rfl, st87, e7, decide_true, c7, ldC_all fc'.2, f3, hc7, st64 (c := c') (z := c) fc'.1 fc'.2 fc.2, e8, ke, kr]
    obtain ⟨wq, ws, wb, rfl, k1, k2, k3⟩ := hrec8
    have lb := k3.len und40
    simp only [WW, argTmps, if_true, if_false, Nat.reduceLT, Nat.reduceEqDiff, Nat.zero_add, Nat.reduceAdd, List.getElem?_toArray, List.getElem?_cons_zero, List.getElem?_cons_succ, List.length_cons, List.length_nil, Option.map_some, reduceCtorEq, Nat.succ_ne_self, Nat.one_ne_zero, Nat.zero_ne_one, Option.some_beq_some, beq_self_eq_true, Bool.not_true, Bool.not_false, Bool.true_beq, Bool.false_beq, WT, f3, c28, lb, List.length_nil, decide_eq_true (show ((0 : Nat) : Int) = 0 by rfl)]
    clear kn ke kr
    have hsb := hs.backup
    unfold Bd at hsb
    refine Co_loop (fun m fr σ9 => ∃ j t, m + j = s.backup.length ∧ fr = ⟨t, [], 60, none⟩ ∧ Gro σ8 σ9 ∧ getT t 1 = .ptr σ.next 0 0 ∧ getT t 3 = .ptr σ2.next 0 0 ∧ getT t 10 = .int .i64 (j : Nat)) s.backup.length
      ⟨0, _, rfl, rfl, Gro.refl _, by simp only [WW, argTmps, if_true, if_false, Nat.reduceLT, Nat.reduceEqDiff, Nat.zero_add, Nat.reduceAdd, List.getElem?_toArray, List.getElem?_cons_zero, List.getElem?_cons_succ, List.length_cons, List.length_nil, Option.map_some, reduceCtorEq, Nat.succ_ne_self, Nat.one_ne_zero, Nat.zero_ne_one, Option.some_beq_some, beq_self_eq_true, Bool.not_true, Bool.not_false, Bool.true_beq, Bool.false_beq]; exact f1, by simp only [WW, argTmps, if_true, if_false, Nat.reduceLT, Nat.reduceEqDiff, Nat.zero_add, Nat.reduceAdd, List.getElem?_toArray, List.getElem?_cons_zero, List.getElem?_cons_succ, List.length_cons, List.length_nil, Option.map_some, reduceCtorEq, Nat.succ_ne_self, Nat.one_ne_zero, Nat.zero_ne_one, Option.some_beq_some, beq_self_eq_true, Bool.not_true, Bool.not_false, Bool.true_beq, Bool.false_beq]; exact f3, by simp only [WW, argTmps, if_true, if_false, Nat.reduceLT, Nat.reduceEqDiff, Nat.zero_add, Nat.reduceAdd, List.getElem?_toArray, List.getElem?_cons_zero, List.getElem?_cons_succ, List.length_cons, List.length_nil, Option.map_some, reduceCtorEq, Nat.succ_ne_self, Nat.one_ne_zero, Nat.zero_ne_one, Option.some_beq_some, beq_self_eq_true, Bool.not_true, Bool.not_false, Bool.true_beq, Bool.false_beq]; rfl⟩ ?_
    rintro m2 fr σ9 K ⟨j, t, hm2, rfl, g9, f1, f3, f10⟩ kn ke kr
    have b9 := g9.le
    have cs9 := g9.cells (by omega) cs8
    have c29 := g9.cells (by omega) c28
    have hrs9 : ReC (· < σ.next) σ9 ca s := rec_move hrs8 (fun id h => g9.get id (by omega)) fun _ h => h
    obtain ⟨vq, vs, vb, rfl, q1, q2, q3⟩ := hrs9
    have ls := q3.len und40
    simp only [WW, argTmps, if_true, if_false, Nat.reduceLT, Nat.reduceEqDiff, Nat.zero_add, Nat.reduceAdd, List.getElem?_toArray, List.getElem?_cons_zero, List.getElem?_cons_succ, List.length_cons, List.length_nil, Option.map_some, reduceCtorEq, Nat.succ_ne_self, Nat.one_ne_zero, Nat.zero_ne_one, Option.some_beq_some, beq_self_eq_true, Bool.not_true, Bool.not_false, Bool.true_beq, Bool.false_beq, WT, f1, f10, cs9, ls]
    by_cases hj : j < s.backup.length
    case neg =>
      simp only [natge hj, WW, argTmps, if_true, if_false, Nat.reduceLT, Nat.reduceEqDiff, Nat.zero_add, Nat.reduceAdd, List.getElem?_toArray, List.getElem?_cons_zero, List.getElem?_cons_succ, List.length_cons, List.length_nil, Option.map_some, reduceCtorEq, Nat.succ_ne_self, Nat.one_ne_zero, Nat.zero_ne_one, Option.some_beq_some, beq_self_eq_true, Bool.not_true, Bool.not_false, Bool.true_beq, Bool.false_beq, WT, ke, kr]
      exact ret _ _ (by simp only [WW, argTmps, if_true, if_false, Nat.reduceLT, Nat.reduceEqDiff, Nat.zero_add, Nat.reduceAdd, List.getElem?_toArray, List.getElem?_cons_zero, List.getElem?_cons_succ, List.length_cons, List.length_nil, Option.map_some, reduceCtorEq, Nat.succ_ne_self, Nat.one_ne_zero, Nat.zero_ne_one, Option.some_beq_some, beq_self_eq_true, Bool.not_true, Bool.not_false, Bool.true_beq, Bool.false_beq])
    obtain ⟨y, hy⟩ := get_some hj
    obtain ⟨cc, u1, rfl, _⟩ := q3.elt hy
    simp only [natlt hj, WW, argTmps, if_true, if_false, Nat.reduceLT, Nat.reduceEqDiff, Nat.zero_add, Nat.reduceAdd, List.getElem?_toArray, List.getElem?_cons_zero, List.getElem?_cons_succ, List.length_cons, List.length_nil, Option.map_some, reduceCtorEq, Nat.succ_ne_self, Nat.one_ne_zero, Nat.zero_ne_one, Option.some_beq_some, beq_self_eq_true, Bool.not_true, Bool.not_false, Bool.true_beq, Bool.false_beq]
    refine Co_draw [] [0, 1, 2, 3, 4, 5, 6, 7, 8] (by kernel_rfl) (by kernel_rfl) (by kernel_rfl) ?_
    simp only [WW, argTmps, if_true, if_false, Nat.reduceLT, Nat.reduceEqDiff, Nat.zero_add, Nat.reduceAdd, List.getElem?_toArray, List.getElem?_cons_zero, List.getElem?_cons_succ, List.length_cons, List.length_nil, Option.map_some, reduceCtorEq, Nat.succ_ne_self, Nat.one_ne_zero, Nat.zero_ne_one, Option.some_beq_some, beq_self_eq_true, Bool.not_true, Bool.not_false, Bool.true_beq, Bool.false_beq, WD, and_true, true_and, and_self, WT, f1, f3, f10, c29, cs9, ldC_all (n := 4) (cells := [wq, ws, wb, .bool false]) rfl, u1.ix und40 sz3, u1.ld0 ag3 (by omega) rfl]
    refine (waiting_ok (s := { a with backup := [], busy := false }) (⟨wq, ws, wb, rfl, k1.keep (fun id h => g9.get id h.1) (fun id h => by omega) (fun _ _ h => h.keep (fun id h => g9.get id h.1) fun id h => by omega), k2.keep (fun id h => g9.get id h.1) (fun id h => by omega) (fun _ _ h => h.keep (fun id h => g9.get id h.1) fun id h => by omega), k3.keep (fun id h => g9.get id h.1) (fun id h => by omega) fun _ _ h => h⟩ : ReC (· < σ9.next) σ9 _ _) (right_size hra).qs).mono ?_
    rintro w σ10 ⟨hw, g10⟩
    have hw0 : waitL a.qs y = [] := by
      rcases hJ y (List.mem_of_getElem? hy) with h | h
      · exact hend y h
      · exact h
    simp only at hw
    rw [hw0] at hw
    have lw := len_any hw und79 (T := Mq.T)
    simp only [WW, argTmps, if_true, if_false, Nat.reduceLT, Nat.reduceEqDiff, Nat.zero_add, Nat.reduceAdd, List.getElem?_toArray, List.getElem?_cons_zero, List.getElem?_cons_succ, List.length_cons, List.length_nil, Option.map_some, reduceCtorEq, Nat.succ_ne_self, Nat.one_ne_zero, Nat.zero_ne_one, Option.some_beq_some, beq_self_eq_true, Bool.not_true, Bool.not_false, Bool.true_beq, Bool.false_beq, WD, and_true, true_and, and_self, WT, lw, List.length_nil, decide_eq_true (show ((0 : Nat) : Int) = 0 by rfl), f10, wrapS (show j < 1000000000000 by omega)]
    exact kn (m2 - 1) _ _ (by omega) ⟨j + 1, _, by omega, rfl, g9.trans g10, by simp only [WW, argTmps, if_true, if_false, Nat.reduceLT, Nat.reduceEqDiff, Nat.zero_add, Nat.reduceAdd, List.getElem?_toArray, List.getElem?_cons_zero, List.getElem?_cons_succ, List.length_cons, List.length_nil, Option.map_some, reduceCtorEq, Nat.succ_ne_self, Nat.one_ne_zero, Nat.zero_ne_one, Option.some_beq_some, beq_self_eq_true, Bool.not_true, Bool.not_false, Bool.true_beq, Bool.false_beq]; exact f1, by simp only [WW, argTmps, if_true, if_false, Nat.reduceLT, Nat.reduceEqDiff, Nat.zero_add, Nat.reduceAdd, List.getElem?_toArray, List.getElem?_cons_zero, List.getElem?_cons_succ, List.length_cons, List.length_nil, Option.map_some, reduceCtorEq, Nat.succ_ne_self, Nat.one_ne_zero, Nat.zero_ne_one, Option.some_beq_some, beq_self_eq_true, Bool.not_true, Bool.not_false, Bool.true_beq, Bool.false_beq]; exact f3, by simp only [WW, argTmps, if_true, if_false, Nat.reduceLT, Nat.reduceEqDiff, Nat.zero_add, Nat.reduceAdd, List.getElem?_toArray, List.getElem?_cons_zero, List.getElem?_cons_succ, List.length_cons, List.length_nil, Option.map_some, reduceCtorEq, Nat.succ_ne_self, Nat.one_ne_zero, Nat.zero_ne_one, Option.some_beq_some, beq_self_eq_true, Bool.not_true, Bool.not_false, Bool.true_beq, Bool.false_beq]⟩
  · obtain rfl : x = (qs', left, rx, true) := hx.symm.trans ht
    simp only [Bool.true_and] at hrec8 e7 ⊢
    simp only [WW, argTmps, if_true, if_false, Nat.reduceLT, Nat.reduceEqDiff, Nat.zero_add, Nat.reduceAdd, List.getElem?_toArray, List.getElem?_cons_zero, List.getElem?_cons_succ, List.length_cons, List.length_nil, Option.map_some, reduceCtorEq, Nat.succ_ne_self, Nat.one_ne_zero, Nat.zero_ne_one, Option.some_beq_some, beq_self_eq_true, Bool.not_true, Bool.not_false, Bool.true_beq, Bool.false_beq, WT, al64, al87, next_add, z1, z2, st64 (c := c') (z := [.nils, .nils, .nils, .bool false]) fc'.1 fc'.2 rfl, st87, e7, decide_true, c7, ldC_all fc'.2, f3, hc7, st64 (c := c') (z := c) fc'.1 fc'.2 fc.2, e8, f5, wrapS (show i < 1000000000000 by omega)]
    have hra' : RightP { a with qs := qs', backup := left } := right_took hra tk.right (by have := tk.sum; omega) (els_sub hra.backup tk.sub tk.short) a.busy
    have hsum : many { a with qs := qs', backup := left } + 1 = many a := tk.sum
    exact kn (m - 1) _ _ (by omega) ⟨i + 1, _, { a with qs := qs', backup := left }, c', by omega, by omega, rfl, by omega, c28, cs8, hrec8, hra', hrs8,
      fun h hh => by
        rcases hJ h hh with h1 | h1
        · exact tk.all h h1
        · exact .inr (tk.old h h1),
      by simp only [WW, argTmps, if_true, if_false, Nat.reduceLT, Nat.reduceEqDiff, Nat.zero_add, Nat.reduceAdd, List.getElem?_toArray, List.getElem?_cons_zero, List.getElem?_cons_succ, List.length_cons, List.length_nil, Option.map_some, reduceCtorEq, Nat.succ_ne_self, Nat.one_ne_zero, Nat.zero_ne_one, Option.some_beq_some, beq_self_eq_true, Bool.not_true, Bool.not_false, Bool.true_beq, Bool.false_beq]; exact f1, by simp only [WW, argTmps, if_true, if_false, Nat.reduceLT, Nat.reduceEqDiff, Nat.zero_add, Nat.reduceAdd, List.getElem?_toArray, List.getElem?_cons_zero, List.getElem?_cons_succ, List.length_cons, List.length_nil, Option.map_some, reduceCtorEq, Nat.succ_ne_self, Nat.one_ne_zero, Nat.zero_ne_one, Option.some_beq_some, beq_self_eq_true, Bool.not_true, Bool.not_false, Bool.true_beq, Bool.false_beq]; exact f3, by simp only [WW, argTmps, if_true, if_false, Nat.reduceLT, Nat.reduceEqDiff, Nat.zero_add, Nat.reduceAdd, List.getElem?_toArray, List.getElem?_cons_zero, List.getElem?_cons_succ, List.length_cons, List.length_nil, Option.map_some, reduceCtorEq, Nat.succ_ne_self, Nat.one_ne_zero, Nat.zero_ne_one, Option.some_beq_some, beq_self_eq_true, Bool.not_true, Bool.not_false, Bool.true_beq, Bool.false_beq]; exact f4, by simp only [WW, argTmps, if_true, if_false, Nat.reduceLT, Nat.reduceEqDiff, Nat.zero_add, Nat.reduceAdd, List.getElem?_toArray, List.getElem?_cons_zero, List.getElem?_cons_succ, List.length_cons, List.length_nil, Option.map_some, reduceCtorEq, Nat.succ_ne_self, Nat.one_ne_zero, Nat.zero_ne_one, Option.some_beq_some, beq_self_eq_true, Bool.not_true, Bool.not_false, Bool.true_beq, Bool.false_beq]⟩
end Go.Proofs.YtmchghdmejbblaaGreatDoor

namespace Go.Proofs.YtmchghdmejbblaaGreatDoor.reactBackup
open Go Go.Ab Go.RowKit Go.ChangeShapes Go.WideShapes Go.ChangeAt

set_option maxRecDepth 100000 in
theorem contract (H : Type) (enc : TypeId × Value → H) (W : World) (base : Nat) (args : Array Value) (ds gs : List (DataW H)) (before : List MemPlace)
    (hval : ∀ (j : Nat) t v, Tryz.f12.params[j]? = some t → args[j]? = some v → Value.okWide Tryz.prog W .any base t v)
    (hW : DataW.Whole enc Tryz.prog Tryz.f12.params.toList Rows.reactBackupSpec.vars false W args.toList ds gs before) (hk : Rows.uptoSmall H (ds ++ gs) = true) :
    Calls Tryz.prog 12 args W fun e W' => ∃ v, e = .returned v ∧ Rows.reactBackupSpec.post enc Tryz.prog Tryz.f12 false true false false W args v W' := by
  have hW' := hW
  obtain ⟨p, q, hA0, hV, rfl, hfz, hnd⟩ := hW
  have hA : DataW.TrodAll enc Tryz.prog W 0 (fun _ => true) true Tryz.f12.params.toList args.toList ds p := hA0
  rw [Tryz.params12] at hA hval
  obtain ⟨v0, vs0, d0, ds0, p0, q0, hargs, rfl, rfl, h0, r0⟩ := trodAll_cons hA
  obtain ⟨rfl, rfl, rfl⟩ := trodAll_nil r0
  obtain rfl : args = #[v0] := by cases args; simp_all
  obtain ⟨rfl, rfl⟩ := trodVars_none hV
  obtain ⟨cs, rfl, _⟩ := okWide_struct Tryz.underlying64 (hval 0 64 v0 rfl rfl)
  obtain ⟨fuel, ht⟩ := h0
  obtain ⟨r', σ', avs, s, st, hv, hrec, hlen, hone, hsz⟩ := (adm_re (enc := enc) (W := W) (K := bulkK H)).lay fuel _ d0 p0 ht _ _ (r0_begin W)
  have hb : Rows.uptoBulkAll ([d0] ++ []) ≤ 1048576 := of_decide_eq_true hk
  have hb : Rows.uptoBulk d0 ≤ 1048576 := by
    simp only [List.append_nil, Rows.uptoBulkAll] at hb
    omega
  have hs : s.ok := re_ok (Nat.le_trans hsz hb)
  refine (calls_of (fn := Tryz.f12) Tryz.func12 rfl (by kernel_rfl) (law12_ok hrec hs) st.rel (xs := #[.agg cs]) (VRs.one ⟨cs, rfl, hv⟩)).mono fun e W2 he => ?_
  have hts : ∀ t ∈ Tryz.f12.params.toList, Tryz.prog.readableRec t = true ∧ t < Tryz.prog.types.size := by
    rw [Tryz.params12]
    intro t ht
    have : t = 64 := by simpa using ht
    subst this
    exact ⟨by kernel_rfl, of_decide_eq_true (by kernel_rfl)⟩
  exact ⟨_, he.1, law_post (fn := Tryz.f12) (s := Rows.reactBackupSpec) rfl rfl hts hW' rfl he.2⟩

def args0 : Array Value := #[.agg #[.slice none 0 0, .slice none 0 0, .slice none 0 0, .bool false]]
theorem laid_met (os : Os) : laidMet Tryz.prog Rows.reactBackupUptoRow.laid ((laidWorld os).forCall (fun _ _ => 0) ⟨#[], args0, []⟩).memory :=
  laidMet_of_run' 8 (by kernel_rfl) (by kernel_rfl)
theorem reads (os : Os) {H : Type} (enc : TypeId × Value → H) : ∃ places, DataW.whole enc Tryz.prog ((laidWorld os).forCall (fun _ _ => 0) ⟨#[], args0, []⟩).memory Tryz.f12.params.toList Rows.reactBackupSpec.vars false args0.toList 8 = some ([.agg [.nil, .nil, .nil, .lit (.bool false)]], [], places) :=
  ⟨[], by kernel_rfl⟩

set_option maxRecDepth 100000 in
theorem liftedUpto (os : Os) (started : os.Started) (H : Type) (enc : TypeId × Value → H) (F : Stop.Interp) :
    ReturnsInHanded {} Tryz.checked os 12 .any ((Rows.OpenSpec.upto Rows.reactBackupSpec).preRow enc Tryz.prog Tryz.f12 Rows.reactBackupUptoRow.domain false Rows.reactBackupUptoRow.laid) (((Rows.OpenSpec.upto Rows.reactBackupSpec).at F).post enc Tryz.prog Tryz.f12 false true false false) := by
  obtain ⟨places, hx⟩ := reads os enc
  refine returnsInHanded_of_row (C := Tryz.checked) (s := Rows.OpenSpec.upto Rows.reactBackupSpec) ownKnobOk started (by kernel_rfl) Tryz.func12
    (witness_row_at (enc := enc) (C := Tryz.checked) false (laidWorld os) args0 rfl (by kernel_rfl) (by kernel_rfl) (by kernel_rfl)
      (OpenSpec.preRow_of_cond 8 hx (by kernel_rfl) (fun k hk => by cases hk; kernel_rfl) (by kernel_rfl) (laid_met os))) ?_
  intro W base args ds gs before hval hW _ hcond _ hL _ _
  exact contract H enc W base args ds gs before hval hW (hcond _ rfl)

theorem saidUpto : Rows.ReactBackupUptoSaid :=
  OpenClaim.holds_of_cond 12 Tryz.f12 rfl rfl rfl rfl rfl rfl rfl ⟨rfl, rfl, rfl, rfl, rfl⟩ rfl rfl rfl rfl rfl (by kernel_rfl) Tryz.func12 closed
    (of_decide_eq_true (by kernel_rfl)) (by unfold Func.isWrapper; first | (rw [if_pos (by decide +kernel)]; kernel_rfl) | (rw [if_neg (by decide +kernel)]; exact ⟨rfl, rfl⟩))
    (fun os started H enc _ F => by rw [OpenClaim.pre_eq_preRow]; exact liftedUpto os started H enc F)

theorem plain (f : FuncId) (fn : Func) (hf : Tryz.pinned.checked.prog.funcNamed "canopy/canopylaw26.ReactBackup" = some f) (hfn : Tryz.pinned.checked.prog.funcs[f]? = some fn) :
    false = Tryz.pinned.checked.prog.looks [] ∧ ∀ (j : Nat) t, fn.params[j]? = some t → Tryz.pinned.checked.prog.wantsStandIn t = false := by
  obtain rfl : f = 12 := Option.some.inj ((show Tryz.prog.funcNamed "canopy/canopylaw26.ReactBackup" = some 12 by kernel_rfl).symm.trans hf) |>.symm
  obtain rfl : fn = Tryz.f12 := (Option.some.inj (Tryz.func12.symm.trans hfn)).symm
  refine ⟨by kernel_rfl, fun j t ht => ?_⟩
  rw [Tryz.params12] at ht
  obtain rfl : t = 64 := by simpa using Array.mem_of_getElem? ht
  exact (show Tryz.prog.wantsStandIn 64 = false by kernel_rfl)

theorem cardUpto : Rows.ReactBackupUptoCardSaid :=
  Claim7.holds_tied_plain_at .later [] _ _ _ _ saidUpto (fun _ h => by cases h) (by kernel_rfl) (fun _ h => by cases h) reactBackupUpto_row_tie rfl ⟨rfl, rfl⟩ (by kernel_rfl) rfl plain (by kernel_rfl)
#print axioms cardUpto
end Go.Proofs.YtmchghdmejbblaaGreatDoor.reactBackup
