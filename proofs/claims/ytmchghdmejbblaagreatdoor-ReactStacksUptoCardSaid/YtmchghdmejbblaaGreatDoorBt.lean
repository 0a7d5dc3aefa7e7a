/- ReactStacks: what the law's code yields. -/
import Derived.Test.YtmchghdmejbblaaGreatDoorBs
set_option linter.unusedSimpArgs false
set_option linter.unusedVariables false
noncomputable section
namespace Go.Proofs.YtmchghdmejbblaaGreatDoor
open Go Go.Ab Go.RowKit

theorem empty_ok : emptyRe.ok := ⟨Nat.zero_le _, Nat.zero_le _, Nat.zero_le _, fun l h => (by cases h), Nat.zero_le _⟩
theorem push_ok (s : Re) (hs : s.ok) : (push s).1.ok := by
  unfold push
  split
  · exact empty_ok
  · split
    · exact empty_ok
    · refine ⟨hs.qs, hs.many, ?_, fun l h => ?_, hs.backup⟩
      · simp only [List.length_append, List.length_cons, List.length_nil]
        unfold Bd
        omega
      · rcases List.mem_append.1 h with h | h
        · exact hs.lists l h
        · simp at h
          subst h
          exact Nat.zero_le _
theorem pop_ok (s : Re) (hs : s.ok) : (pop s).1.ok ∧ (pop s).2.1.length ≤ Bd := by
  unfold pop
  split
  · exact ⟨empty_ok, Nat.zero_le _⟩
  · split
    · exact ⟨empty_ok, Nat.zero_le _⟩
    · rename_i h
      refine ⟨⟨hs.qs, hs.many, ?_, fun l h => hs.lists l (List.dropLast_subset _ h), hs.backup⟩, ?_⟩
      · have := hs.stack
        simp only [List.length_dropLast]
        omega
      · simp only
        exact hs.lists _ (List.mem_of_getElem? (drop_last_get (by omega)))
theorem right_eq (s : Re) : (decide ((if right s then (0 : Int) else 15) = 0) == right s) = true := by
  cases right s <;> rfl

set_option maxRecDepth 100000 in
theorem law7_ok {σ : St} {ca : List AV} {s : Re} (ha : ReC (· < σ.next) σ ca s) (hs : s.ok) : Ca Mq 7 [.agg ca] σ fun r _ => r = .bool true := by
  have fa := ha.fit
  obtain ⟨σ1, e1⟩ : ∃ σ1, σ.add (.arr 0 ca) = σ1 := ⟨_, rfl⟩
  have g1 : Gro σ σ1 := by rw [← e1]; exact Gro.add _ _
  have n1 : σ1.next = σ.next + 1 := by rw [← e1]; rfl
  have c1 : cellsAt σ1 σ.next 0 = some ca := by rw [← e1, cellsAt_add_new]
  have ha1 := ha.gro g1
  refine Ca.enter (fn := Tryz.f7) rfl (by kernel_rfl) rfl (by kernel_rfl) (Nat.le_of_ble_eq_true rfl) 77 _ rfl rfl ?_
  generalize hQ : Leave Mq Tryz.f7 _ = Q
  simp only [WW, argTmps, if_true, if_false, Nat.reduceLT, Nat.reduceEqDiff, Nat.zero_add, Nat.reduceAdd, List.getElem?_toArray, List.getElem?_cons_zero, List.getElem?_cons_succ, List.length_cons, List.length_nil, Option.map_some, reduceCtorEq, Nat.succ_ne_self, Nat.one_ne_zero, Nat.zero_ne_one, Option.some_beq_some, beq_self_eq_true, Bool.not_true, Bool.not_false, Bool.true_beq, Bool.false_beq, WT, opNew_eq fa.1, AV.cells, e1, c1, ldC_all fa.2]
  refine (copy_ok ha1 hs).mono ?_
  rintro r σ2 ⟨wq, ws, wb, rfl, ho, g2⟩
  have hg2 : ReC (· < σ2.next) σ2 [wq, ws, wb, .bool s.busy] s := (ho.reads s.busy).keep (fun _ _ => rfl) fun _ h => h.2
  obtain ⟨cg, ecg⟩ : ∃ cg, [wq, ws, wb, .bool s.busy] = cg := ⟨_, rfl⟩
  rw [ecg] at hg2 ⊢
  have fg := hg2.fit
  obtain ⟨σ3, e3, g3, n3, c3⟩ := var_ex σ2 [.nils, .nils, .nils, .bool false] cg
  have hg3 := hg2.gro g3
  simp only [WW, argTmps, if_true, if_false, Nat.reduceLT, Nat.reduceEqDiff, Nat.zero_add, Nat.reduceAdd, List.getElem?_toArray, List.getElem?_cons_zero, List.getElem?_cons_succ, List.length_cons, List.length_nil, Option.map_some, reduceCtorEq, Nat.succ_ne_self, Nat.one_ne_zero, Nat.zero_ne_one, Option.some_beq_some, beq_self_eq_true, Bool.not_true, Bool.not_false, Bool.true_beq, Bool.false_beq, WT, al64, st64 (c := cg) (z := [.nils, .nils, .nils, .bool false]) fg.1 fg.2 rfl, e3, c3, ldC_all fg.2]
  refine (push33_ok hg3 hs).mono ?_
  rintro r σ4 ⟨c4, rfl, ha4, g4⟩
  have f4 := ha4.fit
  obtain ⟨σ5, e5, g5, n5, c45⟩ := var_ex σ4 [.nils, .nils, .nils, .bool false] c4
  have c15 := ((((g2.trans g3).trans g4).trans g5)).cells (by omega) c1
  have ha5 := ha1.gro (((g2.trans g3).trans g4).trans g5)
  simp only [WW, argTmps, if_true, if_false, Nat.reduceLT, Nat.reduceEqDiff, Nat.zero_add, Nat.reduceAdd, List.getElem?_toArray, List.getElem?_cons_zero, List.getElem?_cons_succ, List.length_cons, List.length_nil, Option.map_some, reduceCtorEq, Nat.succ_ne_self, Nat.one_ne_zero, Nat.zero_ne_one, Option.some_beq_some, beq_self_eq_true, Bool.not_true, Bool.not_false, Bool.true_beq, Bool.false_beq, WT, al64, st64 (c := c4) (z := [.nils, .nils, .nils, .bool false]) f4.1 f4.2 rfl, e5, c15, ldC_all fa.2]
  refine (push34_ok ha5 hs).mono ?_
  rintro r σ6 ⟨c6, rfl, ha6, g6⟩
  have f6 := ha6.fit
  obtain ⟨σ7, e7, g7, n7, c67⟩ := var_ex σ6 [.nils, .nils, .nils, .bool false] c6
  have g37 := ((g4.trans g5).trans g6).trans g7
  have c37 := g37.cells (by omega) c3
  simp only [WW, argTmps, if_true, if_false, Nat.reduceLT, Nat.reduceEqDiff, Nat.zero_add, Nat.reduceAdd, List.getElem?_toArray, List.getElem?_cons_zero, List.getElem?_cons_succ, List.length_cons, List.length_nil, Option.map_some, reduceCtorEq, Nat.succ_ne_self, Nat.one_ne_zero, Nat.zero_ne_one, Option.some_beq_some, beq_self_eq_true, Bool.not_true, Bool.not_false, Bool.true_beq, Bool.false_beq, WT, al64, st64 (c := c6) (z := [.nils, .nils, .nils, .bool false]) f6.1 f6.2 rfl, e7, c37, ldC_all fg.2]
  refine (pop35_ok (hg3.gro g37) hs).mono ?_
  rintro r σ8 ⟨c8, v10, rfl, ha8, hl8, g8⟩
  have f8 := ha8.fit
  obtain ⟨σ9, e9, g9, n9, c89⟩ := var_ex σ8 [.nils, .nils, .nils, .bool false] c8
  have g19 := (((g2.trans g3).trans g37).trans g8).trans g9
  have c19 := g19.cells (by omega) c1
  simp only [WW, argTmps, if_true, if_false, Nat.reduceLT, Nat.reduceEqDiff, Nat.zero_add, Nat.reduceAdd, List.getElem?_toArray, List.getElem?_cons_zero, List.getElem?_cons_succ, List.length_cons, List.length_nil, Option.map_some, reduceCtorEq, Nat.succ_ne_self, Nat.one_ne_zero, Nat.zero_ne_one, Option.some_beq_some, beq_self_eq_true, Bool.not_true, Bool.not_false, Bool.true_beq, Bool.false_beq, WT, al64, st64 (c := c8) (z := [.nils, .nils, .nils, .bool false]) f8.1 f8.2 rfl, e9, c19, ldC_all fa.2]
  refine (pop36_ok (ha1.gro g19) hs).mono ?_
  rintro r σ10 ⟨c11, v13, rfl, ha11, hl11, g10⟩
  have f11 := ha11.fit
  obtain ⟨σ11, e11, g11, n11, c1011⟩ := var_ex σ10 [.nils, .nils, .nils, .bool false] c11
  simp only [WW, argTmps, if_true, if_false, Nat.reduceLT, Nat.reduceEqDiff, Nat.zero_add, Nat.reduceAdd, List.getElem?_toArray, List.getElem?_cons_zero, List.getElem?_cons_succ, List.length_cons, List.length_nil, Option.map_some, reduceCtorEq, Nat.succ_ne_self, Nat.one_ne_zero, Nat.zero_ne_one, Option.some_beq_some, beq_self_eq_true, Bool.not_true, Bool.not_false, Bool.true_beq, Bool.false_beq, WT, al64, st64 (c := c11) (z := [.nils, .nils, .nils, .bool false]) f11.1 f11.2 rfl, e11]
  have b2 := g2.le
  have b4 := g4.le
  have b6 := g6.le
  have b8 := g8.le
  have b10 := g10.le
  have G10 := g10.trans g11
  have kA : ∀ τ, Gro σ11 τ → cellsAt τ σ.next 0 = some ca := fun τ g => ((g19.trans G10).trans g).cells (by omega) c1
  have kG : ∀ τ, Gro σ11 τ → cellsAt τ σ2.next 0 = some cg := fun τ g => (((((g37).trans g8).trans g9).trans G10).trans g).cells (by omega) c3
  have k8 : ∀ τ, Gro σ11 τ → cellsAt τ σ8.next 0 = some c8 := fun τ g => ((G10).trans g).cells (by omega) c89
  have k11 : ∀ τ, Gro σ11 τ → cellsAt τ σ10.next 0 = some c11 := fun τ g => g.cells (by omega) c1011
  have k4 : cellsAt σ11 σ4.next 0 = some c4 := (((((g6.trans g7).trans g8).trans g9).trans G10)).cells (by omega) c45
  have k6 : cellsAt σ11 σ6.next 0 = some c6 := ((((g8).trans g9).trans G10)).cells (by omega) c67
  have a4 : ReC (· < σ11.next) σ11 c4 (push s).1 := ha4.gro ((((((g5.trans g6).trans g7).trans g8).trans g9).trans G10))
  have a6 : ReC (· < σ11.next) σ11 c6 (push s).1 := ha6.gro (((((g7).trans g8).trans g9).trans G10))
  have a8 : ReC (· < σ11.next) σ11 c8 (pop s).1 := ha8.gro ((g9.trans G10))
  have a11 : ReC (· < σ11.next) σ11 c11 (pop s).1 := ha11.gro g11
  have aA : ReC (· < σ11.next) σ11 ca s := ha1.gro (g19.trans G10)
  have aG : ReC (· < σ11.next) σ11 cg s := hg3.gro (((g37.trans g8).trans g9).trans G10)
  have r10 : Rd (· < σ11.next) σ11 1 EI v10 (pop s).2.1 := rd_gro hl8 (g9.trans G10)
  have r13 : Rd (· < σ11.next) σ11 1 EI v13 (pop s).2.1 := rd_gro hl11 g11
  refine Co_draw [] [0, 1, 2, 3, 4, 5, 6, 7, 8, 9, 10, 11, 12, 13, 14, 15, 16, 17, 18, 19, 20, 21, 22, 23, 24, 25, 27, 28, 26, 29, 30, 31, 32, 33, 34, 35, 36, 37, 38, 39] (by kernel_rfl) (by kernel_rfl) (by kernel_rfl) ?_
  have R0 := Gro.refl σ11
  simp only [WW, argTmps, if_true, if_false, Nat.reduceLT, Nat.reduceEqDiff, Nat.zero_add, Nat.reduceAdd, List.getElem?_toArray, List.getElem?_cons_zero, List.getElem?_cons_succ, List.length_cons, List.length_nil, Option.map_some, reduceCtorEq, Nat.succ_ne_self, Nat.one_ne_zero, Nat.zero_ne_one, Option.some_beq_some, beq_self_eq_true, Bool.not_true, Bool.not_false, Bool.true_beq, Bool.false_beq, WD, and_true, true_and, and_self, WT, k4, k6, ldC_all f4.2, ldC_all f6.2]
  refine (same_ok a4 a6 (push_ok s hs)).mono ?_
  rintro r τ1 ⟨rfl, h1⟩
  simp only [WW, argTmps, if_true, if_false, Nat.reduceLT, Nat.reduceEqDiff, Nat.zero_add, Nat.reduceAdd, List.getElem?_toArray, List.getElem?_cons_zero, List.getElem?_cons_succ, List.length_cons, List.length_nil, Option.map_some, reduceCtorEq, Nat.succ_ne_self, Nat.one_ne_zero, Nat.zero_ne_one, Option.some_beq_some, beq_self_eq_true, Bool.not_true, Bool.not_false, Bool.true_beq, Bool.false_beq, WD, and_true, true_and, and_self, WT, decide_true, k8 _ R0, k11 _ R0, k8 _ h1, k11 _ h1, ldC_all f8.2, ldC_all f11.2]
  refine (same_ok (a8.gro h1) (a11.gro h1) (pop_ok s hs).1).mono ?_
  rintro r τ2 ⟨rfl, h2⟩
  have G2 := h1.trans h2
  simp only [WW, argTmps, if_true, if_false, Nat.reduceLT, Nat.reduceEqDiff, Nat.zero_add, Nat.reduceAdd, List.getElem?_toArray, List.getElem?_cons_zero, List.getElem?_cons_succ, List.length_cons, List.length_nil, Option.map_some, reduceCtorEq, Nat.succ_ne_self, Nat.one_ne_zero, Nat.zero_ne_one, Option.some_beq_some, beq_self_eq_true, Bool.not_true, Bool.not_false, Bool.true_beq, Bool.false_beq, WD, and_true, true_and, and_self, WT, decide_true]
  refine (ints_ok (rd_gro r10 G2) (rd_gro r13 G2) (pop_ok s hs).2).mono ?_
  rintro r τ3 ⟨rfl, rfl⟩
  simp only [WW, argTmps, if_true, if_false, Nat.reduceLT, Nat.reduceEqDiff, Nat.zero_add, Nat.reduceAdd, List.getElem?_toArray, List.getElem?_cons_zero, List.getElem?_cons_succ, List.length_cons, List.length_nil, Option.map_some, reduceCtorEq, Nat.succ_ne_self, Nat.one_ne_zero, Nat.zero_ne_one, Option.some_beq_some, beq_self_eq_true, Bool.not_true, Bool.not_false, Bool.true_beq, Bool.false_beq, WD, and_true, true_and, and_self, WT, decide_true, kA _ R0, kA _ h1, kA _ G2, ldC_all fa.2]
  refine (check_ok (aA.gro G2) hs).mono ?_
  rintro r τ4 ⟨rfl, h4⟩
  have G4 := G2.trans h4
  simp only [WW, argTmps, if_true, if_false, Nat.reduceLT, Nat.reduceEqDiff, Nat.zero_add, Nat.reduceAdd, List.getElem?_toArray, List.getElem?_cons_zero, List.getElem?_cons_succ, List.length_cons, List.length_nil, Option.map_some, reduceCtorEq, Nat.succ_ne_self, Nat.one_ne_zero, Nat.zero_ne_one, Option.some_beq_some, beq_self_eq_true, Bool.not_true, Bool.not_false, Bool.true_beq, Bool.false_beq, WD, and_true, true_and, and_self, WT, decide_true, kA _ R0, kA _ h1, kA _ G2, kA _ G4, ldC_all fa.2]
  refine (right_ok (aA.gro G4) hs).mono ?_
  rintro r τ5 ⟨rfl, h5⟩
  have G5 := G4.trans h5
  simp only [WW, argTmps, if_true, if_false, Nat.reduceLT, Nat.reduceEqDiff, Nat.zero_add, Nat.reduceAdd, List.getElem?_toArray, List.getElem?_cons_zero, List.getElem?_cons_succ, List.length_cons, List.length_nil, Option.map_some, reduceCtorEq, Nat.succ_ne_self, Nat.one_ne_zero, Nat.zero_ne_one, Option.some_beq_some, beq_self_eq_true, Bool.not_true, Bool.not_false, Bool.true_beq, Bool.false_beq, WD, and_true, true_and, and_self, WT, decide_true, bin_bool_eql (P := Mq.T) (e := 4) (by kernel_rfl) (by kernel_rfl), right_eq, kA _ R0, kA _ h1, kA _ G2, kA _ G4, kA _ G5, kG _ R0, kG _ h1, kG _ G2, kG _ G4, kG _ G5, ldC_all fa.2, ldC_all fg.2]
  refine (same_ok (aG.gro G5) (aA.gro G5) hs).mono ?_
  rintro r τ6 ⟨rfl, h6⟩
  simp only [WW, argTmps, if_true, if_false, Nat.reduceLT, Nat.reduceEqDiff, Nat.zero_add, Nat.reduceAdd, List.getElem?_toArray, List.getElem?_cons_zero, List.getElem?_cons_succ, List.length_cons, List.length_nil, Option.map_some, reduceCtorEq, Nat.succ_ne_self, Nat.one_ne_zero, Nat.zero_ne_one, Option.some_beq_some, beq_self_eq_true, Bool.not_true, Bool.not_false, Bool.true_beq, Bool.false_beq, WD, and_true, true_and, and_self, WT, decide_true]
  refine Ca.known (v := .bool true) rfl ?_
  simp only [WW, argTmps, if_true, if_false, Nat.reduceLT, Nat.reduceEqDiff, Nat.zero_add, Nat.reduceAdd, List.getElem?_toArray, List.getElem?_cons_zero, List.getElem?_cons_succ, List.length_cons, List.length_nil, Option.map_some, reduceCtorEq, Nat.succ_ne_self, Nat.one_ne_zero, Nat.zero_ne_one, Option.some_beq_some, beq_self_eq_true, Bool.not_true, Bool.not_false, Bool.true_beq, Bool.false_beq, WD, and_true, true_and, and_self, WT]
  subst hQ
  exact leave_tmp (d := 2) rfl (by simp only [WW, argTmps, if_true, if_false, Nat.reduceLT, Nat.reduceEqDiff, Nat.zero_add, Nat.reduceAdd, List.getElem?_toArray, List.getElem?_cons_zero, List.getElem?_cons_succ, List.length_cons, List.length_nil, Option.map_some, reduceCtorEq, Nat.succ_ne_self, Nat.one_ne_zero, Nat.zero_ne_one, Option.some_beq_some, beq_self_eq_true, Bool.not_true, Bool.not_false, Bool.true_beq, Bool.false_beq]) rfl
end Go.Proofs.YtmchghdmejbblaaGreatDoor
