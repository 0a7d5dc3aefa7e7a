/- canopyref26.Copy. -/
import Derived.Test.YtmchghdmejbblaaGreatDoorBp
set_option linter.unusedSimpArgs false
set_option linter.unusedVariables false
noncomputable section
namespace Go.Proofs.YtmchghdmejbblaaGreatDoor
open Go Go.Ab Go.RowKit

theorem elt_keep {p : Nat → Prop} {σ τ : St} {v : AV} {i n : Nat} {c : List AV} (h : Elt σ v i n c) (hv : v.at p) (k : Keeps p σ τ) : Elt τ v i n c := by
  obtain ⟨len, cells, h1, h2, h3⟩ := h
  exact ⟨len, cells, (elemsA_keep hv k).trans h1, h2, h3⟩

set_option maxRecDepth 100000 in
theorem copy_ok {σ : St} {ca : List AV} {s : Re} (ha : ReC (· < σ.next) σ ca s) (hs : s.ok) : Ca Mq 32 [.agg ca] σ fun r σ' => ∃ vq vs vb, r = .agg [vq, vs, vb, .bool s.busy] ∧ OutP σ.next σ' vq vs vb s.qs s.stack s.backup ∧ Gro σ σ' := by
  obtain ⟨σ3, e3⟩ : ∃ σ3, ((σ.add (.arr 0 ca)).add (.arr 0 [.nils, .nils, .nils, .bool false])).add (.arr 0 [.nils, .nils, .nils, .bool false]) = σ3 := ⟨_, rfl⟩
  have g3 : Gro σ σ3 := by rw [← e3]; exact ((Gro.add _ _).trans (Gro.add _ _)).trans (Gro.add _ _)
  have n3 : σ3.next = σ.next + 3 := by rw [← e3]; rfl
  have cA : cellsAt σ3 σ.next 0 = some ca := by
    rw [← e3, cellsAt_add_old (by rw [next_add, next_add]; omega), cellsAt_add_old (by rw [next_add]; omega), cellsAt_add_new]
  have cO : cellsAt σ3 (σ.next + 2) 0 = some [.nils, .nils, .nils, .bool false] := by
    rw [← e3]
    exact cellsAt_of get_new
  have fa := ha.fit
  have hq1 := hs.qs
  have hs1 := hs.stack
  have hb1 := hs.backup
  unfold Bd at hq1 hs1 hb1
  obtain ⟨vq, vs, vb, rfl, hq, hst, hbk⟩ := ha.gro g3
  refine Ca.enter (fn := Tryz.f32) rfl (by kernel_rfl) rfl (by kernel_rfl) (Nat.le_of_ble_eq_true rfl) 60 _ rfl rfl ?_
  generalize hQ : Leave Mq Tryz.f32 _ = Q
  simp only [WW, argTmps, if_true, if_false, Nat.reduceLT, Nat.reduceEqDiff, Nat.zero_add, Nat.reduceAdd, List.getElem?_toArray, List.getElem?_cons_zero, List.getElem?_cons_succ, List.length_cons, List.length_nil, Option.map_some, reduceCtorEq, Nat.succ_ne_self, Nat.one_ne_zero, Nat.zero_ne_one, Option.some_beq_some, beq_self_eq_true, Bool.not_true, Bool.not_false, Bool.true_beq, Bool.false_beq, WT, opNew_eq fa.1, AV.cells, al64, next_add]
  refine Co_draw [7] [2, 3, 4, 5, 0, 1, 6, 8] (by kernel_rfl) (by kernel_rfl) (by kernel_rfl) ?_
  obtain ⟨r, σ4, p1, hb4, g4⟩ := clone_app (T := Mq.T) und40 sz3 by3 zr3 rfl (by omega) (by omega) (by omega) hbk ei_one (by omega)
  obtain ⟨σ3', e3'⟩ : ∃ σ3', σ3.add (.arr 0 []) = σ3' := ⟨_, rfl⟩
  have g3' : Gro σ3 σ3' := by rw [← e3']; exact Gro.add _ _
  rw [e3', n3] at p1
  rw [n3] at hb4
  obtain ⟨cb, hb41, hb42⟩ := hb4
  have cO4 := g4.cells (by omega) cO
  have cA4 := g4.cells (by omega) cA
  have cA3 := g3'.cells (by omega) cA
  have st0 := OwnSt.begin (s := s) e3 g4 ⟨cb, hb41, hb42⟩
  obtain ⟨σ5, e5⟩ : ∃ σ5, σ4.put (σ.next + 2) (.arr 0 [.nils, .nils, r, .bool s.busy]) = σ5 := ⟨_, rfl⟩
  rw [e5] at st0
  have hq5 : Rd (· < σ.next) σ5 2 (EQ (· < σ.next) σ5) vq s.qs ∧ Rd (· < σ.next) σ5 1 (EL (· < σ.next) σ5) vs s.stack := by
    obtain ⟨vq', vs', vb', e, k1, k2, k3⟩ := ha
    cases e
    have kk : Keeps (· < σ.next) σ σ5 := fun id hi => st0.low id hi
    exact ⟨k1.keep kk (fun _ h => h) fun c a h => h.keep kk fun _ h => h, k2.keep kk (fun _ h => h) fun c a h => h.keep kk fun _ h => h⟩
  have hr1 := hb41.one
  simp only [WW, argTmps, if_true, if_false, Nat.reduceLT, Nat.reduceEqDiff, Nat.zero_add, Nat.reduceAdd, List.getElem?_toArray, List.getElem?_cons_zero, List.getElem?_cons_succ, List.length_cons, List.length_nil, Option.map_some, reduceCtorEq, Nat.succ_ne_self, Nat.one_ne_zero, Nat.zero_ne_one, Option.some_beq_some, beq_self_eq_true, Bool.not_true, Bool.not_false, Bool.true_beq, Bool.false_beq, WD, and_true, true_and, and_self, WT, al64, next_add, e3, Nat.reduceAdd, Nat.add_assoc, evParts_nil, evParts_cons, evP?_some, b0_40, e3', n3, cA, cA3, cA4, p1, bd64_32 hr1.2, cO4, st64 (c := [.nils, .nils, r, .bool s.busy]) (z := [.nils, .nils, .nils, .bool false]) (fr4 rfl rfl hr1.1) rfl rfl, e5]
  refine Co_loop (fun m fr σ1 => ∃ i t wq, m + i = s.qs.length ∧ fr = ⟨t, [], 60, none⟩ ∧ OwnSt σ [vq, vs, vb, .bool s.busy] s σ1 wq .nils r (s.qs.take i) [] ∧ getT t 1 = .ptr σ.next 0 0 ∧ getT t 2 = .ptr (σ.next + 1) 0 0 ∧ getT t 3 = .ptr (σ.next + 2) 0 0 ∧ getT t 4 = .int .i64 (i : Nat)) s.qs.length
    ⟨0, _, .nils, rfl, rfl, st0, by simp only [WW, argTmps, if_true, if_false, Nat.reduceLT, Nat.reduceEqDiff, Nat.zero_add, Nat.reduceAdd, List.getElem?_toArray, List.getElem?_cons_zero, List.getElem?_cons_succ, List.length_cons, List.length_nil, Option.map_some, reduceCtorEq, Nat.succ_ne_self, Nat.one_ne_zero, Nat.zero_ne_one, Option.some_beq_some, beq_self_eq_true, Bool.not_true, Bool.not_false, Bool.true_beq, Bool.false_beq], by simp only [WW, argTmps, if_true, if_false, Nat.reduceLT, Nat.reduceEqDiff, Nat.zero_add, Nat.reduceAdd, List.getElem?_toArray, List.getElem?_cons_zero, List.getElem?_cons_succ, List.length_cons, List.length_nil, Option.map_some, reduceCtorEq, Nat.succ_ne_self, Nat.one_ne_zero, Nat.zero_ne_one, Option.some_beq_some, beq_self_eq_true, Bool.not_true, Bool.not_false, Bool.true_beq, Bool.false_beq], by simp only [WW, argTmps, if_true, if_false, Nat.reduceLT, Nat.reduceEqDiff, Nat.zero_add, Nat.reduceAdd, List.getElem?_toArray, List.getElem?_cons_zero, List.getElem?_cons_succ, List.length_cons, List.length_nil, Option.map_some, reduceCtorEq, Nat.succ_ne_self, Nat.one_ne_zero, Nat.zero_ne_one, Option.some_beq_some, beq_self_eq_true, Bool.not_true, Bool.not_false, Bool.true_beq, Bool.false_beq], by simp only [WW, argTmps, if_true, if_false, Nat.reduceLT, Nat.reduceEqDiff, Nat.zero_add, Nat.reduceAdd, List.getElem?_toArray, List.getElem?_cons_zero, List.getElem?_cons_succ, List.length_cons, List.length_nil, Option.map_some, reduceCtorEq, Nat.succ_ne_self, Nat.one_ne_zero, Nat.zero_ne_one, Option.some_beq_some, beq_self_eq_true, Bool.not_true, Bool.not_false, Bool.true_beq, Bool.false_beq]; rfl⟩ ?_
  rintro m fr σ1 K ⟨i, t, wq, hm, rfl, st1, f1, f2, f3, f4⟩ kn ke kr
  have keep1 : Keeps (· < σ.next) σ5 σ1 := fun id hi => (st1.low id hi).trans (st0.low id hi).symm
  have hqk := hq5.1.keep keep1 (fun _ h => h) (E' := EQ (· < σ.next) σ1) fun c a h => h.keep keep1 fun _ h => h
  have l1 := hqk.len und61
  simp only [WW, argTmps, if_true, if_false, Nat.reduceLT, Nat.reduceEqDiff, Nat.zero_add, Nat.reduceAdd, List.getElem?_toArray, List.getElem?_cons_zero, List.getElem?_cons_succ, List.length_cons, List.length_nil, Option.map_some, reduceCtorEq, Nat.succ_ne_self, Nat.one_ne_zero, Nat.zero_ne_one, Option.some_beq_some, beq_self_eq_true, Bool.not_true, Bool.not_false, Bool.true_beq, Bool.false_beq, WT, f1, f4, st1.c0, l1]
  by_cases hi : i < s.qs.length
  case neg =>
    rw [List.take_of_length_le (by omega)] at st1
    simp only [natge hi, WW, argTmps, if_true, if_false, Nat.reduceLT, Nat.reduceEqDiff, Nat.zero_add, Nat.reduceAdd, List.getElem?_toArray, List.getElem?_cons_zero, List.getElem?_cons_succ, List.length_cons, List.length_nil, Option.map_some, reduceCtorEq, Nat.succ_ne_self, Nat.one_ne_zero, Nat.zero_ne_one, Option.some_beq_some, beq_self_eq_true, Bool.not_true, Bool.not_false, Bool.true_beq, Bool.false_beq, WT, ke, kr]
    clear kn ke kr
    refine Co_loop (fun m fr σ2 => ∃ i t ws, m + i = s.stack.length ∧ fr = ⟨t, [], 60, none⟩ ∧ OwnSt σ [vq, vs, vb, .bool s.busy] s σ2 wq ws r s.qs (s.stack.take i) ∧ getT t 1 = .ptr σ.next 0 0 ∧ getT t 2 = .ptr (σ.next + 1) 0 0 ∧ getT t 3 = .ptr (σ.next + 2) 0 0 ∧ getT t 5 = .int .i64 (i : Nat)) s.stack.length
      ⟨0, _, .nils, rfl, rfl, st1, by simp only [WW, argTmps, if_true, if_false, Nat.reduceLT, Nat.reduceEqDiff, Nat.zero_add, Nat.reduceAdd, List.getElem?_toArray, List.getElem?_cons_zero, List.getElem?_cons_succ, List.length_cons, List.length_nil, Option.map_some, reduceCtorEq, Nat.succ_ne_self, Nat.one_ne_zero, Nat.zero_ne_one, Option.some_beq_some, beq_self_eq_true, Bool.not_true, Bool.not_false, Bool.true_beq, Bool.false_beq]; exact f1, by simp only [WW, argTmps, if_true, if_false, Nat.reduceLT, Nat.reduceEqDiff, Nat.zero_add, Nat.reduceAdd, List.getElem?_toArray, List.getElem?_cons_zero, List.getElem?_cons_succ, List.length_cons, List.length_nil, Option.map_some, reduceCtorEq, Nat.succ_ne_self, Nat.one_ne_zero, Nat.zero_ne_one, Option.some_beq_some, beq_self_eq_true, Bool.not_true, Bool.not_false, Bool.true_beq, Bool.false_beq]; exact f2, by simp only [WW, argTmps, if_true, if_false, Nat.reduceLT, Nat.reduceEqDiff, Nat.zero_add, Nat.reduceAdd, List.getElem?_toArray, List.getElem?_cons_zero, List.getElem?_cons_succ, List.length_cons, List.length_nil, Option.map_some, reduceCtorEq, Nat.succ_ne_self, Nat.one_ne_zero, Nat.zero_ne_one, Option.some_beq_some, beq_self_eq_true, Bool.not_true, Bool.not_false, Bool.true_beq, Bool.false_beq]; exact f3, by simp only [WW, argTmps, if_true, if_false, Nat.reduceLT, Nat.reduceEqDiff, Nat.zero_add, Nat.reduceAdd, List.getElem?_toArray, List.getElem?_cons_zero, List.getElem?_cons_succ, List.length_cons, List.length_nil, Option.map_some, reduceCtorEq, Nat.succ_ne_self, Nat.one_ne_zero, Nat.zero_ne_one, Option.some_beq_some, beq_self_eq_true, Bool.not_true, Bool.not_false, Bool.true_beq, Bool.false_beq]; rfl⟩ ?_
    clear f1 f2 f3 f4
    rintro m fr σ2 K ⟨i, t, ws, hm, rfl, st2, f1, f2, f3, f5⟩ kn ke kr
    have keep2 : Keeps (· < σ.next) σ5 σ2 := fun id hi => (st2.low id hi).trans (st0.low id hi).symm
    have hsk := hq5.2.keep keep2 (fun _ h => h) (E' := EL (· < σ.next) σ2) fun c a h => h.keep keep2 fun _ h => h
    have l2 := hsk.len und62
    simp only [WW, argTmps, if_true, if_false, Nat.reduceLT, Nat.reduceEqDiff, Nat.zero_add, Nat.reduceAdd, List.getElem?_toArray, List.getElem?_cons_zero, List.getElem?_cons_succ, List.length_cons, List.length_nil, Option.map_some, reduceCtorEq, Nat.succ_ne_self, Nat.one_ne_zero, Nat.zero_ne_one, Option.some_beq_some, beq_self_eq_true, Bool.not_true, Bool.not_false, Bool.true_beq, Bool.false_beq, WT, f1, f5, st2.c0, l2]
    by_cases hi : i < s.stack.length
    case neg =>
      rw [List.take_of_length_le (by omega)] at st2
      obtain ⟨z1, z2, z3⟩ := st2.end' rfl
      have hw := (st2.out.reads s.busy).fit
      simp only [natge hi, WW, argTmps, if_true, if_false, Nat.reduceLT, Nat.reduceEqDiff, Nat.zero_add, Nat.reduceAdd, List.getElem?_toArray, List.getElem?_cons_zero, List.getElem?_cons_succ, List.length_cons, List.length_nil, Option.map_some, reduceCtorEq, Nat.succ_ne_self, Nat.one_ne_zero, Nat.zero_ne_one, Option.some_beq_some, beq_self_eq_true, Bool.not_true, Bool.not_false, Bool.true_beq, Bool.false_beq, WT, ke, kr, f2, f3, st2.c2, st2.c1, ldC_all hw.2, st64 hw.1 hw.2 (z := [.nils, .nils, .nils, .bool false]) rfl]
      subst hQ
      exact leave_cell (d := 2) (id := σ.next + 1) rfl (by simp only [WW, argTmps, if_true, if_false, Nat.reduceLT, Nat.reduceEqDiff, Nat.zero_add, Nat.reduceAdd, List.getElem?_toArray, List.getElem?_cons_zero, List.getElem?_cons_succ, List.length_cons, List.length_nil, Option.map_some, reduceCtorEq, Nat.succ_ne_self, Nat.one_ne_zero, Nat.zero_ne_one, Option.some_beq_some, beq_self_eq_true, Bool.not_true, Bool.not_false, Bool.true_beq, Bool.false_beq]; exact f2) z1 rfl ⟨wq, ws, r, rfl, z3, z2⟩
    obtain ⟨x, hx⟩ := get_some hi
    have hxl := hs.lists x (List.mem_of_getElem? hx)
    unfold Bd at hxl
    obtain ⟨c, e1, ⟨v1, rfl, h1⟩, _⟩ := hsk.elt hx
    obtain ⟨_, _, hva, _⟩ := hsk
    have hle := st2.le
    obtain ⟨σ2', e2'⟩ : ∃ σ2', σ2.add (.arr 0 []) = σ2' := ⟨_, rfl⟩
    have g2' : Gro σ2 σ2' := by rw [← e2']; exact Gro.add _ _
    have u1 := elt_keep e1 hva (τ := σ2') fun id h => g2'.get id (by have : id < σ.next := h; omega)
    obtain ⟨r2, σ6, p0, ⟨c6, a6, k6⟩, g6⟩ := clone_app (T := Mq.T) und40 sz3 by3 zr3 rfl (by omega) (by omega) (by omega) (h1.keep (σ' := σ2) (q := (· < σ2.next)) (fun _ _ => rfl) (fun id h => by have : id < σ.next := h; show id < σ2.next; omega) fun _ _ h => h) ei_one (by omega)
    rw [e2'] at p0
    have st2' := st2.gro g2'
    obtain ⟨σ7, e7⟩ : ∃ σ7, σ6.add (.arr 0 [r2]) = σ7 := ⟨_, rfl⟩
    have g7 : Gro σ6 σ7 := by rw [← e7]; exact Gro.add _ _
    have st6 := st2.gro g6
    have st7 := st6.gro g7
    have o6 := a6.one
    have ownq : ∀ id, wq.own = some id → id < σ2.next := fun id e => by obtain ⟨⟨cq, q1, _⟩, _⟩ := st2.out; exact (q1.own_lt e).2
    have owns : ∀ id, ws.own = some id → id < σ2.next := fun id e => by obtain ⟨_, ⟨cq, q1, _⟩, _⟩ := st2.out; exact (q1.own_lt e).2
    obtain ⟨ws', σ8, p1, p2, p3, p4, p5, p6⟩ := st7.out.push_s (by have := st7.le; omega) (l := x) (x := .sl σ6.next 0 0 1 1 1 true) (vl := r2) (by rw [← e7]; exact one_row rfl)
      (pown_apd a6 k6 (by omega) hle ownq owns g7.le fun id _ h => g7.get id h) (by rw [List.length_take]; unfold Bd; omega)
    have c68 : cellsAt σ8 (σ.next + 2) 0 = some [wq, ws, r, .bool s.busy] := cells_same (p3 _ (by omega)) st7.c2
    have st8 := st7.set p3 p4 p2
    rw [← take_snoc hx] at st8
    simp only [natlt hi, WW, argTmps, if_true, if_false, Nat.reduceLT, Nat.reduceEqDiff, Nat.zero_add, Nat.reduceAdd, List.getElem?_toArray, List.getElem?_cons_zero, List.getElem?_cons_succ, List.length_cons, List.length_nil, Option.map_some, reduceCtorEq, Nat.succ_ne_self, Nat.one_ne_zero, Nat.zero_ne_one, Option.some_beq_some, beq_self_eq_true, Bool.not_true, Bool.not_false, Bool.true_beq, Bool.false_beq, WT]
    refine Co_draw [] [2, 3, 4, 5, 6, 7, 8, 9, 0, 1, 10, 11, 12] (by kernel_rfl) (by kernel_rfl) (by kernel_rfl) ?_
    simp only [WW, argTmps, if_true, if_false, Nat.reduceLT, Nat.reduceEqDiff, Nat.zero_add, Nat.reduceAdd, List.getElem?_toArray, List.getElem?_cons_zero, List.getElem?_cons_succ, List.length_cons, List.length_nil, Option.map_some, reduceCtorEq, Nat.succ_ne_self, Nat.one_ne_zero, Nat.zero_ne_one, Option.some_beq_some, beq_self_eq_true, Bool.not_true, Bool.not_false, Bool.true_beq, Bool.false_beq, WD, and_true, true_and, and_self, WT, f1, f3, f5, evParts_nil, evParts_cons, evP?_some, b0_40, e2', st2.c0, st2'.c0, e1.ix und62 sz40, e1.ld0 ag40 (by omega) rfl, u1.ix und62 sz40, u1.ld0 ag40 (by omega) rfl, p0, b1_62 o6.1 o6.2, e7, st2.c2, st2'.c2, st6.c2, st7.c2, p1, c68, st4_1 p6 p5, wrapS (show i < 1000000000000 by omega)]
    exact kn (m - 1) _ _ (by omega) ⟨i + 1, _, ws', by omega, rfl, st8, by simp only [WW, argTmps, if_true, if_false, Nat.reduceLT, Nat.reduceEqDiff, Nat.zero_add, Nat.reduceAdd, List.getElem?_toArray, List.getElem?_cons_zero, List.getElem?_cons_succ, List.length_cons, List.length_nil, Option.map_some, reduceCtorEq, Nat.succ_ne_self, Nat.one_ne_zero, Nat.zero_ne_one, Option.some_beq_some, beq_self_eq_true, Bool.not_true, Bool.not_false, Bool.true_beq, Bool.false_beq]; exact f1, by simp only [WW, argTmps, if_true, if_false, Nat.reduceLT, Nat.reduceEqDiff, Nat.zero_add, Nat.reduceAdd, List.getElem?_toArray, List.getElem?_cons_zero, List.getElem?_cons_succ, List.length_cons, List.length_nil, Option.map_some, reduceCtorEq, Nat.succ_ne_self, Nat.one_ne_zero, Nat.zero_ne_one, Option.some_beq_some, beq_self_eq_true, Bool.not_true, Bool.not_false, Bool.true_beq, Bool.false_beq]; exact f2, by simp only [WW, argTmps, if_true, if_false, Nat.reduceLT, Nat.reduceEqDiff, Nat.zero_add, Nat.reduceAdd, List.getElem?_toArray, List.getElem?_cons_zero, List.getElem?_cons_succ, List.length_cons, List.length_nil, Option.map_some, reduceCtorEq, Nat.succ_ne_self, Nat.one_ne_zero, Nat.zero_ne_one, Option.some_beq_some, beq_self_eq_true, Bool.not_true, Bool.not_false, Bool.true_beq, Bool.false_beq]; exact f3, by simp only [WW, argTmps, if_true, if_false, Nat.reduceLT, Nat.reduceEqDiff, Nat.zero_add, Nat.reduceAdd, List.getElem?_toArray, List.getElem?_cons_zero, List.getElem?_cons_succ, List.length_cons, List.length_nil, Option.map_some, reduceCtorEq, Nat.succ_ne_self, Nat.one_ne_zero, Nat.zero_ne_one, Option.some_beq_some, beq_self_eq_true, Bool.not_true, Bool.not_false, Bool.true_beq, Bool.false_beq]⟩
  obtain ⟨x, hx⟩ := get_some hi
  obtain ⟨c, e1, ⟨v1, rfl, h1⟩, _⟩ := hqk.elt hx
  obtain ⟨_, _, hva, _⟩ := hqk
  have o1 := h1.one
  have hle := st1.le
  have hxl : x.list.length ≤ 1048576 := by
    have h1 := upTo_succ hx
    have h2 := upTo_le s.qs (i + 1)
    have h3 := hs.many
    unfold Bd at h3
    omega
  obtain ⟨σ2', e2'⟩ : ∃ σ2', σ1.add (.arr 0 []) = σ2' := ⟨_, rfl⟩
  have g2' : Gro σ1 σ2' := by rw [← e2']; exact Gro.add _ _
  obtain ⟨r2, σ6, p0, ⟨c6, a6, k6⟩, g6⟩ := clone_app (T := Mq.T) und79 sz87 by87 zr87 rfl (by omega) (by omega) (by omega) (h1.keep (σ' := σ1) (q := (· < σ1.next)) (fun _ _ => rfl) (fun id h => by have : id < σ.next := h; show id < σ1.next; omega) fun _ _ h => h) er_one (by omega)
  rw [e2'] at p0
  have u1 := elt_keep e1 hva (τ := σ2') fun id h => g2'.get id (by have : id < σ.next := h; omega)
  have w1 := elt_keep e1 hva (τ := σ6) fun id h => g6.get id (by have : id < σ.next := h; omega)
  have st2' := st1.gro g2'
  obtain ⟨σ7, e7⟩ : ∃ σ7, σ6.add (.arr 0 [.int .i64 x.el, r2]) = σ7 := ⟨_, rfl⟩
  have g7 : Gro σ6 σ7 := by rw [← e7]; exact Gro.add _ _
  have st6 := st1.gro g6
  have st7 := st6.gro g7
  have o6 := a6.one
  have ownq : ∀ id, wq.own = some id → id < σ1.next := fun id e => by obtain ⟨⟨cq, q1, _⟩, _⟩ := st1.out; exact (q1.own_lt e).2
  obtain ⟨wq', σ8, p1, p2, p3, p4, p5, p6⟩ := st7.out.push_q (by have := st7.le; omega) (q := x) (x := .sl σ6.next 0 0 1 1 2 true) (vl := r2) (by rw [← e7]; exact one_row rfl)
    (pown_apd a6 k6 (by omega) hle ownq (fun id e => by cases e) g7.le fun id _ h => g7.get id h) (by rw [List.length_take]; unfold Bd; omega)
  have c68 : cellsAt σ8 (σ.next + 2) 0 = some [wq, .nils, r, .bool s.busy] := cells_same (p3 _ (by omega)) st7.c2
  have st8 := st7.set p3 p4 p2
  rw [← take_snoc hx] at st8
  simp only [natlt hi, WW, argTmps, if_true, if_false, Nat.reduceLT, Nat.reduceEqDiff, Nat.zero_add, Nat.reduceAdd, List.getElem?_toArray, List.getElem?_cons_zero, List.getElem?_cons_succ, List.length_cons, List.length_nil, Option.map_some, reduceCtorEq, Nat.succ_ne_self, Nat.one_ne_zero, Nat.zero_ne_one, Option.some_beq_some, beq_self_eq_true, Bool.not_true, Bool.not_false, Bool.true_beq, Bool.false_beq, WT]
  refine Co_draw [] [8, 9, 10, 11, 12, 13, 14, 15, 2, 3, 4, 5, 6, 7, 16, 17, 0, 1, 18, 19, 20] (by kernel_rfl) (by kernel_rfl) (by kernel_rfl) ?_
  simp only [WW, argTmps, if_true, if_false, Nat.reduceLT, Nat.reduceEqDiff, Nat.zero_add, Nat.reduceAdd, List.getElem?_toArray, List.getElem?_cons_zero, List.getElem?_cons_succ, List.length_cons, List.length_nil, Option.map_some, reduceCtorEq, Nat.succ_ne_self, Nat.one_ne_zero, Nat.zero_ne_one, Option.some_beq_some, beq_self_eq_true, Bool.not_true, Bool.not_false, Bool.true_beq, Bool.false_beq, WD, and_true, true_and, and_self, WT, f1, f3, f4, evParts_nil, evParts_cons, evP?_some, b0_79, e2', st1.c0, st2'.c0, st6.c0, e1.ix und61 sz81, u1.ix und61 sz81, w1.ix und61 sz81, e1.fa (fun _ _ _ => fa81_1) (fun _ _ => fr81_1), e1.fa (fun _ _ _ => fa81_0) (fun _ _ => fr81_0), e1.ld ag79 (k := 1) (by omega) rfl, u1.ld ag79 (k := 1) (by omega) rfl, p0,
    e1.ld ag3 (k := 0) (by omega) rfl, u1.ld ag3 (k := 0) (by omega) rfl, w1.ld ag3 (k := 0) (by omega) rfl, bd81 o6.2, b1_61 o6.1, e7, st1.c2, st2'.c2, st6.c2, st7.c2, p1, c68, st4_0 p6 p5, wrapS (show i < 1000000000000 by omega)]
  exact kn (m - 1) _ _ (by omega) ⟨i + 1, _, wq', by omega, rfl, st8, by simp only [WW, argTmps, if_true, if_false, Nat.reduceLT, Nat.reduceEqDiff, Nat.zero_add, Nat.reduceAdd, List.getElem?_toArray, List.getElem?_cons_zero, List.getElem?_cons_succ, List.length_cons, List.length_nil, Option.map_some, reduceCtorEq, Nat.succ_ne_self, Nat.one_ne_zero, Nat.zero_ne_one, Option.some_beq_some, beq_self_eq_true, Bool.not_true, Bool.not_false, Bool.true_beq, Bool.false_beq]; exact f1, by simp only [WW, argTmps, if_true, if_false, Nat.reduceLT, Nat.reduceEqDiff, Nat.zero_add, Nat.reduceAdd, List.getElem?_toArray, List.getElem?_cons_zero, List.getElem?_cons_succ, List.length_cons, List.length_nil, Option.map_some, reduceCtorEq, Nat.succ_ne_self, Nat.one_ne_zero, Nat.zero_ne_one, Option.some_beq_some, beq_self_eq_true, Bool.not_true, Bool.not_false, Bool.true_beq, Bool.false_beq]; exact f2, by simp only [WW, argTmps, if_true, if_false, Nat.reduceLT, Nat.reduceEqDiff, Nat.zero_add, Nat.reduceAdd, List.getElem?_toArray, List.getElem?_cons_zero, List.getElem?_cons_succ, List.length_cons, List.length_nil, Option.map_some, reduceCtorEq, Nat.succ_ne_self, Nat.one_ne_zero, Nat.zero_ne_one, Option.some_beq_some, beq_self_eq_true, Bool.not_true, Bool.not_false, Bool.true_beq, Bool.false_beq]; exact f3, by simp only [WW, argTmps, if_true, if_false, Nat.reduceLT, Nat.reduceEqDiff, Nat.zero_add, Nat.reduceAdd, List.getElem?_toArray, List.getElem?_cons_zero, List.getElem?_cons_succ, List.length_cons, List.length_nil, Option.map_some, reduceCtorEq, Nat.succ_ne_self, Nat.one_ne_zero, Nat.zero_ne_one, Option.some_beq_some, beq_self_eq_true, Bool.not_true, Bool.not_false, Bool.true_beq, Bool.false_beq]⟩
end Go.Proofs.YtmchghdmejbblaaGreatDoor
