/- slices.Clone, react.own, canopyref26.Copy. -/
import Derived.Test.YtmchghdmejbblaaGreatDoorBo
set_option linter.unusedSimpArgs false
set_option linter.unusedVariables false
noncomputable section
namespace Go.Proofs.YtmchghdmejbblaaGreatDoor
open Go Go.Ab Go.RowKit

theorem clone79_ok {σ : St} {v : AV} {l : List Int} (hv : Rd (· < σ.next) σ 1 EI v l) (hl : l.length ≤ Bd) : Ca Mq 79 [v] σ fun r σ' => (∃ cells, Apd σ.next σ' r 1 cells ∧ Chunks 1 EI cells l) ∧ Gro σ σ' := by
  unfold Bd at hl
  have hg : eqgA Mq.T 40 = false := by kernel_rfl
  refine Ca.enter (fn := Tryz.f79) rfl (by kernel_rfl) rfl (by kernel_rfl) (Nat.le_of_ble_eq_true rfl) 8 _ rfl rfl ?_
  generalize hQ : Leave Mq Tryz.f79 _ = Q
  have hv' := hv
  obtain ⟨cells, h1, h2, h3⟩ := hv'
  rcases eq_nils hg und40 h1 with ⟨rfl, hb⟩ | ⟨hne, hb⟩
  · simp only [WW, argTmps, if_true, if_false, Nat.reduceLT, Nat.reduceEqDiff, Nat.zero_add, Nat.reduceAdd, List.getElem?_toArray, List.getElem?_cons_zero, List.getElem?_cons_succ, List.length_cons, List.length_nil, Option.map_some, reduceCtorEq, Nat.succ_ne_self, Nat.one_ne_zero, Nat.zero_ne_one, Option.some_beq_some, beq_self_eq_true, Bool.not_true, Bool.not_false, Bool.true_beq, Bool.false_beq, WT, hb]
    subst hQ
    refine leave_tmp (d := 2) (v := .nils) rfl (by simp only [WW, argTmps, if_true, if_false, Nat.reduceLT, Nat.reduceEqDiff, Nat.zero_add, Nat.reduceAdd, List.getElem?_toArray, List.getElem?_cons_zero, List.getElem?_cons_succ, List.length_cons, List.length_nil, Option.map_some, reduceCtorEq, Nat.succ_ne_self, Nat.one_ne_zero, Nat.zero_ne_one, Option.some_beq_some, beq_self_eq_true, Bool.not_true, Bool.not_false, Bool.true_beq, Bool.false_beq]) ⟨⟨[], .inl ⟨rfl, rfl⟩, ?_⟩, Gro.refl _⟩
    simp only [elemsA, Option.some.injEq, Prod.mk.injEq] at h1
    obtain ⟨h4, rfl⟩ := h1
    exact h3
  · obtain ⟨v', σ', e1, e2, g⟩ := clone_app (T := Mq.T) und40 sz3 by3 zr3 rfl (by omega) (by omega) (by omega) hv ei_one (by omega)
    simp only [WW, argTmps, if_true, if_false, Nat.reduceLT, Nat.reduceEqDiff, Nat.zero_add, Nat.reduceAdd, List.getElem?_toArray, List.getElem?_cons_zero, List.getElem?_cons_succ, List.length_cons, List.length_nil, Option.map_some, reduceCtorEq, Nat.succ_ne_self, Nat.one_ne_zero, Nat.zero_ne_one, Option.some_beq_some, beq_self_eq_true, Bool.not_true, Bool.not_false, Bool.true_beq, Bool.false_beq, WT, hb, evParts_nil, b0_40, e1]
    subst hQ
    exact leave_tmp (d := 2) rfl (by simp only [WW, argTmps, if_true, if_false, Nat.reduceLT, Nat.reduceEqDiff, Nat.zero_add, Nat.reduceAdd, List.getElem?_toArray, List.getElem?_cons_zero, List.getElem?_cons_succ, List.length_cons, List.length_nil, Option.map_some, reduceCtorEq, Nat.succ_ne_self, Nat.one_ne_zero, Nat.zero_ne_one, Option.some_beq_some, beq_self_eq_true, Bool.not_true, Bool.not_false, Bool.true_beq, Bool.false_beq]) ⟨e2, g⟩

theorem clone135_ok {σ : St} {v : AV} {l : List Rx} (hv : Rd (· < σ.next) σ 12 ER v l) (hl : l.length ≤ Bd) : Ca Mq 135 [v] σ fun r σ' => (∃ cells, Apd σ.next σ' r 12 cells ∧ Chunks 12 ER cells l) ∧ Gro σ σ' := by
  unfold Bd at hl
  have hg : eqgA Mq.T 79 = false := by kernel_rfl
  refine Ca.enter (fn := Tryz.f135) rfl (by kernel_rfl) rfl (by kernel_rfl) (Nat.le_of_ble_eq_true rfl) 8 _ rfl rfl ?_
  generalize hQ : Leave Mq Tryz.f135 _ = Q
  have hv' := hv
  obtain ⟨cells, h1, h2, h3⟩ := hv'
  rcases eq_nils hg und79 h1 with ⟨rfl, hb⟩ | ⟨hne, hb⟩
  · simp only [WW, argTmps, if_true, if_false, Nat.reduceLT, Nat.reduceEqDiff, Nat.zero_add, Nat.reduceAdd, List.getElem?_toArray, List.getElem?_cons_zero, List.getElem?_cons_succ, List.length_cons, List.length_nil, Option.map_some, reduceCtorEq, Nat.succ_ne_self, Nat.one_ne_zero, Nat.zero_ne_one, Option.some_beq_some, beq_self_eq_true, Bool.not_true, Bool.not_false, Bool.true_beq, Bool.false_beq, WT, hb]
    subst hQ
    refine leave_tmp (d := 2) (v := .nils) rfl (by simp only [WW, argTmps, if_true, if_false, Nat.reduceLT, Nat.reduceEqDiff, Nat.zero_add, Nat.reduceAdd, List.getElem?_toArray, List.getElem?_cons_zero, List.getElem?_cons_succ, List.length_cons, List.length_nil, Option.map_some, reduceCtorEq, Nat.succ_ne_self, Nat.one_ne_zero, Nat.zero_ne_one, Option.some_beq_some, beq_self_eq_true, Bool.not_true, Bool.not_false, Bool.true_beq, Bool.false_beq]) ⟨⟨[], .inl ⟨rfl, rfl⟩, ?_⟩, Gro.refl _⟩
    simp only [elemsA, Option.some.injEq, Prod.mk.injEq] at h1
    obtain ⟨h4, rfl⟩ := h1
    exact h3
  · obtain ⟨v', σ', e1, e2, g⟩ := clone_app (T := Mq.T) und79 sz87 by87 zr87 rfl (by omega) (by omega) (by omega) hv er_one (by omega)
    simp only [WW, argTmps, if_true, if_false, Nat.reduceLT, Nat.reduceEqDiff, Nat.zero_add, Nat.reduceAdd, List.getElem?_toArray, List.getElem?_cons_zero, List.getElem?_cons_succ, List.length_cons, List.length_nil, Option.map_some, reduceCtorEq, Nat.succ_ne_self, Nat.one_ne_zero, Nat.zero_ne_one, Option.some_beq_some, beq_self_eq_true, Bool.not_true, Bool.not_false, Bool.true_beq, Bool.false_beq, WT, hb, evParts_nil, b0_79, e1]
    subst hQ
    exact leave_tmp (d := 2) rfl (by simp only [WW, argTmps, if_true, if_false, Nat.reduceLT, Nat.reduceEqDiff, Nat.zero_add, Nat.reduceAdd, List.getElem?_toArray, List.getElem?_cons_zero, List.getElem?_cons_succ, List.length_cons, List.length_nil, Option.map_some, reduceCtorEq, Nat.succ_ne_self, Nat.one_ne_zero, Nat.zero_ne_one, Option.some_beq_some, beq_self_eq_true, Bool.not_true, Bool.not_false, Bool.true_beq, Bool.false_beq]) ⟨e2, g⟩

theorem leave_cell {fn : Func} {d n id : Nat} {t : Tr AV} {σ : St} {c : List AV} {Q : AV → St → Prop} (hr : fn.results.toList = [.cell d 64]) (hd : getT t d = .ptr id 0 0) (hc : cellsAt σ id 0 = some c) (hl : c.length = 4) (q : Q (.agg c) σ) : Leave Mq fn Q .ret ⟨t, [], n, none⟩ σ := by
  refine ⟨rfl, [.agg c], ?_, q⟩
  rw [hr]
  simp only [resultsA, resultA, hd, load_ptr, sz64, ag64, hc, ldC_all hl]
theorem put_cells {σ : St} {id : Nat} {cs : List AV} : cellsAt (σ.put id (.arr 0 cs)) id 0 = some cs := cellsAt_of get_put_same
theorem put_cells_ne {σ : St} {id i : Nat} {o : AObj} (h : i ≠ id) : cellsAt (σ.put id o) i 0 = cellsAt σ i 0 := by
  unfold cellsAt
  rw [get_put, if_neg h]
theorem cells_same {σ σ' : St} {id : Nat} {cs : List AV} (h : σ'.get id = σ.get id) (hc : cellsAt σ id 0 = some cs) : cellsAt σ' id 0 = some cs := by
  unfold cellsAt at *
  rw [h]; exact hc
/-- Where a function that answers a Reacts of its own stands. -/
structure OwnSt (σ : St) (ca : List AV) (s : Re) (σ1 : St) (vq vs vb : AV) (qs : List Qu) (st : List (List Int)) : Prop where
  low : ∀ id, id < σ.next → σ1.get id = σ.get id
  le : σ.next + 3 ≤ σ1.next
  c0 : cellsAt σ1 σ.next 0 = some ca
  c1 : cellsAt σ1 (σ.next + 1) 0 = some [.nils, .nils, .nils, .bool false]
  c2 : cellsAt σ1 (σ.next + 2) 0 = some [vq, vs, vb, .bool s.busy]
  out : OutP (σ.next + 3) σ1 vq vs vb qs st s.backup
theorem OwnSt.gro {σ σ1 σ2 : St} {ca : List AV} {s : Re} {vq vs vb : AV} {qs : List Qu} {st : List (List Int)} (h : OwnSt σ ca s σ1 vq vs vb qs st) (g : Gro σ1 σ2) : OwnSt σ ca s σ2 vq vs vb qs st :=
  ⟨fun id hi => (g.get id (by have := h.le; omega)).trans (h.low id hi), by have := h.le; have := g.le; omega, g.cells (by have := h.le; omega) h.c0, g.cells (by have := h.le; omega) h.c1, g.cells (by have := h.le; omega) h.c2, h.out.gro g⟩
theorem OwnSt.g {σ σ1 : St} {ca : List AV} {s : Re} {vq vs vb : AV} {qs : List Qu} {st : List (List Int)} (h : OwnSt σ ca s σ1 vq vs vb qs st) : Gro σ σ1 := ⟨by have := h.le; omega, h.low⟩
/-- What is appended is stored in the variable. -/
theorem OwnSt.set {σ σ1 σ2 : St} {ca : List AV} {s : Re} {vq vs vb vq' vs' : AV} {qs qs' : List Qu} {st st' : List (List Int)} (h : OwnSt σ ca s σ1 vq vs vb qs st) (hlow : ∀ id, id < σ.next + 3 → σ2.get id = σ1.get id) (hn : σ1.next ≤ σ2.next)
    (ho : OutP (σ.next + 3) σ2 vq' vs' vb qs' st' s.backup) : OwnSt σ ca s (σ2.put (σ.next + 2) (.arr 0 [vq', vs', vb, .bool s.busy])) vq' vs' vb qs' st' := by
  refine ⟨fun id hi => ?_, by rw [next_put]; have := h.le; omega, ?_, ?_, put_cells, ho.put (by omega)⟩
  · rw [get_put, if_neg (by omega), hlow id (by omega)]
    exact h.low id hi
  · rw [put_cells_ne (by omega)]
    exact cells_same (hlow _ (by omega)) h.c0
  · rw [put_cells_ne (by omega)]
    exact cells_same (hlow _ (by omega)) h.c1
/-- The beginning: the argument boxed, the answer's variable, the variable 'out' with the backup list in it. -/
theorem OwnSt.begin {σ σ3 σ4 : St} {ca : List AV} {s : Re} {vb : AV} (e3 : ((σ.add (.arr 0 ca)).add (.arr 0 [.nils, .nils, .nils, .bool false])).add (.arr 0 [.nils, .nils, .nils, .bool false]) = σ3) (g : Gro σ3 σ4) (hb : ∃ cb, Apd (σ.next + 3) σ4 vb 1 cb ∧ Chunks 1 EI cb s.backup) :
    OwnSt σ ca s (σ4.put (σ.next + 2) (.arr 0 [.nils, .nils, vb, .bool s.busy])) .nils .nils vb [] [] := by
  have n3 : σ3.next = σ.next + 3 := by rw [← e3]; rfl
  have get3 : ∀ id, σ3.get id = if id = σ.next + 2 then some (.arr 0 [.nils, .nils, .nils, .bool false]) else if id = σ.next + 1 then some (.arr 0 [.nils, .nils, .nils, .bool false]) else if id = σ.next then some (.arr 0 ca) else σ.get id := fun id => by
    rw [← e3, get_add, get_add, get_add]
    rfl
  have g4 : ∀ id, id < σ.next + 3 → σ4.get id = σ3.get id := fun id h => g.get id (by omega)
  have hne : ∀ {a b : Nat}, a < b → ¬ a = b := fun h e => Nat.lt_irrefl _ (e ▸ h)
  obtain ⟨cb, b1, b2⟩ := hb
  refine ⟨fun id hi => ?_, by rw [next_put]; have := g.le; omega, ?_, ?_, put_cells, OutP.put (qs := []) (st := []) (bk := s.backup) ⟨⟨[], .inl ⟨rfl, rfl⟩, rfl⟩, ⟨[], .inl ⟨rfl, rfl⟩, rfl⟩, ⟨cb, b1, b2⟩, fun id e => ⟨(b1.own_lt e).1, (b1.own_lt e).2, by simp [AV.own], by simp [AV.own]⟩, fun id e => by cases e⟩ (by omega)⟩
  · rw [get_put, if_neg (by omega), g4 id (by omega), get3, if_neg (by omega), if_neg (by omega), if_neg (by omega)]
  · rw [put_cells_ne (by omega)]
    exact cellsAt_of (by rw [g4 _ (by omega), get3, if_neg (by omega), if_neg (by omega), if_pos rfl])
  · rw [put_cells_ne (by omega)]
    exact cellsAt_of (by rw [g4 _ (by omega), get3, if_neg (by omega), if_pos rfl])
theorem OwnSt.end' {σ σ1 : St} {ca c : List AV} {s : Re} {vq vs vb : AV} (h : OwnSt σ ca s σ1 vq vs vb s.qs s.stack) (hc : c = [vq, vs, vb, .bool s.busy]) :
    cellsAt (σ1.put (σ.next + 1) (.arr 0 c)) (σ.next + 1) 0 = some c ∧ Gro σ (σ1.put (σ.next + 1) (.arr 0 c)) ∧ OutP σ.next (σ1.put (σ.next + 1) (.arr 0 c)) vq vs vb s.qs s.stack s.backup := by
  have hl := h.le
  refine ⟨put_cells, ⟨by rw [next_put]; omega, fun id hi => by rw [get_put, if_neg (by omega)]; exact h.low id hi⟩, ?_⟩
  have ho := h.out.put (id := σ.next + 1) (o := .arr 0 c) (by omega)
  obtain ⟨⟨cq, q1, q2⟩, ⟨cs, s1, s2⟩, ⟨cb, b1, b2⟩, bo, ne⟩ := ho
  have ip : ∀ id, Pown (σ.next + 3) (σ1.put (σ.next + 1) (.arr 0 c)) vq vs id → Pown σ.next (σ1.put (σ.next + 1) (.arr 0 c)) vq vs id := fun id hi => ⟨by have := hi.1; omega, hi.2⟩
  have kp : ∀ p : Nat → Prop, Keeps p (σ1.put (σ.next + 1) (.arr 0 c)) (σ1.put (σ.next + 1) (.arr 0 c)) := fun _ _ _ => rfl
  exact ⟨⟨cq, q1.lower (by omega), q2.mono fun c a e => e.keep (kp _) ip⟩, ⟨cs, s1.lower (by omega), s2.mono fun c a e => e.keep (kp _) ip⟩, ⟨cb, b1.lower (by omega), b2⟩, fun id e => ip id (bo id e), ne⟩
theorem take_snoc {α : Type} {l : List α} {i : Nat} {a : α} (h : l[i]? = some a) : l.take (i + 1) = l.take i ++ [a] := by
  rw [List.take_add_one, h]
  rfl
theorem one_row {σ : St} {n : Nat} {cs : List AV} (h : cs.length = n) : elemsA (.sl σ.next 0 0 1 1 n true) n (σ.add (.arr 0 cs)) = some (1, cs) := by
  simp only [elemsA, cellsAt_add_new, elemsIn, Nat.beq_refl, Nat.ble_eq_true_of_le (Nat.le_refl 1), Bool.and_self]
  rw [rowAt_of (by omega)]
  simp only [List.drop_zero]
  rw [List.take_of_length_le (by omega)]
theorem pown_apd {α : Type} {b B : Nat} {σ σ' : St} {v vq vs : AV} {n : Nat} {cells : List AV} {E : List AV → α → Prop} {l : List α} (h : Apd B σ' v n cells) (hc : Chunks n E cells l) (h0 : 0 < n) (hb : b ≤ B) (hq : ∀ id, vq.own = some id → id < B) (hs : ∀ id, vs.own = some id → id < B) (hn : σ'.next ≤ σ.next) (k : ∀ id, B ≤ id → id < σ'.next → σ.get id = σ'.get id) : Rd (Pown b σ vq vs) σ n E v l :=
  (h.rd hc h0 (p := fun id => B ≤ id ∧ id < σ'.next) fun id _ h1 h2 => ⟨h1, h2⟩).keep (fun id hi => k id hi.1 hi.2) (fun id hi => ⟨by omega, by omega, fun e => by have := hq id e; omega, fun e => by have := hs id e; omega⟩) fun _ _ h => h

set_option maxRecDepth 100000 in
theorem own_ok {σ : St} {ca : List AV} {s : Re} (ha : ReC (· < σ.next) σ ca s) (hs : s.ok) : Ca Mq 90 [.agg ca] σ fun r σ' => ∃ vq vs vb, r = .agg [vq, vs, vb, .bool s.busy] ∧ OutP σ.next σ' vq vs vb s.qs s.stack s.backup ∧ Gro σ σ' := by
  obtain ⟨σ3, e3⟩ : ∃ σ3, ((σ.add (.arr 0 ca)).add (.arr 0 [.nils, .nils, .nils, .bool false])).add (.arr 0 [.nils, .nils, .nils, .bool false]) = σ3 := ⟨_, rfl⟩
  have g3 : Gro σ σ3 := by rw [← e3]; exact ((Gro.add _ _).trans (Gro.add _ _)).trans (Gro.add _ _)
  have n3 : σ3.next = σ.next + 3 := by rw [← e3]; rfl
  have cA : cellsAt σ3 σ.next 0 = some ca := by
    rw [← e3, cellsAt_add_old (by rw [next_add, next_add]; omega), cellsAt_add_old (by rw [next_add]; omega), cellsAt_add_new]
  have cO : cellsAt σ3 (σ.next + 2) 0 = some [.nils, .nils, .nils, .bool false] := by
    rw [← e3]
    exact cellsAt_of get_new
  have fa := ha.fit
  have hq1 := hs.qs
  have hs1 := hs.stack
  unfold Bd at hq1 hs1
  obtain ⟨vq, vs, vb, rfl, hq, hst, hbk⟩ := ha.gro g3
  refine Ca.enter (fn := Tryz.f90) rfl (by kernel_rfl) rfl (by kernel_rfl) (Nat.le_of_ble_eq_true rfl) 49 _ rfl rfl ?_
  generalize hQ : Leave Mq Tryz.f90 _ = Q
  simp only [WW, argTmps, if_true, if_false, Nat.reduceLT, Nat.reduceEqDiff, Nat.zero_add, Nat.reduceAdd, List.getElem?_toArray, List.getElem?_cons_zero, List.getElem?_cons_succ, List.length_cons, List.length_nil, Option.map_some, reduceCtorEq, Nat.succ_ne_self, Nat.one_ne_zero, Nat.zero_ne_one, Option.some_beq_some, beq_self_eq_true, Bool.not_true, Bool.not_false, Bool.true_beq, Bool.false_beq, WT, opNew_eq fa.1, AV.cells, al64, next_add]
  refine Co_draw [6] [0, 1, 2, 3, 4, 5, 7] (by kernel_rfl) (by kernel_rfl) (by kernel_rfl) ?_
  simp only [WW, argTmps, if_true, if_false, Nat.reduceLT, Nat.reduceEqDiff, Nat.zero_add, Nat.reduceAdd, List.getElem?_toArray, List.getElem?_cons_zero, List.getElem?_cons_succ, List.length_cons, List.length_nil, Option.map_some, reduceCtorEq, Nat.succ_ne_self, Nat.one_ne_zero, Nat.zero_ne_one, Option.some_beq_some, beq_self_eq_true, Bool.not_true, Bool.not_false, Bool.true_beq, Bool.false_beq, WD, and_true, true_and, and_self, WT, al64, next_add, e3, cA, Nat.reduceAdd, Nat.add_assoc]
  refine (clone79_ok hbk hs.backup).mono ?_
  rintro r σ4 ⟨hb4, g4⟩
  rw [n3] at hb4
  obtain ⟨cb, hb41, hb42⟩ := hb4
  have cO4 := g4.cells (by omega) cO
  have cA4 := g4.cells (by omega) cA
  have st0 := OwnSt.begin (s := s) e3 g4 ⟨cb, hb41, hb42⟩
  obtain ⟨σ5, e5⟩ : ∃ σ5, σ4.put (σ.next + 2) (.arr 0 [.nils, .nils, r, .bool s.busy]) = σ5 := ⟨_, rfl⟩
  rw [e5] at st0
  have hq5 : Rd (· < σ.next) σ5 2 (EQ (· < σ.next) σ5) vq s.qs ∧ Rd (· < σ.next) σ5 1 (EL (· < σ.next) σ5) vs s.stack := by
    obtain ⟨vq', vs', vb', e, k1, k2, k3⟩ := ha
    cases e
    have kk : Keeps (· < σ.next) σ σ5 := fun id hi => st0.low id hi
    exact ⟨k1.keep kk (fun _ h => h) fun c a h => h.keep kk fun _ h => h, k2.keep kk (fun _ h => h) fun c a h => h.keep kk fun _ h => h⟩
  have hr1 := hb41.one
  have l1 := hq5.1.len und61
  simp only [WW, argTmps, if_true, if_false, Nat.reduceLT, Nat.reduceEqDiff, Nat.zero_add, Nat.reduceAdd, List.getElem?_toArray, List.getElem?_cons_zero, List.getElem?_cons_succ, List.length_cons, List.length_nil, Option.map_some, reduceCtorEq, Nat.succ_ne_self, Nat.one_ne_zero, Nat.zero_ne_one, Option.some_beq_some, beq_self_eq_true, Bool.not_true, Bool.not_false, Bool.true_beq, Bool.false_beq, WD, and_true, true_and, and_self, WT, cA, cA4, bd64_23 hr1.2, evParts_nil, evParts_cons, evP?_some, cO4, st64 (c := [.nils, .nils, r, .bool s.busy]) (z := [.nils, .nils, .nils, .bool false]) (fr4 rfl rfl hr1.1) rfl rfl, e5, st0.c0, l1]
  refine Co_loop (fun m fr σ1 => ∃ i t wq, m + i = s.qs.length ∧ fr = ⟨t, [], 49, none⟩ ∧ OwnSt σ [vq, vs, vb, .bool s.busy] s σ1 wq .nils r (s.qs.take i) [] ∧ getT t 1 = .ptr σ.next 0 0 ∧ getT t 2 = .ptr (σ.next + 1) 0 0 ∧ getT t 3 = .ptr (σ.next + 2) 0 0 ∧ getT t 15 = vq ∧ getT t 16 = .int .i64 (s.qs.length : Nat) ∧ getT t 17 = .int .i64 (i : Nat)) s.qs.length
    ⟨0, _, .nils, rfl, rfl, st0, by simp only [WW, argTmps, if_true, if_false, Nat.reduceLT, Nat.reduceEqDiff, Nat.zero_add, Nat.reduceAdd, List.getElem?_toArray, List.getElem?_cons_zero, List.getElem?_cons_succ, List.length_cons, List.length_nil, Option.map_some, reduceCtorEq, Nat.succ_ne_self, Nat.one_ne_zero, Nat.zero_ne_one, Option.some_beq_some, beq_self_eq_true, Bool.not_true, Bool.not_false, Bool.true_beq, Bool.false_beq], by simp only [WW, argTmps, if_true, if_false, Nat.reduceLT, Nat.reduceEqDiff, Nat.zero_add, Nat.reduceAdd, List.getElem?_toArray, List.getElem?_cons_zero, List.getElem?_cons_succ, List.length_cons, List.length_nil, Option.map_some, reduceCtorEq, Nat.succ_ne_self, Nat.one_ne_zero, Nat.zero_ne_one, Option.some_beq_some, beq_self_eq_true, Bool.not_true, Bool.not_false, Bool.true_beq, Bool.false_beq], by simp only [WW, argTmps, if_true, if_false, Nat.reduceLT, Nat.reduceEqDiff, Nat.zero_add, Nat.reduceAdd, List.getElem?_toArray, List.getElem?_cons_zero, List.getElem?_cons_succ, List.length_cons, List.length_nil, Option.map_some, reduceCtorEq, Nat.succ_ne_self, Nat.one_ne_zero, Nat.zero_ne_one, Option.some_beq_some, beq_self_eq_true, Bool.not_true, Bool.not_false, Bool.true_beq, Bool.false_beq], by simp only [WW, argTmps, if_true, if_false, Nat.reduceLT, Nat.reduceEqDiff, Nat.zero_add, Nat.reduceAdd, List.getElem?_toArray, List.getElem?_cons_zero, List.getElem?_cons_succ, List.length_cons, List.length_nil, Option.map_some, reduceCtorEq, Nat.succ_ne_self, Nat.one_ne_zero, Nat.zero_ne_one, Option.some_beq_some, beq_self_eq_true, Bool.not_true, Bool.not_false, Bool.true_beq, Bool.false_beq], by simp only [WW, argTmps, if_true, if_false, Nat.reduceLT, Nat.reduceEqDiff, Nat.zero_add, Nat.reduceAdd, List.getElem?_toArray, List.getElem?_cons_zero, List.getElem?_cons_succ, List.length_cons, List.length_nil, Option.map_some, reduceCtorEq, Nat.succ_ne_self, Nat.one_ne_zero, Nat.zero_ne_one, Option.some_beq_some, beq_self_eq_true, Bool.not_true, Bool.not_false, Bool.true_beq, Bool.false_beq], by simp only [WW, argTmps, if_true, if_false, Nat.reduceLT, Nat.reduceEqDiff, Nat.zero_add, Nat.reduceAdd, List.getElem?_toArray, List.getElem?_cons_zero, List.getElem?_cons_succ, List.length_cons, List.length_nil, Option.map_some, reduceCtorEq, Nat.succ_ne_self, Nat.one_ne_zero, Nat.zero_ne_one, Option.some_beq_some, beq_self_eq_true, Bool.not_true, Bool.not_false, Bool.true_beq, Bool.false_beq]; rfl⟩ ?_
  rintro m fr σ1 K ⟨i, t, wq, hm, rfl, st1, f1, f2, f3, f15, f16, f17⟩ kn ke kr
  have keep1 : Keeps (· < σ.next) σ5 σ1 := fun id hi => (st1.low id hi).trans (st0.low id hi).symm
  simp only [WW, argTmps, if_true, if_false, Nat.reduceLT, Nat.reduceEqDiff, Nat.zero_add, Nat.reduceAdd, List.getElem?_toArray, List.getElem?_cons_zero, List.getElem?_cons_succ, List.length_cons, List.length_nil, Option.map_some, reduceCtorEq, Nat.succ_ne_self, Nat.one_ne_zero, Nat.zero_ne_one, Option.some_beq_some, beq_self_eq_true, Bool.not_true, Bool.not_false, Bool.true_beq, Bool.false_beq, WT, f16, f17]
  by_cases hi : i < s.qs.length
  case neg =>
    rw [List.take_of_length_le (by omega)] at st1
    have hst1 := hq5.2.keep keep1 (fun _ h => h) (E' := EL (· < σ.next) σ1) fun c a h => h.keep keep1 fun _ h => h
    have l2 := hst1.len und62
    simp only [natge hi, WW, argTmps, if_true, if_false, Nat.reduceLT, Nat.reduceEqDiff, Nat.zero_add, Nat.reduceAdd, List.getElem?_toArray, List.getElem?_cons_zero, List.getElem?_cons_succ, List.length_cons, List.length_nil, Option.map_some, reduceCtorEq, Nat.succ_ne_self, Nat.one_ne_zero, Nat.zero_ne_one, Option.some_beq_some, beq_self_eq_true, Bool.not_true, Bool.not_false, Bool.true_beq, Bool.false_beq, WT, ke, kr, f1, st1.c0, l2]
    clear kn ke kr
    refine Co_loop (fun m fr σ2 => ∃ i t ws, m + i = s.stack.length ∧ fr = ⟨t, [], 49, none⟩ ∧ OwnSt σ [vq, vs, vb, .bool s.busy] s σ2 wq ws r s.qs (s.stack.take i) ∧ getT t 2 = .ptr (σ.next + 1) 0 0 ∧ getT t 3 = .ptr (σ.next + 2) 0 0 ∧ getT t 34 = vs ∧ getT t 35 = .int .i64 (s.stack.length : Nat) ∧ getT t 36 = .int .i64 (i : Nat)) s.stack.length
      ⟨0, _, .nils, rfl, rfl, st1, by simp only [WW, argTmps, if_true, if_false, Nat.reduceLT, Nat.reduceEqDiff, Nat.zero_add, Nat.reduceAdd, List.getElem?_toArray, List.getElem?_cons_zero, List.getElem?_cons_succ, List.length_cons, List.length_nil, Option.map_some, reduceCtorEq, Nat.succ_ne_self, Nat.one_ne_zero, Nat.zero_ne_one, Option.some_beq_some, beq_self_eq_true, Bool.not_true, Bool.not_false, Bool.true_beq, Bool.false_beq]; exact f2, by simp only [WW, argTmps, if_true, if_false, Nat.reduceLT, Nat.reduceEqDiff, Nat.zero_add, Nat.reduceAdd, List.getElem?_toArray, List.getElem?_cons_zero, List.getElem?_cons_succ, List.length_cons, List.length_nil, Option.map_some, reduceCtorEq, Nat.succ_ne_self, Nat.one_ne_zero, Nat.zero_ne_one, Option.some_beq_some, beq_self_eq_true, Bool.not_true, Bool.not_false, Bool.true_beq, Bool.false_beq]; exact f3, by simp only [WW, argTmps, if_true, if_false, Nat.reduceLT, Nat.reduceEqDiff, Nat.zero_add, Nat.reduceAdd, List.getElem?_toArray, List.getElem?_cons_zero, List.getElem?_cons_succ, List.length_cons, List.length_nil, Option.map_some, reduceCtorEq, Nat.succ_ne_self, Nat.one_ne_zero, Nat.zero_ne_one, Option.some_beq_some, beq_self_eq_true, Bool.not_true, Bool.not_false, Bool.true_beq, Bool.false_beq], by simp only [WW, argTmps, if_true, if_false, Nat.reduceLT, Nat.reduceEqDiff, Nat.zero_add, Nat.reduceAdd, List.getElem?_toArray, List.getElem?_cons_zero, List.getElem?_cons_succ, List.length_cons, List.length_nil, Option.map_some, reduceCtorEq, Nat.succ_ne_self, Nat.one_ne_zero, Nat.zero_ne_one, Option.some_beq_some, beq_self_eq_true, Bool.not_true, Bool.not_false, Bool.true_beq, Bool.false_beq], by simp only [WW, argTmps, if_true, if_false, Nat.reduceLT, Nat.reduceEqDiff, Nat.zero_add, Nat.reduceAdd, List.getElem?_toArray, List.getElem?_cons_zero, List.getElem?_cons_succ, List.length_cons, List.length_nil, Option.map_some, reduceCtorEq, Nat.succ_ne_self, Nat.one_ne_zero, Nat.zero_ne_one, Option.some_beq_some, beq_self_eq_true, Bool.not_true, Bool.not_false, Bool.true_beq, Bool.false_beq]; rfl⟩ ?_
    clear f1 f2 f3 f15 f16 f17
    rintro m fr σ2 K ⟨i, t, ws, hm, rfl, st2, f2, f3, f34, f35, f36⟩ kn ke kr
    have keep2 : Keeps (· < σ.next) σ5 σ2 := fun id hi => (st2.low id hi).trans (st0.low id hi).symm
    simp only [WW, argTmps, if_true, if_false, Nat.reduceLT, Nat.reduceEqDiff, Nat.zero_add, Nat.reduceAdd, List.getElem?_toArray, List.getElem?_cons_zero, List.getElem?_cons_succ, List.length_cons, List.length_nil, Option.map_some, reduceCtorEq, Nat.succ_ne_self, Nat.one_ne_zero, Nat.zero_ne_one, Option.some_beq_some, beq_self_eq_true, Bool.not_true, Bool.not_false, Bool.true_beq, Bool.false_beq, WT, f35, f36]
    by_cases hi : i < s.stack.length
    case neg =>
      rw [List.take_of_length_le (by omega)] at st2
      obtain ⟨z1, z2, z3⟩ := st2.end' rfl
      have hw := (st2.out.reads s.busy).fit
      simp only [natge hi, WW, argTmps, if_true, if_false, Nat.reduceLT, Nat.reduceEqDiff, Nat.zero_add, Nat.reduceAdd, List.getElem?_toArray, List.getElem?_cons_zero, List.getElem?_cons_succ, List.length_cons, List.length_nil, Option.map_some, reduceCtorEq, Nat.succ_ne_self, Nat.one_ne_zero, Nat.zero_ne_one, Option.some_beq_some, beq_self_eq_true, Bool.not_true, Bool.not_false, Bool.true_beq, Bool.false_beq, WT, ke, kr, f2, f3, st2.c2, st2.c1, ldC_all hw.2, st64 hw.1 hw.2 (z := [.nils, .nils, .nils, .bool false]) rfl]
      subst hQ
      exact leave_cell (d := 2) (id := σ.next + 1) rfl (by simp only [WW, argTmps, if_true, if_false, Nat.reduceLT, Nat.reduceEqDiff, Nat.zero_add, Nat.reduceAdd, List.getElem?_toArray, List.getElem?_cons_zero, List.getElem?_cons_succ, List.length_cons, List.length_nil, Option.map_some, reduceCtorEq, Nat.succ_ne_self, Nat.one_ne_zero, Nat.zero_ne_one, Option.some_beq_some, beq_self_eq_true, Bool.not_true, Bool.not_false, Bool.true_beq, Bool.false_beq]; exact f2) z1 rfl ⟨wq, ws, r, rfl, z3, z2⟩
    obtain ⟨x, hx⟩ := get_some hi
    obtain ⟨c, e1, ⟨v1, rfl, h1⟩, _⟩ := (hq5.2.keep keep2 (fun _ h => h) (E' := EL (· < σ.next) σ2) fun c a h => h.keep keep2 fun _ h => h).elt hx
    have hle := st2.le
    simp only [natlt hi, WW, argTmps, if_true, if_false, Nat.reduceLT, Nat.reduceEqDiff, Nat.zero_add, Nat.reduceAdd, List.getElem?_toArray, List.getElem?_cons_zero, List.getElem?_cons_succ, List.length_cons, List.length_nil, Option.map_some, reduceCtorEq, Nat.succ_ne_self, Nat.one_ne_zero, Nat.zero_ne_one, Option.some_beq_some, beq_self_eq_true, Bool.not_true, Bool.not_false, Bool.true_beq, Bool.false_beq, WT, f34, f36, e1.ix und62 sz40, e1.ld0 ag40 (by omega) rfl]
    refine Co_draw [] [2, 3, 4, 0, 1, 5, 6, 7] (by kernel_rfl) (by kernel_rfl) (by kernel_rfl) ?_
    simp only [WW, argTmps, if_true, if_false, Nat.reduceLT, Nat.reduceEqDiff, Nat.zero_add, Nat.reduceAdd, List.getElem?_toArray, List.getElem?_cons_zero, List.getElem?_cons_succ, List.length_cons, List.length_nil, Option.map_some, reduceCtorEq, Nat.succ_ne_self, Nat.one_ne_zero, Nat.zero_ne_one, Option.some_beq_some, beq_self_eq_true, Bool.not_true, Bool.not_false, Bool.true_beq, Bool.false_beq, WD, and_true, true_and, and_self, WT]
    refine (clone79_ok (h1.keep (σ' := σ2) (fun _ _ => rfl) (fun id h => by have : id < σ.next := h; show id < σ2.next; omega) fun _ _ h => h) (hs.lists x (List.mem_of_getElem? hx))).mono ?_
    rintro r2 σ6 ⟨⟨c6, a6, k6⟩, g6⟩
    obtain ⟨σ7, e7⟩ : ∃ σ7, σ6.add (.arr 0 [r2]) = σ7 := ⟨_, rfl⟩
    have g7 : Gro σ6 σ7 := by rw [← e7]; exact Gro.add _ _
    have st6 := st2.gro g6
    have st7 := st6.gro g7
    have o6 := a6.one
    have ownq : ∀ id, wq.own = some id → id < σ2.next := fun id e => by obtain ⟨⟨cq, q1, _⟩, _⟩ := st2.out; exact (q1.own_lt e).2
    have owns : ∀ id, ws.own = some id → id < σ2.next := fun id e => by obtain ⟨_, ⟨cq, q1, _⟩, _⟩ := st2.out; exact (q1.own_lt e).2
    obtain ⟨ws', σ8, p1, p2, p3, p4, p5, p6⟩ := st7.out.push_s (by have := st7.le; omega) (l := x) (x := .sl σ6.next 0 0 1 1 1 true) (vl := r2) (by rw [← e7]; exact one_row rfl)
      (pown_apd a6 k6 (by omega) hle ownq owns g7.le fun id _ h => g7.get id h) (by rw [List.length_take]; unfold Bd; omega)
    have c68 : cellsAt σ8 (σ.next + 2) 0 = some [wq, ws, r, .bool s.busy] := cells_same (p3 _ (by omega)) st7.c2
    have st8 := st7.set p3 p4 p2
    rw [← take_snoc hx] at st8
    simp only [WW, argTmps, if_true, if_false, Nat.reduceLT, Nat.reduceEqDiff, Nat.zero_add, Nat.reduceAdd, List.getElem?_toArray, List.getElem?_cons_zero, List.getElem?_cons_succ, List.length_cons, List.length_nil, Option.map_some, reduceCtorEq, Nat.succ_ne_self, Nat.one_ne_zero, Nat.zero_ne_one, Option.some_beq_some, beq_self_eq_true, Bool.not_true, Bool.not_false, Bool.true_beq, Bool.false_beq, WD, and_true, true_and, and_self, WT, evParts_nil, evParts_cons, evP?_some, b1_62 o6.1 o6.2, e7, f3, st6.c2, st7.c2, st2.c2, p1, c68, st4_1 p6 p5, f36, wrapS (show i < 1000000000000 by omega)]
    exact kn (m - 1) _ _ (by omega) ⟨i + 1, _, ws', by omega, rfl, st8, by simp only [WW, argTmps, if_true, if_false, Nat.reduceLT, Nat.reduceEqDiff, Nat.zero_add, Nat.reduceAdd, List.getElem?_toArray, List.getElem?_cons_zero, List.getElem?_cons_succ, List.length_cons, List.length_nil, Option.map_some, reduceCtorEq, Nat.succ_ne_self, Nat.one_ne_zero, Nat.zero_ne_one, Option.some_beq_some, beq_self_eq_true, Bool.not_true, Bool.not_false, Bool.true_beq, Bool.false_beq]; exact f2, by simp only [WW, argTmps, if_true, if_false, Nat.reduceLT, Nat.reduceEqDiff, Nat.zero_add, Nat.reduceAdd, List.getElem?_toArray, List.getElem?_cons_zero, List.getElem?_cons_succ, List.length_cons, List.length_nil, Option.map_some, reduceCtorEq, Nat.succ_ne_self, Nat.one_ne_zero, Nat.zero_ne_one, Option.some_beq_some, beq_self_eq_true, Bool.not_true, Bool.not_false, Bool.true_beq, Bool.false_beq]; exact f3, by simp only [WW, argTmps, if_true, if_false, Nat.reduceLT, Nat.reduceEqDiff, Nat.zero_add, Nat.reduceAdd, List.getElem?_toArray, List.getElem?_cons_zero, List.getElem?_cons_succ, List.length_cons, List.length_nil, Option.map_some, reduceCtorEq, Nat.succ_ne_self, Nat.one_ne_zero, Nat.zero_ne_one, Option.some_beq_some, beq_self_eq_true, Bool.not_true, Bool.not_false, Bool.true_beq, Bool.false_beq]; exact f34, by simp only [WW, argTmps, if_true, if_false, Nat.reduceLT, Nat.reduceEqDiff, Nat.zero_add, Nat.reduceAdd, List.getElem?_toArray, List.getElem?_cons_zero, List.getElem?_cons_succ, List.length_cons, List.length_nil, Option.map_some, reduceCtorEq, Nat.succ_ne_self, Nat.one_ne_zero, Nat.zero_ne_one, Option.some_beq_some, beq_self_eq_true, Bool.not_true, Bool.not_false, Bool.true_beq, Bool.false_beq]; exact f35, by simp only [WW, argTmps, if_true, if_false, Nat.reduceLT, Nat.reduceEqDiff, Nat.zero_add, Nat.reduceAdd, List.getElem?_toArray, List.getElem?_cons_zero, List.getElem?_cons_succ, List.length_cons, List.length_nil, Option.map_some, reduceCtorEq, Nat.succ_ne_self, Nat.one_ne_zero, Nat.zero_ne_one, Option.some_beq_some, beq_self_eq_true, Bool.not_true, Bool.not_false, Bool.true_beq, Bool.false_beq]⟩
  obtain ⟨x, hx⟩ := get_some hi
  obtain ⟨c, e1, ⟨v1, rfl, h1⟩, _⟩ := (hq5.1.keep keep1 (fun _ h => h) (E' := EQ (· < σ.next) σ1) fun c a h => h.keep keep1 fun _ h => h).elt hx
  have o1 := h1.one
  have hle := st1.le
  obtain ⟨σ2, e2, g2, n2, c2⟩ := var_ex σ1 [.int .i64 0, .nils] [.int .i64 x.el, v1]
  have st2 := st1.gro g2
  simp only [natlt hi, WW, argTmps, if_true, if_false, Nat.reduceLT, Nat.reduceEqDiff, Nat.zero_add, Nat.reduceAdd, List.getElem?_toArray, List.getElem?_cons_zero, List.getElem?_cons_succ, List.length_cons, List.length_nil, Option.map_some, reduceCtorEq, Nat.succ_ne_self, Nat.one_ne_zero, Nat.zero_ne_one, Option.some_beq_some, beq_self_eq_true, Bool.not_true, Bool.not_false, Bool.true_beq, Bool.false_beq, WT, f15, f17, e1.ix und61 sz81, e1.lda ag81 sz81, al81, st81 o1, e2]
  refine Co_draw [] [4, 5, 6, 2, 3, 7, 8, 0, 1, 9, 10, 11] (by kernel_rfl) (by kernel_rfl) (by kernel_rfl) ?_
  simp only [WW, argTmps, if_true, if_false, Nat.reduceLT, Nat.reduceEqDiff, Nat.zero_add, Nat.reduceAdd, List.getElem?_toArray, List.getElem?_cons_zero, List.getElem?_cons_succ, List.length_cons, List.length_nil, Option.map_some, reduceCtorEq, Nat.succ_ne_self, Nat.one_ne_zero, Nat.zero_ne_one, Option.some_beq_some, beq_self_eq_true, Bool.not_true, Bool.not_false, Bool.true_beq, Bool.false_beq, WD, and_true, true_and, and_self, WT, c2]
  have hxl : x.list.length ≤ Bd := by
    have h1 := upTo_succ hx
    have h2 := upTo_le s.qs (i + 1)
    have h3 := hs.many
    omega
  refine (clone135_ok (h1.keep (σ' := σ2) (fun id h => g2.get id (by have : id < σ.next := h; omega)) (fun id h => by have : id < σ.next := h; show id < σ2.next; omega) fun _ _ h => h) hxl).mono ?_
  rintro r2 σ6 ⟨⟨c6, a6, k6⟩, g6⟩
  obtain ⟨σ7, e7⟩ : ∃ σ7, σ6.add (.arr 0 [.int .i64 x.el, r2]) = σ7 := ⟨_, rfl⟩
  have g7 : Gro σ6 σ7 := by rw [← e7]; exact Gro.add _ _
  have st6 := st2.gro g6
  have st7 := st6.gro g7
  have o6 := a6.one
  have c26 := g6.cells (show σ1.next < σ2.next by omega) c2
  have ownq : ∀ id, wq.own = some id → id < σ2.next := fun id e => by obtain ⟨⟨cq, q1, _⟩, _⟩ := st2.out; exact (q1.own_lt e).2
  obtain ⟨wq', σ8, p1, p2, p3, p4, p5, p6⟩ := st7.out.push_q (by have := st7.le; omega) (q := x) (x := .sl σ6.next 0 0 1 1 2 true) (vl := r2) (by rw [← e7]; exact one_row rfl)
    (pown_apd a6 k6 (by omega) (by omega) ownq (fun id e => by cases e) g7.le fun id _ h => g7.get id h) (by rw [List.length_take]; unfold Bd; omega)
  have c68 : cellsAt σ8 (σ.next + 2) 0 = some [wq, .nils, r, .bool s.busy] := cells_same (p3 _ (by omega)) st7.c2
  have st8 := st7.set p3 p4 p2
  rw [← take_snoc hx] at st8
  simp only [WW, argTmps, if_true, if_false, Nat.reduceLT, Nat.reduceEqDiff, Nat.zero_add, Nat.reduceAdd, List.getElem?_toArray, List.getElem?_cons_zero, List.getElem?_cons_succ, List.length_cons, List.length_nil, Option.map_some, reduceCtorEq, Nat.succ_ne_self, Nat.one_ne_zero, Nat.zero_ne_one, Option.some_beq_some, beq_self_eq_true, Bool.not_true, Bool.not_false, Bool.true_beq, Bool.false_beq, WD, and_true, true_and, and_self, WT, c2, c26, bd81 o6.2, evParts_nil, evParts_cons, evP?_some, b1_61 o6.1, e7, f3, st6.c2, st7.c2, st2.c2, p1, c68, st4_0 p6 p5, f17, wrapS (show i < 1000000000000 by omega)]
  exact kn (m - 1) _ _ (by omega) ⟨i + 1, _, wq', by omega, rfl, st8, by simp only [WW, argTmps, if_true, if_false, Nat.reduceLT, Nat.reduceEqDiff, Nat.zero_add, Nat.reduceAdd, List.getElem?_toArray, List.getElem?_cons_zero, List.getElem?_cons_succ, List.length_cons, List.length_nil, Option.map_some, reduceCtorEq, Nat.succ_ne_self, Nat.one_ne_zero, Nat.zero_ne_one, Option.some_beq_some, beq_self_eq_true, Bool.not_true, Bool.not_false, Bool.true_beq, Bool.false_beq]; exact f1, by simp only [WW, argTmps, if_true, if_false, Nat.reduceLT, Nat.reduceEqDiff, Nat.zero_add, Nat.reduceAdd, List.getElem?_toArray, List.getElem?_cons_zero, List.getElem?_cons_succ, List.length_cons, List.length_nil, Option.map_some, reduceCtorEq, Nat.succ_ne_self, Nat.one_ne_zero, Nat.zero_ne_one, Option.some_beq_some, beq_self_eq_true, Bool.not_true, Bool.not_false, Bool.true_beq, Bool.false_beq]; exact f2, by simp only [WW, argTmps, if_true, if_false, Nat.reduceLT, Nat.reduceEqDiff, Nat.zero_add, Nat.reduceAdd, List.getElem?_toArray, List.getElem?_cons_zero, List.getElem?_cons_succ, List.length_cons, List.length_nil, Option.map_some, reduceCtorEq, Nat.succ_ne_self, Nat.one_ne_zero, Nat.zero_ne_one, Option.some_beq_some, beq_self_eq_true, Bool.not_true, Bool.not_false, Bool.true_beq, Bool.false_beq]; exact f3, by simp only [WW, argTmps, if_true, if_false, Nat.reduceLT, Nat.reduceEqDiff, Nat.zero_add, Nat.reduceAdd, List.getElem?_toArray, List.getElem?_cons_zero, List.getElem?_cons_succ, List.length_cons, List.length_nil, Option.map_some, reduceCtorEq, Nat.succ_ne_self, Nat.one_ne_zero, Nat.zero_ne_one, Option.some_beq_some, beq_self_eq_true, Bool.not_true, Bool.not_false, Bool.true_beq, Bool.false_beq]; exact f15, by simp only [WW, argTmps, if_true, if_false, Nat.reduceLT, Nat.reduceEqDiff, Nat.zero_add, Nat.reduceAdd, List.getElem?_toArray, List.getElem?_cons_zero, List.getElem?_cons_succ, List.length_cons, List.length_nil, Option.map_some, reduceCtorEq, Nat.succ_ne_self, Nat.one_ne_zero, Nat.zero_ne_one, Option.some_beq_some, beq_self_eq_true, Bool.not_true, Bool.not_false, Bool.true_beq, Bool.false_beq]; exact f16, by simp only [WW, argTmps, if_true, if_false, Nat.reduceLT, Nat.reduceEqDiff, Nat.zero_add, Nat.reduceAdd, List.getElem?_toArray, List.getElem?_cons_zero, List.getElem?_cons_succ, List.length_cons, List.length_nil, Option.map_some, reduceCtorEq, Nat.succ_ne_self, Nat.one_ne_zero, Nat.zero_ne_one, Option.some_beq_some, beq_self_eq_true, Bool.not_true, Bool.not_false, Bool.true_beq, Bool.false_beq]⟩
end Go.Proofs.YtmchghdmejbblaaGreatDoor
