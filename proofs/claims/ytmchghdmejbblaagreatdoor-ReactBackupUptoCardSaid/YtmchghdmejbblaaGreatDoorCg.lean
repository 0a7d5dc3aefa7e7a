/- ReactDrained: what the law's code yields. -/
import Derived.Test.YtmchghdmejbblaaGreatDoorCf
set_option linter.unusedSimpArgs false
set_option linter.unusedVariables false
noncomputable section
namespace Go.Proofs.YtmchghdmejbblaaGreatDoor
open Go Go.Ab Go.RowKit

/-- Two new variables, and what they hold. -/
theorem two_var_ex (σ : St) (c : List AV) (r : Rx) : ∃ σ', (((σ.add (.arr 0 [.nils, .nils, .nils, .bool false])).add (.arr 0 zRx.cells)).put σ.next (.arr 0 c)).put (σ.next + 1) (.arr 0 r.cells) = σ' ∧ Gro σ σ' ∧ σ'.next = σ.next + 2 ∧ cellsAt σ' σ.next 0 = some c ∧ cellsAt σ' (σ.next + 1) 0 = some r.cells ∧
    cellsAt ((σ.add (.arr 0 [.nils, .nils, .nils, .bool false])).add (.arr 0 zRx.cells)) σ.next 0 = some [.nils, .nils, .nils, .bool false] ∧ cellsAt (((σ.add (.arr 0 [.nils, .nils, .nils, .bool false])).add (.arr 0 zRx.cells)).put σ.next (.arr 0 c)) (σ.next + 1) 0 = some zRx.cells := by
  refine ⟨_, rfl, ⟨by rw [next_put, next_put, next_add, next_add]; omega, fun id h => ?_⟩, rfl, ?_, put_cells, ?_, ?_⟩
  · rw [get_put, if_neg (by omega), get_put, if_neg (by omega), get_add, if_neg (by rw [next_add]; omega), get_add, if_neg (by omega)]
  · rw [put_cells_ne (by omega)]; exact put_cells
  · rw [cellsAt_add_old (by rw [next_add]; omega), cellsAt_add_new]
  · rw [put_cells_ne (by omega)]
    exact cellsAt_of (by rw [get_add, if_pos (by rw [next_add])])
theorem rec_sub {p q : Nat → Prop} {σ : St} {c : List AV} {s : Re} (h : ReC p σ c s) (i : ∀ id, p id → q id) : ReC q σ c s := h.keep (fun _ _ => rfl) i
theorem rd_sub {α : Type} {p q : Nat → Prop} {σ : St} {n : Nat} {E : List AV → α → Prop} {v : AV} {l : List α} (h : Rd p σ n E v l) (i : ∀ id, p id → q id) : Rd q σ n E v l := h.keep (fun _ _ => rfl) i fun _ _ h => h
theorem rd_move {α : Type} {p q : Nat → Prop} {σ σ' : St} {n : Nat} {E : List AV → α → Prop} {v : AV} {l : List α} (h : Rd p σ n E v l) (k : ∀ id, p id → σ'.get id = σ.get id) (i : ∀ id, p id → q id) : Rd q σ' n E v l := h.keep k i fun _ _ h => h
theorem rec_move {p q : Nat → Prop} {σ σ' : St} {c : List AV} {s : Re} (h : ReC p σ c s) (k : ∀ id, p id → σ'.get id = σ.get id) (i : ∀ id, p id → q id) : ReC q σ' c s := h.keep k i

theorem len_any {α : Type} {p : Nat → Prop} {σ : St} {n : Nat} {E : List AV → α → Prop} {v : AV} {l : List α} (h : Rd p σ n E v l) {T : Tb} {t e : TypeId} (hu : und T t = some (.slice e)) (τ : St) : lenA T [t] [v] τ = some (.int .i64 l.length) := by
  obtain ⟨cells, h1, h2, h3⟩ := h
  rcases elems_cases h1 with ⟨rfl, h0, _⟩ | ⟨rfl, h0, _⟩ | ⟨_, _, _, _, _, _, rfl, _⟩ | ⟨_, _, _, rfl, _⟩
  · simp [lenA, hu, h0]
  · simp [lenA, hu, h0]
  · simp [lenA, hu, mkInt_eq]
  · simp [lenA, hu, mkInt_eq]

set_option maxRecDepth 100000 in
theorem law9_ok {σ : St} {ca : List AV} {s : Re} (ha : ReC (· < σ.next) σ ca s) (hs : s.ok) : Ca Mq 9 [.agg ca] σ fun r _ => r = .bool true := by
  have fa := ha.fit
  obtain ⟨σ1, e1⟩ : ∃ σ1, σ.add (.arr 0 ca) = σ1 := ⟨_, rfl⟩
  have g1 : Gro σ σ1 := by rw [← e1]; exact Gro.add _ _
  have n1 : σ1.next = σ.next + 1 := by rw [← e1]; rfl
  have c1 : cellsAt σ1 σ.next 0 = some ca := by rw [← e1, cellsAt_add_new]
  refine Ca.enter (fn := Tryz.f9) rfl (by kernel_rfl) rfl (by kernel_rfl) (Nat.le_of_ble_eq_true rfl) 95 _ rfl rfl ?_
  generalize hQ : Leave Mq Tryz.f9 _ = Q
  have ret : ∀ t σ', getT t 2 = .bool true → Q .ret ⟨t, [], 95, none⟩ σ' := fun t σ' h => by subst hQ; exact leave_tmp (d := 2) rfl h rfl
  clear hQ
  simp only [WW, argTmps, if_true, if_false, Nat.reduceLT, Nat.reduceEqDiff, Nat.zero_add, Nat.reduceAdd, List.getElem?_toArray, List.getElem?_cons_zero, List.getElem?_cons_succ, List.length_cons, List.length_nil, Option.map_some, reduceCtorEq, Nat.succ_ne_self, Nat.one_ne_zero, Nat.zero_ne_one, Option.some_beq_some, beq_self_eq_true, Bool.not_true, Bool.not_false, Bool.true_beq, Bool.false_beq, WT, opNew_eq fa.1, AV.cells, e1]
  refine Ca.known (v := .bool true) rfl ?_
  simp only [WW, argTmps, if_true, if_false, Nat.reduceLT, Nat.reduceEqDiff, Nat.zero_add, Nat.reduceAdd, List.getElem?_toArray, List.getElem?_cons_zero, List.getElem?_cons_succ, List.length_cons, List.length_nil, Option.map_some, reduceCtorEq, Nat.succ_ne_self, Nat.one_ne_zero, Nat.zero_ne_one, Option.some_beq_some, beq_self_eq_true, Bool.not_true, Bool.not_false, Bool.true_beq, Bool.false_beq, WT, c1, ldC_all fa.2]
  refine (pop35_fresh (ha.gro g1) hs).mono ?_
  rintro r σ2 ⟨c2, v4, rfl, ha2, hl2, g2⟩
  have f2 := ha2.fit
  obtain ⟨σ3, e3, g3, n3, c3⟩ := var_ex σ2 [.nils, .nils, .nils, .bool false] c2
  have l2 := (rd_gro (rd_sub hl2 fun id h => h.2) g3).len und40
  by_cases hr : RightP s
  case neg =>
    have hp : pop s = (emptyRe, [], 15) := by unfold pop; rw [if_pos hr]
    rw [hp] at l2 ⊢
    simp only [WW, argTmps, if_true, if_false, Nat.reduceLT, Nat.reduceEqDiff, Nat.zero_add, Nat.reduceAdd, List.getElem?_toArray, List.getElem?_cons_zero, List.getElem?_cons_succ, List.length_cons, List.length_nil, Option.map_some, reduceCtorEq, Nat.succ_ne_self, Nat.one_ne_zero, Nat.zero_ne_one, Option.some_beq_some, beq_self_eq_true, Bool.not_true, Bool.not_false, Bool.true_beq, Bool.false_beq, WT, al64, st64 (c := c2) (z := [.nils, .nils, .nils, .bool false]) f2.1 f2.2 rfl, e3, decide_eq_false (show ¬ (15 : Int) = 0 by omega), l2, List.length_nil]
    exact ret _ _ (by simp only [WW, argTmps, if_true, if_false, Nat.reduceLT, Nat.reduceEqDiff, Nat.zero_add, Nat.reduceAdd, List.getElem?_toArray, List.getElem?_cons_zero, List.getElem?_cons_succ, List.length_cons, List.length_nil, Option.map_some, reduceCtorEq, Nat.succ_ne_self, Nat.one_ne_zero, Nat.zero_ne_one, Option.some_beq_some, beq_self_eq_true, Bool.not_true, Bool.not_false, Bool.true_beq, Bool.false_beq]; rfl)
  by_cases hd : s.stack.length = 0
  case pos =>
    have hp : pop s = (emptyRe, [], 11) := by unfold pop; rw [if_neg (fun h => h hr), if_pos hd]
    rw [hp] at l2 ⊢
    simp only [WW, argTmps, if_true, if_false, Nat.reduceLT, Nat.reduceEqDiff, Nat.zero_add, Nat.reduceAdd, List.getElem?_toArray, List.getElem?_cons_zero, List.getElem?_cons_succ, List.length_cons, List.length_nil, Option.map_some, reduceCtorEq, Nat.succ_ne_self, Nat.one_ne_zero, Nat.zero_ne_one, Option.some_beq_some, beq_self_eq_true, Bool.not_true, Bool.not_false, Bool.true_beq, Bool.false_beq, WT, al64, st64 (c := c2) (z := [.nils, .nils, .nils, .bool false]) f2.1 f2.2 rfl, e3, decide_eq_false (show ¬ (11 : Int) = 0 by omega), l2, List.length_nil]
    exact ret _ _ (by simp only [WW, argTmps, if_true, if_false, Nat.reduceLT, Nat.reduceEqDiff, Nat.zero_add, Nat.reduceAdd, List.getElem?_toArray, List.getElem?_cons_zero, List.getElem?_cons_succ, List.length_cons, List.length_nil, Option.map_some, reduceCtorEq, Nat.succ_ne_self, Nat.one_ne_zero, Nat.zero_ne_one, Option.some_beq_some, beq_self_eq_true, Bool.not_true, Bool.not_false, Bool.true_beq, Bool.false_beq]; rfl)
  obtain ⟨hp, hra, hel⟩ := right_pop hr hd
  have hl0 := els_le hel
  rw [hp] at ha2 hl2 l2 ⊢
  simp only at ha2 hl2 l2 ⊢
  obtain ⟨l0, hl0e⟩ : ∃ l0, s.stack.getLast?.getD [] = l0 := ⟨_, rfl⟩
  obtain ⟨a0, ha0e⟩ : ∃ a0 : Re, { s with stack := s.stack.dropLast } = a0 := ⟨_, rfl⟩
  rw [hl0e] at hl2 l2 hl0
  rw [ha0e] at ha2 hra
  have b1 := g1.le
  have b2 := g2.le
  have P3 : ∀ id, (σ1.next ≤ id ∧ id < σ2.next) → id < σ3.next ∧ id ≠ σ2.next := fun id h => ⟨by omega, by omega⟩
  have ha3 : ReC (fun id => id < σ3.next ∧ id ≠ σ2.next) σ3 c2 a0 := rec_move ha2 (fun id h => g3.get id h.2) P3
  have hl3 : Rd (fun id => id < σ3.next ∧ id ≠ σ2.next) σ3 1 EI v4 l0 := rd_move hl2 (fun id h => g3.get id h.2) P3
  simp only [WW, argTmps, if_true, if_false, Nat.reduceLT, Nat.reduceEqDiff, Nat.zero_add, Nat.reduceAdd, List.getElem?_toArray, List.getElem?_cons_zero, List.getElem?_cons_succ, List.length_cons, List.length_nil, Option.map_some, reduceCtorEq, Nat.succ_ne_self, Nat.one_ne_zero, Nat.zero_ne_one, Option.some_beq_some, beq_self_eq_true, Bool.not_true, Bool.not_false, Bool.true_beq, Bool.false_beq, WT, al64, st64 (c := c2) (z := [.nils, .nils, .nils, .bool false]) f2.1 f2.2 rfl, e3, decide_true, c3, ldC_all f2.2]
  refine (many_ok (rec_sub ha3 fun id h => h.1) (right_size hra)).mono ?_
  rintro r σ4 ⟨rfl, g4⟩
  have b3 := g4.le
  have P4 : ∀ id, (id < σ3.next ∧ id ≠ σ2.next) → id < σ4.next ∧ id ≠ σ2.next := fun id h => ⟨by omega, h.2⟩
  have hm0 := hra.many
  simp only [WW, argTmps, if_true, if_false, Nat.reduceLT, Nat.reduceEqDiff, Nat.zero_add, Nat.reduceAdd, List.getElem?_toArray, List.getElem?_cons_zero, List.getElem?_cons_succ, List.length_cons, List.length_nil, Option.map_some, reduceCtorEq, Nat.succ_ne_self, Nat.one_ne_zero, Nat.zero_ne_one, Option.some_beq_some, beq_self_eq_true, Bool.not_true, Bool.not_false, Bool.true_beq, Bool.false_beq, WT]
  refine Co_loop (fun m fr σ5 => ∃ i t a c l v, m + i = many a0 ∧ many a = m ∧ fr = ⟨t, [], 95, none⟩ ∧ σ2.next < σ5.next ∧ cellsAt σ5 σ2.next 0 = some c ∧ ReC (fun id => id < σ5.next ∧ id ≠ σ2.next) σ5 c a ∧ RightP a ∧ Rd (fun id => id < σ5.next ∧ id ≠ σ2.next) σ5 1 EI v4 l0 ∧ Rd (fun id => id < σ5.next ∧ id ≠ σ2.next) σ5 1 EI v l ∧ l.length ≤ 4096 ∧
      (∀ h ∈ l0, h ∈ l ∨ waitL a.qs h = []) ∧ getT t 3 = .ptr σ2.next 0 0 ∧ getT t 4 = v4 ∧ getT t 6 = .int .i64 (many a0 : Nat) ∧ getT t 7 = v ∧ getT t 8 = .int .i64 (i : Nat)) (many a0)
    ⟨0, _, a0, c2, l0, v4, rfl, rfl, rfl, by omega, g4.cells (by omega) c3, rec_move ha3 (fun id h => g4.get id h.1) P4, hra, rd_move hl3 (fun id h => g4.get id h.1) P4, rd_move hl3 (fun id h => g4.get id h.1) P4, hl0, fun h hh => .inl hh,
      by simp only [WW, argTmps, if_true, if_false, Nat.reduceLT, Nat.reduceEqDiff, Nat.zero_add, Nat.reduceAdd, List.getElem?_toArray, List.getElem?_cons_zero, List.getElem?_cons_succ, List.length_cons, List.length_nil, Option.map_some, reduceCtorEq, Nat.succ_ne_self, Nat.one_ne_zero, Nat.zero_ne_one, Option.some_beq_some, beq_self_eq_true, Bool.not_true, Bool.not_false, Bool.true_beq, Bool.false_beq], by simp only [WW, argTmps, if_true, if_false, Nat.reduceLT, Nat.reduceEqDiff, Nat.zero_add, Nat.reduceAdd, List.getElem?_toArray, List.getElem?_cons_zero, List.getElem?_cons_succ, List.length_cons, List.length_nil, Option.map_some, reduceCtorEq, Nat.succ_ne_self, Nat.one_ne_zero, Nat.zero_ne_one, Option.some_beq_some, beq_self_eq_true, Bool.not_true, Bool.not_false, Bool.true_beq, Bool.false_beq], by simp only [WW, argTmps, if_true, if_false, Nat.reduceLT, Nat.reduceEqDiff, Nat.zero_add, Nat.reduceAdd, List.getElem?_toArray, List.getElem?_cons_zero, List.getElem?_cons_succ, List.length_cons, List.length_nil, Option.map_some, reduceCtorEq, Nat.succ_ne_self, Nat.one_ne_zero, Nat.zero_ne_one, Option.some_beq_some, beq_self_eq_true, Bool.not_true, Bool.not_false, Bool.true_beq, Bool.false_beq], by simp only [WW, argTmps, if_true, if_false, Nat.reduceLT, Nat.reduceEqDiff, Nat.zero_add, Nat.reduceAdd, List.getElem?_toArray, List.getElem?_cons_zero, List.getElem?_cons_succ, List.length_cons, List.length_nil, Option.map_some, reduceCtorEq, Nat.succ_ne_self, Nat.one_ne_zero, Nat.zero_ne_one, Option.some_beq_some, beq_self_eq_true, Bool.not_true, Bool.not_false, Bool.true_beq, Bool.false_beq], by simp only [WW, argTmps, if_true, if_false, Nat.reduceLT, Nat.reduceEqDiff, Nat.zero_add, Nat.reduceAdd, List.getElem?_toArray, List.getElem?_cons_zero, List.getElem?_cons_succ, List.length_cons, List.length_nil, Option.map_some, reduceCtorEq, Nat.succ_ne_self, Nat.one_ne_zero, Nat.zero_ne_one, Option.some_beq_some, beq_self_eq_true, Bool.not_true, Bool.not_false, Bool.true_beq, Bool.false_beq]; rfl⟩ ?_
  rintro m fr σ5 K ⟨i, t, a, c, l, v, hm, hma, rfl, hlt, hc, hrec, hra, hl0r, hlr, hll, hJ, f3, f4, f6, f7, f8⟩ kn ke kr
  have fc := hrec.fit
  simp only [WW, argTmps, if_true, if_false, Nat.reduceLT, Nat.reduceEqDiff, Nat.zero_add, Nat.reduceAdd, List.getElem?_toArray, List.getElem?_cons_zero, List.getElem?_cons_succ, List.length_cons, List.length_nil, Option.map_some, reduceCtorEq, Nat.succ_ne_self, Nat.one_ne_zero, Nat.zero_ne_one, Option.some_beq_some, beq_self_eq_true, Bool.not_true, Bool.not_false, Bool.true_beq, Bool.false_beq, WT, f3, f6, f7, f8, natle (show i ≤ many a0 by omega), hc, ldC_all fc.2]
  refine (take44_ok (rec_sub hrec fun id h => h.1) (right_size hra) hra (rd_sub hlr fun id h => h.1) hll).mono ?_
  rintro r σ6 ⟨c', v', rfl, hrec', hl', g6⟩
  have fc' := hrec'.fit
  have b6 := g6.le
  have P6 : ∀ id, (id < σ5.next ∧ id ≠ σ2.next) → id < σ6.next ∧ id ≠ σ2.next := fun id h => ⟨by omega, h.2⟩
  rcases takeP_cases (right_q hra) l with ⟨ht, hend⟩ | ⟨qs', left, rx, rest, ht, tk⟩
  · -- there is none
    rw [ht]
    obtain ⟨σ7, e7, g7, n7, c7, c71, z1, z2⟩ := two_var_ex σ6 c' zRx
    have G7 := g6.trans g7
    have hc7 := G7.cells hlt hc
    have P7 : ∀ id, (id < σ5.next ∧ id ≠ σ2.next) → id < σ7.next ∧ id ≠ σ2.next := fun id h => ⟨by omega, h.2⟩
    have hrec7 := rec_move hrec (fun id h => G7.get id h.1) P7
    have hl07 := rd_move hl0r (fun id h => G7.get id h.1) P7
    simp only [WW, argTmps, if_true, if_false, Nat.reduceLT, Nat.reduceEqDiff, Nat.zero_add, Nat.reduceAdd, List.getElem?_toArray, List.getElem?_cons_zero, List.getElem?_cons_succ, List.length_cons, List.length_nil, Option.map_some, reduceCtorEq, Nat.succ_ne_self, Nat.one_ne_zero, Nat.zero_ne_one, Option.some_beq_some, beq_self_eq_true, Bool.not_true, Bool.not_false, Bool.true_beq, Bool.false_beq, WT, al64, al87, next_add, z1, z2, st64 (c := c') (z := [.nils, .nils, .nils, .bool false]) fc'.1 fc'.2 rfl, st87, e7, decide_true, ke, kr]
    clear kn ke kr
    refine Co_loop (fun m fr σ8 => ∃ j t, m + j = l0.length ∧ fr = ⟨t, [], 95, none⟩ ∧ Gro σ7 σ8 ∧ getT t 3 = .ptr σ2.next 0 0 ∧ getT t 4 = v4 ∧ getT t 16 = .int .i64 (j : Nat)) l0.length
      ⟨0, _, rfl, rfl, Gro.refl _, by simp only [WW, argTmps, if_true, if_false, Nat.reduceLT, Nat.reduceEqDiff, Nat.zero_add, Nat.reduceAdd, List.getElem?_toArray, List.getElem?_cons_zero, List.getElem?_cons_succ, List.length_cons, List.length_nil, Option.map_some, reduceCtorEq, Nat.succ_ne_self, Nat.one_ne_zero, Nat.zero_ne_one, Option.some_beq_some, beq_self_eq_true, Bool.not_true, Bool.not_false, Bool.true_beq, Bool.false_beq]; exact f3, by simp only [WW, argTmps, if_true, if_false, Nat.reduceLT, Nat.reduceEqDiff, Nat.zero_add, Nat.reduceAdd, List.getElem?_toArray, List.getElem?_cons_zero, List.getElem?_cons_succ, List.length_cons, List.length_nil, Option.map_some, reduceCtorEq, Nat.succ_ne_self, Nat.one_ne_zero, Nat.zero_ne_one, Option.some_beq_some, beq_self_eq_true, Bool.not_true, Bool.not_false, Bool.true_beq, Bool.false_beq]; exact f4, by simp only [WW, argTmps, if_true, if_false, Nat.reduceLT, Nat.reduceEqDiff, Nat.zero_add, Nat.reduceAdd, List.getElem?_toArray, List.getElem?_cons_zero, List.getElem?_cons_succ, List.length_cons, List.length_nil, Option.map_some, reduceCtorEq, Nat.succ_ne_self, Nat.one_ne_zero, Nat.zero_ne_one, Option.some_beq_some, beq_self_eq_true, Bool.not_true, Bool.not_false, Bool.true_beq, Bool.false_beq]; rfl⟩ ?_
    rintro m2 fr σ8 K ⟨j, t, hm2, rfl, g8, f3, f4, f16⟩ kn ke kr
    have hc8 := g8.cells (by omega) hc7
    have b8 := g8.le
    have P8 : ∀ id, (id < σ7.next ∧ id ≠ σ2.next) → id < σ8.next := fun id h => by omega
    have hl08 : Rd (· < σ8.next) σ8 1 EI v4 l0 := rd_move hl07 (fun id h => g8.get id h.1) P8
    have hrec8 : ReC (· < σ8.next) σ8 c a := rec_move hrec7 (fun id h => g8.get id h.1) P8
    simp only [WW, argTmps, if_true, if_false, Nat.reduceLT, Nat.reduceEqDiff, Nat.zero_add, Nat.reduceAdd, List.getElem?_toArray, List.getElem?_cons_zero, List.getElem?_cons_succ, List.length_cons, List.length_nil, Option.map_some, reduceCtorEq, Nat.succ_ne_self, Nat.one_ne_zero, Nat.zero_ne_one, Option.some_beq_some, beq_self_eq_true, Bool.not_true, Bool.not_false, Bool.true_beq, Bool.false_beq, WT, f4, f16, hl08.len und40]
    by_cases hj : j < l0.length
    case neg =>
      simp only [natge hj, WW, argTmps, if_true, if_false, Nat.reduceLT, Nat.reduceEqDiff, Nat.zero_add, Nat.reduceAdd, List.getElem?_toArray, List.getElem?_cons_zero, List.getElem?_cons_succ, List.length_cons, List.length_nil, Option.map_some, reduceCtorEq, Nat.succ_ne_self, Nat.one_ne_zero, Nat.zero_ne_one, Option.some_beq_some, beq_self_eq_true, Bool.not_true, Bool.not_false, Bool.true_beq, Bool.false_beq, WT, ke, kr]
      exact ret _ _ (by simp only [WW, argTmps, if_true, if_false, Nat.reduceLT, Nat.reduceEqDiff, Nat.zero_add, Nat.reduceAdd, List.getElem?_toArray, List.getElem?_cons_zero, List.getElem?_cons_succ, List.length_cons, List.length_nil, Option.map_some, reduceCtorEq, Nat.succ_ne_self, Nat.one_ne_zero, Nat.zero_ne_one, Option.some_beq_some, beq_self_eq_true, Bool.not_true, Bool.not_false, Bool.true_beq, Bool.false_beq])
    obtain ⟨x, hx⟩ := get_some hj
    obtain ⟨cc, u1, rfl, _⟩ := hl08.elt hx
    simp only [natlt hj, WW, argTmps, if_true, if_false, Nat.reduceLT, Nat.reduceEqDiff, Nat.zero_add, Nat.reduceAdd, List.getElem?_toArray, List.getElem?_cons_zero, List.getElem?_cons_succ, List.length_cons, List.length_nil, Option.map_some, reduceCtorEq, Nat.succ_ne_self, Nat.one_ne_zero, Nat.zero_ne_one, Option.some_beq_some, beq_self_eq_true, Bool.not_true, Bool.not_false, Bool.true_beq, Bool.false_beq]
    refine Co_draw [] [0, 1, 2, 3, 4, 5, 6, 7] (by kernel_rfl) (by kernel_rfl) (by kernel_rfl) ?_
    simp only [WW, argTmps, if_true, if_false, Nat.reduceLT, Nat.reduceEqDiff, Nat.zero_add, Nat.reduceAdd, List.getElem?_toArray, List.getElem?_cons_zero, List.getElem?_cons_succ, List.length_cons, List.length_nil, Option.map_some, reduceCtorEq, Nat.succ_ne_self, Nat.one_ne_zero, Nat.zero_ne_one, Option.some_beq_some, beq_self_eq_true, Bool.not_true, Bool.not_false, Bool.true_beq, Bool.false_beq, WD, and_true, true_and, and_self, WT, f3, f4, f16, hc8, ldC_all fc.2, u1.ix und40 sz3, u1.ld0 ag3 (by omega) rfl]
    refine (waiting_ok hrec8 (right_size hra).qs).mono ?_
    rintro w σ9 ⟨hw, g9⟩
    have hw0 : waitL a.qs x = [] := by
      rcases hJ x (List.mem_of_getElem? hx) with h | h
      · exact hend x h
      · exact h
    rw [hw0] at hw
    have lw := len_any hw und79 (T := Mq.T)
    simp only [WW, argTmps, if_true, if_false, Nat.reduceLT, Nat.reduceEqDiff, Nat.zero_add, Nat.reduceAdd, List.getElem?_toArray, List.getElem?_cons_zero, List.getElem?_cons_succ, List.length_cons, List.length_nil, Option.map_some, reduceCtorEq, Nat.succ_ne_self, Nat.one_ne_zero, Nat.zero_ne_one, Option.some_beq_some, beq_self_eq_true, Bool.not_true, Bool.not_false, Bool.true_beq, Bool.false_beq, WD, and_true, true_and, and_self, WT, lw, List.length_nil, decide_eq_true (show ((0 : Nat) : Int) = 0 by rfl), f16, wrapS (show j < 1000000000000 by omega)]
    exact kn (m2 - 1) _ _ (by omega) ⟨j + 1, _, by omega, rfl, g8.trans g9, by simp only [WW, argTmps, if_true, if_false, Nat.reduceLT, Nat.reduceEqDiff, Nat.zero_add, Nat.reduceAdd, List.getElem?_toArray, List.getElem?_cons_zero, List.getElem?_cons_succ, List.length_cons, List.length_nil, Option.map_some, reduceCtorEq, Nat.succ_ne_self, Nat.one_ne_zero, Nat.zero_ne_one, Option.some_beq_some, beq_self_eq_true, Bool.not_true, Bool.not_false, Bool.true_beq, Bool.false_beq]; exact f3, by simp only [WW, argTmps, if_true, if_false, Nat.reduceLT, Nat.reduceEqDiff, Nat.zero_add, Nat.reduceAdd, List.getElem?_toArray, List.getElem?_cons_zero, List.getElem?_cons_succ, List.length_cons, List.length_nil, Option.map_some, reduceCtorEq, Nat.succ_ne_self, Nat.one_ne_zero, Nat.zero_ne_one, Option.some_beq_some, beq_self_eq_true, Bool.not_true, Bool.not_false, Bool.true_beq, Bool.false_beq]; exact f4, by simp only [WW, argTmps, if_true, if_false, Nat.reduceLT, Nat.reduceEqDiff, Nat.zero_add, Nat.reduceAdd, List.getElem?_toArray, List.getElem?_cons_zero, List.getElem?_cons_succ, List.length_cons, List.length_nil, Option.map_some, reduceCtorEq, Nat.succ_ne_self, Nat.one_ne_zero, Nat.zero_ne_one, Option.some_beq_some, beq_self_eq_true, Bool.not_true, Bool.not_false, Bool.true_beq, Bool.false_beq]⟩
  · rw [ht] at hrec' hl' ⊢
    simp only at hrec' hl' ⊢
    have hra' : RightP { a with qs := qs' } := right_took hra tk.right (by have := tk.sum; omega) hra.backup a.busy
    obtain ⟨σ7, e7, g7, n7, c7, c71, z1, z2⟩ := two_var_ex σ6 c' rx
    have G7 := g6.trans g7
    have hc7 := G7.cells hlt hc
    have r0 : rx.cells[0]? = some (.int .i64 rx.el) := rfl
    have hrec7 : ReC (· < σ7.next) σ7 c a := rec_move hrec (fun id h => G7.get id h.1) fun id h => by omega
    have hrec'7 : ReC (fun id => σ5.next ≤ id ∧ id < σ6.next) σ7 c' { a with qs := qs' } := rec_move hrec' (fun id h => g7.get id h.2) fun id h => h
    simp only [WW, argTmps, if_true, if_false, Nat.reduceLT, Nat.reduceEqDiff, Nat.zero_add, Nat.reduceAdd, List.getElem?_toArray, List.getElem?_cons_zero, List.getElem?_cons_succ, List.length_cons, List.length_nil, Option.map_some, reduceCtorEq, Nat.succ_ne_self, Nat.one_ne_zero, Nat.zero_ne_one, Option.some_beq_some, beq_self_eq_true, Bool.not_true, Bool.not_false, Bool.true_beq, Bool.false_beq, WT, al64, al87, next_add, z1, z2, st64 (c := c') (z := [.nils, .nils, .nils, .bool false]) fc'.1 fc'.2 rfl, st87, e7, decide_true, f3, hc7, ldC_all fc.2, c71, r0]
    refine (waiting_ok hrec7 (right_size hra).qs).mono ?_
    rintro w14 σ8 ⟨hw14, g8⟩
    rw [tk.was] at hw14
    have c78 := g8.cells (by omega) c7
    have c718 := g8.cells (by omega) c71
    simp only [WW, argTmps, if_true, if_false, Nat.reduceLT, Nat.reduceEqDiff, Nat.zero_add, Nat.reduceAdd, List.getElem?_toArray, List.getElem?_cons_zero, List.getElem?_cons_succ, List.length_cons, List.length_nil, Option.map_some, reduceCtorEq, Nat.succ_ne_self, Nat.one_ne_zero, Nat.zero_ne_one, Option.some_beq_some, beq_self_eq_true, Bool.not_true, Bool.not_false, Bool.true_beq, Bool.false_beq, WT, c78, ldC_all fc'.2, c718, r0]
    refine (waiting_ok (rec_move hrec'7 (fun id h => g8.get id (by omega)) fun id h => by have := g8.le; omega) (right_size hra').qs).mono ?_
    rintro w15 σ9 ⟨hw15, g9⟩
    simp only at hw15
    rw [tk.now] at hw15
    have hw149 := rd_gro hw14 g9
    have la := hw149.len und79
    have lb := hw15.len und79
    have hrl : rest.length ≤ 4096 := by
      have h1 := tk.sum
      have h2 := hra.many
      have h3 := waitL_len (right_q hra) rx.el
      rw [tk.was] at h3
      unfold many at h2
      unfold lens at h1 h3
      simp only [List.length_cons] at h3
      omega
    have c719 := g9.cells (show σ6.next + 1 < σ8.next by have := g8.le; omega) c718
    obtain ⟨cc, u1, ⟨rfl, _⟩, _⟩ := hw149.elt (i := 0) (a := rx) rfl
    have hidx0 : indexAddrA Mq.T 79 w14 (.int .i64 0) σ9 = some (idxP w14 0 12) := u1.ix (T := Mq.T) (k := .i64) und79 sz87
    obtain ⟨wt, s1, s2, s3⟩ := slice_from (T := Mq.T) und79 sz87 hw149 (h := 1) (by simp) (by simp)
    have s1 : sliceA Mq.T 79 w14 (some (.int .i64 1)) none none = some wt := s1
    obtain ⟨na, hna⟩ : ∃ na, (rx :: rest).length = na := ⟨_, rfl⟩
    have hna' : na = rest.length + 1 := by rw [← hna]; rfl
    rw [hna] at la
    have G9 := (G7.trans g8).trans g9
    have hc9 := G9.cells hlt hc
    have c79 := g9.cells (show σ6.next < σ8.next by have := g8.le; omega) c78
    simp only [WW, argTmps, if_true, if_false, Nat.reduceLT, Nat.reduceEqDiff, Nat.zero_add, Nat.reduceAdd, List.getElem?_toArray, List.getElem?_cons_zero, List.getElem?_cons_succ, List.length_cons, List.length_nil, Option.map_some, reduceCtorEq, Nat.succ_ne_self, Nat.one_ne_zero, Nat.zero_ne_one, Option.some_beq_some, beq_self_eq_true, Bool.not_true, Bool.not_false, Bool.true_beq, Bool.false_beq]
    refine Co_draw [] [0, 1, 2, 3, 4, 5, 6, 7, 8, 9, 10, 11, 12, 13, 14, 15, 16, 17, 18, 19] (by kernel_rfl) (by kernel_rfl) (by kernel_rfl) ?_
    simp only [WW, argTmps, if_true, if_false, Nat.reduceLT, Nat.reduceEqDiff, Nat.zero_add, Nat.reduceAdd, List.getElem?_toArray, List.getElem?_cons_zero, List.getElem?_cons_succ, List.length_cons, List.length_nil, Option.map_some, reduceCtorEq, Nat.succ_ne_self, Nat.one_ne_zero, Nat.zero_ne_one, Option.some_beq_some, beq_self_eq_true, Bool.not_true, Bool.not_false, Bool.true_beq, Bool.false_beq, WD, and_true, true_and, and_self, WT, la, lb, wrapS (show rest.length < 1000000000000 by omega), decide_eq_true (show ((na : Nat) : Int) = ((rest.length + 1 : Nat) : Int) by omega), hidx0, u1.lda ag87 sz87, c719, ldC_all (n := 12) (cells := rx.cells) rfl, neqRx, decide_true, s1]
    refine (begun_same (a := rest) s2 hw15 (by unfold Bd; omega)).mono ?_
    rintro r σ10 ⟨rfl, rfl⟩
    obtain ⟨σ11, e11⟩ : ∃ σ11, σ9.put σ2.next (.arr 0 c') = σ11 := ⟨_, rfl⟩
    have n11 : σ11.next = σ9.next := by rw [← e11, next_put]
    have get11 : ∀ k, k ≠ σ2.next → σ11.get k = σ9.get k := fun k h => by rw [← e11, get_put, if_neg h]
    simp only [WW, argTmps, if_true, if_false, Nat.reduceLT, Nat.reduceEqDiff, Nat.zero_add, Nat.reduceAdd, List.getElem?_toArray, List.getElem?_cons_zero, List.getElem?_cons_succ, List.length_cons, List.length_nil, Option.map_some, reduceCtorEq, Nat.succ_ne_self, Nat.one_ne_zero, Nat.zero_ne_one, Option.some_beq_some, beq_self_eq_true, Bool.not_true, Bool.not_false, Bool.true_beq, Bool.false_beq, WD, and_true, true_and, and_self, WT, c79, ldC_all fc'.2, f3, hc9, st64 (c := c') (z := c) fc'.1 fc'.2 fc.2, e11, f8, wrapS (show i < 1000000000000 by omega)]
    have b7 := g8.le
    have b9 := g9.le
    have kold : ∀ id, (id < σ5.next ∧ id ≠ σ2.next) → σ11.get id = σ5.get id := fun id h => (get11 id h.2).trans (G9.get id h.1)
    have Pold : ∀ id, (id < σ5.next ∧ id ≠ σ2.next) → id < σ11.next ∧ id ≠ σ2.next := fun id h => ⟨by omega, h.2⟩
    have knew : ∀ id, (σ5.next ≤ id ∧ id < σ6.next) → σ11.get id = σ6.get id := fun id h => by
      rw [get11 id (by omega)]
      exact ((g7.trans g8).trans g9).get id h.2
    have Pnew : ∀ id, (σ5.next ≤ id ∧ id < σ6.next) → id < σ11.next ∧ id ≠ σ2.next := fun id h => ⟨by omega, by omega⟩
    have hsum : many { a with qs := qs' } + 1 = many a := tk.sum
    exact kn (m - 1) _ _ (by omega) ⟨i + 1, _, { a with qs := qs' }, c', left, v', by omega, by omega, rfl, by omega, by rw [← e11]; exact put_cells, rec_move hrec' knew Pnew, hra', rd_move hl0r kold Pold, rd_move hl' knew Pnew, by have := tk.short; omega,
      fun h hh => by
        rcases hJ h hh with h1 | h1
        · exact tk.all h h1
        · exact .inr (tk.old h h1),
      by simp only [WW, argTmps, if_true, if_false, Nat.reduceLT, Nat.reduceEqDiff, Nat.zero_add, Nat.reduceAdd, List.getElem?_toArray, List.getElem?_cons_zero, List.getElem?_cons_succ, List.length_cons, List.length_nil, Option.map_some, reduceCtorEq, Nat.succ_ne_self, Nat.one_ne_zero, Nat.zero_ne_one, Option.some_beq_some, beq_self_eq_true, Bool.not_true, Bool.not_false, Bool.true_beq, Bool.false_beq]; exact f3, by simp only [WW, argTmps, if_true, if_false, Nat.reduceLT, Nat.reduceEqDiff, Nat.zero_add, Nat.reduceAdd, List.getElem?_toArray, List.getElem?_cons_zero, List.getElem?_cons_succ, List.length_cons, List.length_nil, Option.map_some, reduceCtorEq, Nat.succ_ne_self, Nat.one_ne_zero, Nat.zero_ne_one, Option.some_beq_some, beq_self_eq_true, Bool.not_true, Bool.not_false, Bool.true_beq, Bool.false_beq]; exact f4, by simp only [WW, argTmps, if_true, if_false, Nat.reduceLT, Nat.reduceEqDiff, Nat.zero_add, Nat.reduceAdd, List.getElem?_toArray, List.getElem?_cons_zero, List.getElem?_cons_succ, List.length_cons, List.length_nil, Option.map_some, reduceCtorEq, Nat.succ_ne_self, Nat.one_ne_zero, Nat.zero_ne_one, Option.some_beq_some, beq_self_eq_true, Bool.not_true, Bool.not_false, Bool.true_beq, Bool.false_beq]; exact f6, by simp only [WW, argTmps, if_true, if_false, Nat.reduceLT, Nat.reduceEqDiff, Nat.zero_add, Nat.reduceAdd, List.getElem?_toArray, List.getElem?_cons_zero, List.getElem?_cons_succ, List.length_cons, List.length_nil, Option.map_some, reduceCtorEq, Nat.succ_ne_self, Nat.one_ne_zero, Nat.zero_ne_one, Option.some_beq_some, beq_self_eq_true, Bool.not_true, Bool.not_false, Bool.true_beq, Bool.false_beq], by simp only [WW, argTmps, if_true, if_false, Nat.reduceLT, Nat.reduceEqDiff, Nat.zero_add, Nat.reduceAdd, List.getElem?_toArray, List.getElem?_cons_zero, List.getElem?_cons_succ, List.length_cons, List.length_nil, Option.map_some, reduceCtorEq, Nat.succ_ne_self, Nat.one_ne_zero, Nat.zero_ne_one, Option.some_beq_some, beq_self_eq_true, Bool.not_true, Bool.not_false, Bool.true_beq, Bool.false_beq]⟩
end Go.Proofs.YtmchghdmejbblaaGreatDoor
