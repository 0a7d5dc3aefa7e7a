/- Push, Pop: the program's and the document's. -/
import Derived.Test.YtmchghdmejbblaaGreatDoorBq
set_option linter.unusedSimpArgs false
set_option linter.unusedVariables false
noncomputable section
namespace Go.Proofs.YtmchghdmejbblaaGreatDoor
open Go Go.Ab Go.RowKit

def emptyRe : Re := ⟨[], [], [], false⟩
open Classical in
def push (s : Re) : Re × Int := if ¬ RightP s then (emptyRe, 15) else if 1024 ≤ s.stack.length then (emptyRe, 3) else ({ s with stack := s.stack ++ [[]] }, 0)
open Classical in
def pop (s : Re) : Re × List Int × Int := if ¬ RightP s then (emptyRe, [], 15) else if s.stack.length = 0 then (emptyRe, [], 11) else ({ s with stack := s.stack.dropLast }, s.stack.getLast?.getD [], 0)

theorem empty_rec (σ : St) : ReC (· < σ.next) σ [.nils, .nils, .nils, .bool false] emptyRe :=
  ⟨.nils, .nils, .nils, rfl, ⟨[], rfl, trivial, rfl⟩, ⟨[], rfl, trivial, rfl⟩, ⟨[], rfl, trivial, rfl⟩⟩
theorem rd_nils {α : Type} (p : Nat → Prop) (σ : St) (n : Nat) (E : List AV → α → Prop) : Rd p σ n E .nils [] := ⟨[], rfl, trivial, rfl⟩

section
variable {b : Nat} {σ4 : St} {vq vs vb : AV} {s : Re}
theorem push_step (ho : OutP b σ4 vq vs vb s.qs s.stack s.backup) {σ6 : St} (g : Gro σ4 σ6) (hb : b ≤ σ4.next) {x : AV} (hx : elemsA x 1 σ6 = some (1, [.nils])) (hs : s.stack.length ≤ Bd) :
    ∃ vs' σ7, appendA Mq.T [62, 62] [vs, x] σ6 = some (vs', σ7) ∧ vs'.one = true ∧ vs'.cells = [vs'] ∧ σ6.next ≤ σ7.next ∧ (∀ id, id < σ6.next → (id < b ∨ σ4.next ≤ id) → σ7.get id = σ6.get id) ∧
      ∀ σ8, (∀ id, b ≤ id → (id < σ4.next ∨ σ6.next ≤ id) → id < σ7.next → σ8.get id = σ7.get id) → σ7.next ≤ σ8.next → ReC (· < σ8.next) σ8 [vq, vs', vb, .bool s.busy] { s with stack := s.stack ++ [[]] } := by
  obtain ⟨⟨cq, q1, q2⟩, ⟨cs, s1, s2⟩, ⟨cb, b1, b2⟩, bo, ne⟩ := ho
  unfold Bd at hs
  have s16 : Apd b σ6 vs 1 cs := s1.keep g.le fun id e => g.get id (s1.own_lt e).2
  obtain ⟨vs', σ7, e1, e2, e3, e4, e5, e6⟩ := apd_append und62 sz40 by40 zr40 rfl (by omega) (by omega) (by omega) s16 hx rfl (chunks_ones el_one s2) (by rw [s2.length]; simp; omega) (by have := g.le; omega)
  refine ⟨vs', σ7, e1, e2.one.1, e2.one.2, e3, fun id hi h => e5 id hi fun e => ?_, fun σ8 k hn => ?_⟩
  · have := s1.own_lt e
    omega
  · have kp : Keeps (Pown b σ4 vq vs) σ4 σ8 := fun id hi => by
      rw [k id hi.1 (.inl hi.2.1) (by have := hi.2.1; have := g.le; omega), e5 id (by have := hi.2.1; have := g.le; omega) hi.2.2.2, g.get id hi.2.1]
    have ip : ∀ id, Pown b σ4 vq vs id → id < σ8.next := fun id hi => by have := hi.2.1; have := g.le; omega
    have q8 : Apd b σ8 vq 2 cq := q1.keep (by have := g.le; omega) fun id e => by
      have := q1.own_lt e
      rw [k id this.1 (.inl this.2) (by have := g.le; omega), e5 id (by have := g.le; omega) (ne id e), g.get id this.2]
    have s8 : Apd b σ8 vs' 1 (cs ++ [.nils]) := e2.keep hn fun id e => by
      have h7 := e2.own_lt e
      refine k id h7.1 ?_ h7.2
      rcases e6 with e' | e' <;> rw [e'] at e
      · exact .inl (s1.own_lt e).2
      · cases e; exact .inr (Nat.le_refl _)
    have b8 : Apd b σ8 vb 1 cb := b1.keep (by have := g.le; omega) fun id e => kp id (bo id e)
    exact ⟨vq, vs', vb, rfl, q8.rd (q2.mono fun c a e => e.keep kp ip) (by omega) (fun id _ _ h => h), s8.rd ((s2.mono fun c a e => e.keep kp ip).append (Chunks.one rfl ⟨.nils, rfl, rd_nils _ _ _ _⟩)) (by omega) (fun id _ _ h => h), b8.rd b2 (by omega) (fun id _ _ h => h)⟩
end

/-- A slice's head. -/
theorem slice_to {α : Type} {T : Tb} {t e n : Nat} {p : Nat → Prop} {σ : St} {v : AV} {l : List α} {E : List AV → α → Prop} (hu : und T t = some (.slice e)) (hn : sizeA T e = some n) (hv : Rd p σ n E v l) {h : Nat} (hh : h ≤ l.length) (h0 : 0 < l.length) :
    ∃ v', sliceA T t v none (some (.int .i64 (h : Nat))) none = some v' ∧ Rd p σ n E v' (l.take h) ∧ v'.cells = [v'] := by
  obtain ⟨cells, h1, h2, h3⟩ := hv
  have hlen : (l.take h).length = h := by rw [List.length_take]; omega
  have hc : ∀ {cs : List AV} {off : Nat}, off + l.length * n ≤ cs.length → cells = (cs.drop off).take (l.length * n) → Go.Ab.rowAt cs off (h * n) = some (cells.take (h * n)) ∧ Chunks n E (cells.take (h * n)) (l.take h) := fun hle hce => by
    have hmul : h * n ≤ l.length * n := Nat.mul_le_mul_right n hh
    refine ⟨?_, ?_⟩
    · rw [rowAt_of (by omega), hce, List.take_take, Nat.min_eq_left hmul]
    · have : ∀ (l : List α) (cells : List AV) (h : Nat), Chunks n E cells l → Chunks n E (cells.take (h * n)) (l.take h) := fun l => by
        induction l with
        | nil => intro cells h hc; cases hc; simp [Chunks]
        | cons a l ih =>
          intro cells h hc
          obtain ⟨c, r, rfl, h2, h3, h4⟩ := hc
          cases h with
          | zero => simp [Chunks]
          | succ h =>
            refine ⟨c, r.take (h * n), ?_, h2, h3, ih r h h4⟩
            rw [Nat.succ_mul, Nat.add_comm, ← h2, List.take_length_add_append]
      exact this l cells h h3
  rcases elems_cases h1 with ⟨_, hz, _⟩ | ⟨_, hz, _⟩ | ⟨id, ver, off, lo, ex, cs, rfl, hl, hcs, hle, hce⟩ | ⟨id, off, cs, rfl, hcs, hle, hce⟩
  · omega
  · omega
  · obtain ⟨r1, r2⟩ := hc hle hce
    refine ⟨.sl id ver off h lo n ex, ?_, ⟨_, ?_, h2, r2⟩, rfl⟩
    · simp only [sliceA, hu, sliceSl, hn, boundA, natOf, slice2, Nat.beq_refl, Nat.ble_eq_true_of_le (Nat.zero_le h), Nat.ble_eq_true_of_le (show h ≤ lo by omega), Bool.and_self, mkSl_eq, Nat.zero_mul, Nat.add_zero, Nat.sub_zero]
    · simp only [elemsA, hcs, elemsIn, Nat.beq_refl, Nat.ble_eq_true_of_le (show h ≤ lo by omega), Bool.and_self, r1, hlen]
  · obtain ⟨r1, r2⟩ := hc hle hce
    refine ⟨.rsl id off h, ?_, ⟨_, ?_, h2, r2⟩, rfl⟩
    · simp only [sliceA, hu, sliceR, hn, boundA, natOf, sliceR2, Nat.ble_eq_true_of_le (Nat.zero_le h), Nat.ble_eq_true_of_le hh, Bool.and_self, Nat.zero_mul, Nat.add_zero, Nat.sub_zero]
    · simp only [elemsA, hcs, elemsR, r1, hlen]

theorem leave2 {fn : Func} {d d2 n id : Nat} {t : Tr AV} {σ : St} {c : List AV} {v : AV} {Q : AV → St → Prop} (hr : fn.results.toList = [.cell d 64, .tmp d2]) (hd : getT t d = .ptr id 0 0) (hc : cellsAt σ id 0 = some c) (hl : c.length = 4) (h2 : getT t d2 = v) (q : Q (.tup [.agg c, v]) σ) : Leave Mq fn Q .ret ⟨t, [], n, none⟩ σ := by
  refine ⟨rfl, [.agg c, v], ?_, q⟩
  rw [hr]
  simp only [resultsA, resultA, hd, load_ptr, sz64, ag64, hc, ldC_all hl, h2]
theorem leave3 {fn : Func} {d d2 d3 n id : Nat} {t : Tr AV} {σ : St} {c : List AV} {v w : AV} {Q : AV → St → Prop} (hr : fn.results.toList = [.cell d 64, .tmp d2, .tmp d3]) (hd : getT t d = .ptr id 0 0) (hc : cellsAt σ id 0 = some c) (hl : c.length = 4) (h2 : getT t d2 = v) (h3 : getT t d3 = w) (q : Q (.tup [.agg c, v, w]) σ) : Leave Mq fn Q .ret ⟨t, [], n, none⟩ σ := by
  refine ⟨rfl, [.agg c, v, w], ?_, q⟩
  rw [hr]
  simp only [resultsA, resultA, hd, load_ptr, sz64, ag64, hc, ldC_all hl, h2, h3]

/-- Behind the argument boxed and the answer's variable. -/
theorem two_vars {σ : St} {ca : List AV} {s' : Re} (h : ReC (· < σ.next) σ ca s') : ∃ σ2, (σ.add (.arr 0 ca)).add (.arr 0 [.nils, .nils, .nils, .bool false]) = σ2 ∧ Gro σ σ2 ∧ σ2.next = σ.next + 2 ∧ cellsAt σ2 σ.next 0 = some ca ∧ cellsAt σ2 (σ.next + 1) 0 = some [.nils, .nils, .nils, .bool false] ∧ ReC (· < σ2.next) σ2 ca s' := by
  refine ⟨_, rfl, (Gro.add _ _).trans (Gro.add _ _), rfl, ?_, cellsAt_of get_new, h.gro ((Gro.add _ _).trans (Gro.add _ _))⟩
  rw [cellsAt_add_old (by rw [next_add]; omega), cellsAt_add_new]
theorem gro_put {σ σ1 : St} {id : Nat} {o : AObj} (g : Gro σ σ1) (h : σ.next ≤ id) : Gro σ (σ1.put id o) := ⟨by rw [next_put]; exact g.le, fun i hi => by rw [get_put, if_neg (by omega)]; exact g.get i hi⟩
theorem fr_new {vq vs vb : AV} {b : Bool} (h1 : vq.one = true) (h2 : vs.one = true) (h3 : vb.one = true) : ([vq, vs, vb, .bool b] : List AV).all AV.one = true := fr4 h1 h2 h3
theorem outp_ones {b : Nat} {σ : St} {vq vs vb : AV} {qs : List Qu} {st : List (List Int)} {bk : List Int} (h : OutP b σ vq vs vb qs st bk) : vq.one = true ∧ vs.one = true ∧ vb.one = true := by
  obtain ⟨⟨cq, q1, q2⟩, ⟨cs, s1, s2⟩, ⟨cb, b1, b2⟩, bo, ne⟩ := h
  exact ⟨q1.one.1, s1.one.1, b1.one.1⟩

set_option maxRecDepth 100000 in
theorem push33_ok {σ : St} {ca : List AV} {s : Re} (ha : ReC (· < σ.next) σ ca s) (hs : s.ok) : Ca Mq 33 [.agg ca] σ fun r σ' => ∃ c, r = .tup [.agg c, .int .i64 (push s).2] ∧ ReC (· < σ'.next) σ' c (push s).1 ∧ Gro σ σ' := by
  obtain ⟨σ2, e2, g2, n2, c0, c1, ha2⟩ := two_vars ha
  have fa := ha.fit
  refine Ca.enter (fn := Tryz.f33) rfl (by kernel_rfl) rfl (by kernel_rfl) (Nat.le_of_ble_eq_true rfl) 24 _ rfl rfl ?_
  generalize hQ : Leave Mq Tryz.f33 _ = Q
  have no : ∀ t σ' w, Gro σ σ' → getT t 2 = .ptr (σ.next + 1) 0 0 → cellsAt σ' (σ.next + 1) 0 = some [.nils, .nils, .nils, .bool false] → getT t 3 = .int .i64 w → push s = (emptyRe, w) → Q .ret ⟨t, [], 24, none⟩ σ' := fun t σ' w g h1 h2 h3 h4 => by
    subst hQ
    exact leave2 (d := 2) (d2 := 3) rfl h1 h2 rfl h3 ⟨_, by rw [h4], by rw [h4]; exact empty_rec σ', g⟩
  have yes : ∀ t σ' c, Gro σ σ' → getT t 2 = .ptr (σ.next + 1) 0 0 → cellsAt σ' (σ.next + 1) 0 = some c → c.length = 4 → getT t 3 = .int .i64 0 → ∀ s', push s = (s', 0) → ReC (· < σ'.next) σ' c s' → Q .ret ⟨t, [], 24, none⟩ σ' := fun t σ' c g h1 h2 hl h3 s' h4 h5 => by
    subst hQ
    exact leave2 (d := 2) (d2 := 3) rfl h1 h2 hl h3 ⟨_, by rw [h4], by rw [h4]; exact h5, g⟩
  clear hQ
  simp only [WW, argTmps, if_true, if_false, Nat.reduceLT, Nat.reduceEqDiff, Nat.zero_add, Nat.reduceAdd, List.getElem?_toArray, List.getElem?_cons_zero, List.getElem?_cons_succ, List.length_cons, List.length_nil, Option.map_some, reduceCtorEq, Nat.succ_ne_self, Nat.one_ne_zero, Nat.zero_ne_one, Option.some_beq_some, beq_self_eq_true, Bool.not_true, Bool.not_false, Bool.true_beq, Bool.false_beq, WT, opNew_eq fa.1, AV.cells, al64, next_add, e2, c0, ldC_all fa.2]
  refine (check_ok ha2 hs).mono ?_
  rintro r σ3 ⟨rfl, g3⟩
  have c03 := g3.cells (by omega) c0
  have c13 := g3.cells (by omega) c1
  by_cases hr : RightP s
  case neg =>
    rw [right_no hr]
    simp only [WW, argTmps, if_true, if_false, Nat.reduceLT, Nat.reduceEqDiff, Nat.zero_add, Nat.reduceAdd, List.getElem?_toArray, List.getElem?_cons_zero, List.getElem?_cons_succ, List.length_cons, List.length_nil, Option.map_some, reduceCtorEq, Nat.succ_ne_self, Nat.one_ne_zero, Nat.zero_ne_one, Option.some_beq_some, beq_self_eq_true, Bool.not_true, Bool.not_false, Bool.true_beq, Bool.false_beq, WT, Bool.false_eq_true, decide_eq_false (show ¬ (15 : Int) = 0 by omega), evParts_nil, bd64_0, c13, st64 (c := [.nils, .nils, .nils, .bool false]) (z := [.nils, .nils, .nils, .bool false]) rfl rfl rfl]
    exact no _ _ 15 (gro_put (g2.trans g3) (by omega)) (by simp only [WW, argTmps, if_true, if_false, Nat.reduceLT, Nat.reduceEqDiff, Nat.zero_add, Nat.reduceAdd, List.getElem?_toArray, List.getElem?_cons_zero, List.getElem?_cons_succ, List.length_cons, List.length_nil, Option.map_some, reduceCtorEq, Nat.succ_ne_self, Nat.one_ne_zero, Nat.zero_ne_one, Option.some_beq_some, beq_self_eq_true, Bool.not_true, Bool.not_false, Bool.true_beq, Bool.false_beq]) put_cells (by simp only [WW, argTmps, if_true, if_false, Nat.reduceLT, Nat.reduceEqDiff, Nat.zero_add, Nat.reduceAdd, List.getElem?_toArray, List.getElem?_cons_zero, List.getElem?_cons_succ, List.length_cons, List.length_nil, Option.map_some, reduceCtorEq, Nat.succ_ne_self, Nat.one_ne_zero, Nat.zero_ne_one, Option.some_beq_some, beq_self_eq_true, Bool.not_true, Bool.not_false, Bool.true_beq, Bool.false_beq]) (by unfold push; rw [if_pos hr])
  have ha3 := ha2.gro g3
  obtain ⟨vq, vs, vb, rfl, hq, hst, hbk⟩ := ha3
  have l3 := hst.len und62
  rw [right_yes hr]
  by_cases hd : 1024 ≤ s.stack.length
  case pos =>
    simp only [WW, argTmps, if_true, if_false, Nat.reduceLT, Nat.reduceEqDiff, Nat.zero_add, Nat.reduceAdd, List.getElem?_toArray, List.getElem?_cons_zero, List.getElem?_cons_succ, List.length_cons, List.length_nil, Option.map_some, reduceCtorEq, Nat.succ_ne_self, Nat.one_ne_zero, Nat.zero_ne_one, Option.some_beq_some, beq_self_eq_true, Bool.not_true, Bool.not_false, Bool.true_beq, Bool.false_beq, WT, decide_true, c03, l3, decide_eq_true (show (1024 : Int) ≤ ((s.stack.length : Nat) : Int) by omega), evParts_nil, bd64_0, c13, st64 (c := [.nils, .nils, .nils, .bool false]) (z := [.nils, .nils, .nils, .bool false]) rfl rfl rfl]
    exact no _ _ 3 (gro_put (g2.trans g3) (by omega)) (by simp only [WW, argTmps, if_true, if_false, Nat.reduceLT, Nat.reduceEqDiff, Nat.zero_add, Nat.reduceAdd, List.getElem?_toArray, List.getElem?_cons_zero, List.getElem?_cons_succ, List.length_cons, List.length_nil, Option.map_some, reduceCtorEq, Nat.succ_ne_self, Nat.one_ne_zero, Nat.zero_ne_one, Option.some_beq_some, beq_self_eq_true, Bool.not_true, Bool.not_false, Bool.true_beq, Bool.false_beq]) put_cells (by simp only [WW, argTmps, if_true, if_false, Nat.reduceLT, Nat.reduceEqDiff, Nat.zero_add, Nat.reduceAdd, List.getElem?_toArray, List.getElem?_cons_zero, List.getElem?_cons_succ, List.length_cons, List.length_nil, Option.map_some, reduceCtorEq, Nat.succ_ne_self, Nat.one_ne_zero, Nat.zero_ne_one, Option.some_beq_some, beq_self_eq_true, Bool.not_true, Bool.not_false, Bool.true_beq, Bool.false_beq]) (by unfold push; rw [if_neg (fun h => h hr), if_pos hd])
  simp only [WW, argTmps, if_true, if_false, Nat.reduceLT, Nat.reduceEqDiff, Nat.zero_add, Nat.reduceAdd, List.getElem?_toArray, List.getElem?_cons_zero, List.getElem?_cons_succ, List.length_cons, List.length_nil, Option.map_some, reduceCtorEq, Nat.succ_ne_self, Nat.one_ne_zero, Nat.zero_ne_one, Option.some_beq_some, beq_self_eq_true, Bool.not_true, Bool.not_false, Bool.true_beq, Bool.false_beq, WT, decide_true, c03, l3, decide_eq_false (show ¬ (1024 : Int) ≤ ((s.stack.length : Nat) : Int) by omega), ldC_all (n := 4) (cells := [vq, vs, vb, .bool s.busy]) rfl]
  refine (own_ok ⟨vq, vs, vb, rfl, hq, hst, hbk⟩ hs).mono ?_
  rintro r σ4 ⟨wq, ws, wb, rfl, ho, g4⟩
  obtain ⟨o1, o2, o3⟩ := outp_ones ho
  obtain ⟨σ5, e5, g5, n5, c5⟩ := var_ex σ4 [.nils, .nils, .nils, .bool false] [wq, ws, wb, .bool s.busy]
  obtain ⟨σ6, e6⟩ : ∃ σ6, σ5.add (.arr 0 [.nils]) = σ6 := ⟨_, rfl⟩
  have g6 : Gro σ5 σ6 := by rw [← e6]; exact Gro.add _ _
  have n6 : σ6.next = σ5.next + 1 := by rw [← e6]; rfl
  have b43 := g3.le
  have b44 := g4.le
  obtain ⟨ws', σ7, p1, p2, p3, p4, p5, p6⟩ := push_step ho (g5.trans g6) (by omega) (x := .sl σ5.next 0 0 1 1 1 true) (by rw [← e6]; exact one_row rfl) hs.stack
  have c56 := g6.cells (by omega) c5
  have c57 : cellsAt σ7 σ4.next 0 = some [wq, ws, wb, .bool s.busy] := cells_same (p5 _ (by omega) (.inr (by omega))) c56
  have c17 : cellsAt σ7 (σ.next + 1) 0 = some [.nils, .nils, .nils, .bool false] := cells_same (p5 _ (by omega) (.inl (by omega))) (((g4.trans g5).trans g6).cells (by omega) c13)
  simp only [WW, argTmps, if_true, if_false, Nat.reduceLT, Nat.reduceEqDiff, Nat.zero_add, Nat.reduceAdd, List.getElem?_toArray, List.getElem?_cons_zero, List.getElem?_cons_succ, List.length_cons, List.length_nil, Option.map_some, reduceCtorEq, Nat.succ_ne_self, Nat.one_ne_zero, Nat.zero_ne_one, Option.some_beq_some, beq_self_eq_true, Bool.not_true, Bool.not_false, Bool.true_beq, Bool.false_beq, WT, al64, st64 (c := [wq, ws, wb, .bool s.busy]) (z := [.nils, .nils, .nils, .bool false]) (fr4 o1 o2 o3) rfl rfl, e5, c5, evParts_nil, evParts_cons, evP?_some, b1_62 (v := .nils) rfl rfl, e6, c56, p1, c57, st4_1 p3 p2, put_cells,
    ldC_all (n := 4) (cells := [wq, ws', wb, .bool s.busy]) rfl, put_cells_ne (show σ.next + 1 ≠ σ4.next by omega), c17, st64 (c := [wq, ws', wb, .bool s.busy]) (z := [.nils, .nils, .nils, .bool false]) (fr4 o1 p2 o3) rfl rfl]
  have gg : Gro σ σ7 := ⟨by omega, fun id hi => by
    rw [p5 id (by omega) (.inl (by omega))]
    exact (((g2.trans g3).trans g4).trans (g5.trans g6)).get id hi⟩
  refine yes _ _ _ (gro_put (gro_put gg (by omega)) (by omega)) (by simp only [WW, argTmps, if_true, if_false, Nat.reduceLT, Nat.reduceEqDiff, Nat.zero_add, Nat.reduceAdd, List.getElem?_toArray, List.getElem?_cons_zero, List.getElem?_cons_succ, List.length_cons, List.length_nil, Option.map_some, reduceCtorEq, Nat.succ_ne_self, Nat.one_ne_zero, Nat.zero_ne_one, Option.some_beq_some, beq_self_eq_true, Bool.not_true, Bool.not_false, Bool.true_beq, Bool.false_beq]) put_cells rfl (by simp only [WW, argTmps, if_true, if_false, Nat.reduceLT, Nat.reduceEqDiff, Nat.zero_add, Nat.reduceAdd, List.getElem?_toArray, List.getElem?_cons_zero, List.getElem?_cons_succ, List.length_cons, List.length_nil, Option.map_some, reduceCtorEq, Nat.succ_ne_self, Nat.one_ne_zero, Nat.zero_ne_one, Option.some_beq_some, beq_self_eq_true, Bool.not_true, Bool.not_false, Bool.true_beq, Bool.false_beq]) _ (by unfold push; rw [if_neg (fun h => h hr), if_neg hd]) (p6 _ (fun id h1 h2 h3 => ?_) (by rw [next_put, next_put]; omega))
  rw [get_put, if_neg (by omega), get_put, if_neg (by omega)]

set_option maxRecDepth 100000 in
theorem push34_ok {σ : St} {ca : List AV} {s : Re} (ha : ReC (· < σ.next) σ ca s) (hs : s.ok) : Ca Mq 34 [.agg ca] σ fun r σ' => ∃ c, r = .tup [.agg c, .int .i64 (push s).2] ∧ ReC (· < σ'.next) σ' c (push s).1 ∧ Gro σ σ' := by
  obtain ⟨σ2, e2, g2, n2, c0, c1, ha2⟩ := two_vars ha
  have fa := ha.fit
  refine Ca.enter (fn := Tryz.f34) rfl (by kernel_rfl) rfl (by kernel_rfl) (Nat.le_of_ble_eq_true rfl) 21 _ rfl rfl ?_
  generalize hQ : Leave Mq Tryz.f34 _ = Q
  have no : ∀ t σ' w, Gro σ σ' → getT t 2 = .ptr (σ.next + 1) 0 0 → cellsAt σ' (σ.next + 1) 0 = some [.nils, .nils, .nils, .bool false] → getT t 3 = .int .i64 w → push s = (emptyRe, w) → Q .ret ⟨t, [], 21, none⟩ σ' := fun t σ' w g h1 h2 h3 h4 => by
    subst hQ
    exact leave2 (d := 2) (d2 := 3) rfl h1 h2 rfl h3 ⟨_, by rw [h4], by rw [h4]; exact empty_rec σ', g⟩
  have yes : ∀ t σ' c, Gro σ σ' → getT t 2 = .ptr (σ.next + 1) 0 0 → cellsAt σ' (σ.next + 1) 0 = some c → c.length = 4 → getT t 3 = .int .i64 0 → ∀ s', push s = (s', 0) → ReC (· < σ'.next) σ' c s' → Q .ret ⟨t, [], 21, none⟩ σ' := fun t σ' c g h1 h2 hl h3 s' h4 h5 => by
    subst hQ
    exact leave2 (d := 2) (d2 := 3) rfl h1 h2 hl h3 ⟨_, by rw [h4], by rw [h4]; exact h5, g⟩
  clear hQ
  simp only [WW, argTmps, if_true, if_false, Nat.reduceLT, Nat.reduceEqDiff, Nat.zero_add, Nat.reduceAdd, List.getElem?_toArray, List.getElem?_cons_zero, List.getElem?_cons_succ, List.length_cons, List.length_nil, Option.map_some, reduceCtorEq, Nat.succ_ne_self, Nat.one_ne_zero, Nat.zero_ne_one, Option.some_beq_some, beq_self_eq_true, Bool.not_true, Bool.not_false, Bool.true_beq, Bool.false_beq, WT, opNew_eq fa.1, AV.cells, al64, next_add, e2, c0, ldC_all fa.2]
  refine (right_ok ha2 hs).mono ?_
  rintro r σ3 ⟨rfl, g3⟩
  have c03 := g3.cells (by omega) c0
  have c13 := g3.cells (by omega) c1
  by_cases hr : RightP s
  case neg =>
    rw [right_no hr]
    simp only [WW, argTmps, if_true, if_false, Nat.reduceLT, Nat.reduceEqDiff, Nat.zero_add, Nat.reduceAdd, List.getElem?_toArray, List.getElem?_cons_zero, List.getElem?_cons_succ, List.length_cons, List.length_nil, Option.map_some, reduceCtorEq, Nat.succ_ne_self, Nat.one_ne_zero, Nat.zero_ne_one, Option.some_beq_some, beq_self_eq_true, Bool.not_true, Bool.not_false, Bool.true_beq, Bool.false_beq, WT, evParts_nil, bd64_0, c13, st64 (c := [.nils, .nils, .nils, .bool false]) (z := [.nils, .nils, .nils, .bool false]) rfl rfl rfl]
    exact no _ _ 15 (gro_put (g2.trans g3) (by omega)) (by simp only [WW, argTmps, if_true, if_false, Nat.reduceLT, Nat.reduceEqDiff, Nat.zero_add, Nat.reduceAdd, List.getElem?_toArray, List.getElem?_cons_zero, List.getElem?_cons_succ, List.length_cons, List.length_nil, Option.map_some, reduceCtorEq, Nat.succ_ne_self, Nat.one_ne_zero, Nat.zero_ne_one, Option.some_beq_some, beq_self_eq_true, Bool.not_true, Bool.not_false, Bool.true_beq, Bool.false_beq]) put_cells (by simp only [WW, argTmps, if_true, if_false, Nat.reduceLT, Nat.reduceEqDiff, Nat.zero_add, Nat.reduceAdd, List.getElem?_toArray, List.getElem?_cons_zero, List.getElem?_cons_succ, List.length_cons, List.length_nil, Option.map_some, reduceCtorEq, Nat.succ_ne_self, Nat.one_ne_zero, Nat.zero_ne_one, Option.some_beq_some, beq_self_eq_true, Bool.not_true, Bool.not_false, Bool.true_beq, Bool.false_beq]) (by unfold push; rw [if_pos hr])
  have ha3 := ha2.gro g3
  obtain ⟨vq, vs, vb, rfl, hq, hst, hbk⟩ := ha3
  have l3 := hst.len und62
  rw [right_yes hr]
  by_cases hd : 1024 ≤ s.stack.length
  case pos =>
    simp only [WW, argTmps, if_true, if_false, Nat.reduceLT, Nat.reduceEqDiff, Nat.zero_add, Nat.reduceAdd, List.getElem?_toArray, List.getElem?_cons_zero, List.getElem?_cons_succ, List.length_cons, List.length_nil, Option.map_some, reduceCtorEq, Nat.succ_ne_self, Nat.one_ne_zero, Nat.zero_ne_one, Option.some_beq_some, beq_self_eq_true, Bool.not_true, Bool.not_false, Bool.true_beq, Bool.false_beq, WT, c03, l3, decide_eq_true (show (1024 : Int) ≤ ((s.stack.length : Nat) : Int) by omega), evParts_nil, bd64_0, c13, st64 (c := [.nils, .nils, .nils, .bool false]) (z := [.nils, .nils, .nils, .bool false]) rfl rfl rfl]
    exact no _ _ 3 (gro_put (g2.trans g3) (by omega)) (by simp only [WW, argTmps, if_true, if_false, Nat.reduceLT, Nat.reduceEqDiff, Nat.zero_add, Nat.reduceAdd, List.getElem?_toArray, List.getElem?_cons_zero, List.getElem?_cons_succ, List.length_cons, List.length_nil, Option.map_some, reduceCtorEq, Nat.succ_ne_self, Nat.one_ne_zero, Nat.zero_ne_one, Option.some_beq_some, beq_self_eq_true, Bool.not_true, Bool.not_false, Bool.true_beq, Bool.false_beq]) put_cells (by simp only [WW, argTmps, if_true, if_false, Nat.reduceLT, Nat.reduceEqDiff, Nat.zero_add, Nat.reduceAdd, List.getElem?_toArray, List.getElem?_cons_zero, List.getElem?_cons_succ, List.length_cons, List.length_nil, Option.map_some, reduceCtorEq, Nat.succ_ne_self, Nat.one_ne_zero, Nat.zero_ne_one, Option.some_beq_some, beq_self_eq_true, Bool.not_true, Bool.not_false, Bool.true_beq, Bool.false_beq]) (by unfold push; rw [if_neg (fun h => h hr), if_pos hd])
  simp only [WW, argTmps, if_true, if_false, Nat.reduceLT, Nat.reduceEqDiff, Nat.zero_add, Nat.reduceAdd, List.getElem?_toArray, List.getElem?_cons_zero, List.getElem?_cons_succ, List.length_cons, List.length_nil, Option.map_some, reduceCtorEq, Nat.succ_ne_self, Nat.one_ne_zero, Nat.zero_ne_one, Option.some_beq_some, beq_self_eq_true, Bool.not_true, Bool.not_false, Bool.true_beq, Bool.false_beq, WT, c03, l3, decide_eq_false (show ¬ (1024 : Int) ≤ ((s.stack.length : Nat) : Int) by omega), ldC_all (n := 4) (cells := [vq, vs, vb, .bool s.busy]) rfl]
  refine (copy_ok ⟨vq, vs, vb, rfl, hq, hst, hbk⟩ hs).mono ?_
  rintro r σ4 ⟨wq, ws, wb, rfl, ho, g4⟩
  obtain ⟨o1, o2, o3⟩ := outp_ones ho
  have b43 := g3.le
  have b44 := g4.le
  have c04 := g4.cells (by omega) c03
  obtain ⟨σ5, e5⟩ : ∃ σ5, σ4.put σ.next (.arr 0 [wq, ws, wb, .bool s.busy]) = σ5 := ⟨_, rfl⟩
  have n5 : σ5.next = σ4.next := by rw [← e5]; rfl
  have c05 : cellsAt σ5 σ.next 0 = some [wq, ws, wb, .bool s.busy] := by rw [← e5]; exact put_cells
  have c15 : cellsAt σ5 (σ.next + 1) 0 = some [.nils, .nils, .nils, .bool false] := by rw [← e5, put_cells_ne (by omega)]; exact g4.cells (by omega) c13
  have ho5 : OutP σ3.next σ5 wq ws wb s.qs s.stack s.backup := by rw [← e5]; exact ho.put (by omega)
  obtain ⟨σ6, e6⟩ : ∃ σ6, σ5.add (.arr 0 [.nils]) = σ6 := ⟨_, rfl⟩
  have g6 : Gro σ5 σ6 := by rw [← e6]; exact Gro.add _ _
  have n6 : σ6.next = σ5.next + 1 := by rw [← e6]; rfl
  obtain ⟨ws', σ7, p1, p2, p3, p4, p5, p6⟩ := push_step ho5 g6 (by omega) (x := .sl σ5.next 0 0 1 1 1 true) (by rw [← e6]; exact one_row rfl) hs.stack
  have c06 := g6.cells (by omega) c05
  have c57 : cellsAt σ7 σ.next 0 = some [wq, ws, wb, .bool s.busy] := cells_same (p5 _ (by omega) (.inl (by omega))) c06
  have c17 : cellsAt σ7 (σ.next + 1) 0 = some [.nils, .nils, .nils, .bool false] := cells_same (p5 _ (by omega) (.inl (by omega))) (g6.cells (by omega) c15)
  simp only [WW, argTmps, if_true, if_false, Nat.reduceLT, Nat.reduceEqDiff, Nat.zero_add, Nat.reduceAdd, List.getElem?_toArray, List.getElem?_cons_zero, List.getElem?_cons_succ, List.length_cons, List.length_nil, Option.map_some, reduceCtorEq, Nat.succ_ne_self, Nat.one_ne_zero, Nat.zero_ne_one, Option.some_beq_some, beq_self_eq_true, Bool.not_true, Bool.not_false, Bool.true_beq, Bool.false_beq, WT, c04, st64 (c := [wq, ws, wb, .bool s.busy]) (z := [vq, vs, vb, .bool s.busy]) (fr4 o1 o2 o3) rfl rfl, e5, c05, evParts_nil, evParts_cons, evP?_some, b1_62 (v := .nils) rfl rfl, e6, c06, p1, c57, st4_1 p3 p2, put_cells,
    ldC_all (n := 4) (cells := [wq, ws', wb, .bool s.busy]) rfl, put_cells_ne (show σ.next + 1 ≠ σ.next by omega), c17, st64 (c := [wq, ws', wb, .bool s.busy]) (z := [.nils, .nils, .nils, .bool false]) (fr4 o1 p2 o3) rfl rfl]
  have gg : Gro σ σ7 := ⟨by omega, fun id hi => by
    rw [p5 id (by omega) (.inl (by omega)), g6.get id (by omega), ← e5, get_put, if_neg (by omega)]
    exact ((g2.trans g3).trans g4).get id hi⟩
  refine yes _ _ _ (gro_put (gro_put gg (by omega)) (by omega)) (by simp only [WW, argTmps, if_true, if_false, Nat.reduceLT, Nat.reduceEqDiff, Nat.zero_add, Nat.reduceAdd, List.getElem?_toArray, List.getElem?_cons_zero, List.getElem?_cons_succ, List.length_cons, List.length_nil, Option.map_some, reduceCtorEq, Nat.succ_ne_self, Nat.one_ne_zero, Nat.zero_ne_one, Option.some_beq_some, beq_self_eq_true, Bool.not_true, Bool.not_false, Bool.true_beq, Bool.false_beq]) put_cells rfl (by simp only [WW, argTmps, if_true, if_false, Nat.reduceLT, Nat.reduceEqDiff, Nat.zero_add, Nat.reduceAdd, List.getElem?_toArray, List.getElem?_cons_zero, List.getElem?_cons_succ, List.length_cons, List.length_nil, Option.map_some, reduceCtorEq, Nat.succ_ne_self, Nat.one_ne_zero, Nat.zero_ne_one, Option.some_beq_some, beq_self_eq_true, Bool.not_true, Bool.not_false, Bool.true_beq, Bool.false_beq]) _ (by unfold push; rw [if_neg (fun h => h hr), if_neg hd]) (p6 _ (fun id h1 h2 h3 => ?_) (by rw [next_put, next_put]; omega))
  rw [get_put, if_neg (by omega), get_put, if_neg (by omega)]
end Go.Proofs.YtmchghdmejbblaaGreatDoor
