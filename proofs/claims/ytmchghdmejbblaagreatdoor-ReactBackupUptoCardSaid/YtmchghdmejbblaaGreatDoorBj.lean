/- canopyref26.Same. -/
import Derived.Test.YtmchghdmejbblaaGreatDoorBi
import Derived.Laws.Strings
set_option linter.unusedSimpArgs false
set_option linter.unusedVariables false
noncomputable section
namespace Go.Proofs.YtmchghdmejbblaaGreatDoor
open Go Go.Ab Go.RowKit

theorem bytes_beq (a b : ByteArray) : (a.toList == b.toList) = decide (a = b) := by
  rw [Go.ByteArray.toList_eq, Go.ByteArray.toList_eq]
  by_cases h : a = b
  · subst h; simp
  · have h2 : ¬ a.data = b.data := fun e => h (by cases a; cases b; simp only at e; rw [e])
    simp [h, h2]
def chain : List Bool → Option Bool
  | [] => some true
  | b :: l => match b with
    | true => chain l
    | false => some false
theorem chain_all : ∀ l : List Bool, chain l = some (l.all id)
  | [] => rfl
  | b :: l => by cases b <;> simp [chain, chain_all l]
theorem eqRx (r s : Rx) : eqA Mq.T 5 87 (.agg r.cells) (.agg s.cells) = chain [r.el == s.el, r.kind == s.kind, r.cb == s.cb, r.dn.toList == s.dn.toList, r.loc.toList == s.loc.toList, r.space.toList == s.space.toList,
    r.old.toList == s.old.toList, r.new.toList == s.new.toList, r.had == s.had, r.has == s.has, r.src == s.src, r.to == s.to] := by kernel_rfl
set_option maxRecDepth 100000 in
open Classical in
theorem neqRx (r s : Rx) : binA Mq.T .neq 87 (.agg r.cells) (.agg s.cells) = some (.bool !(decide (r = s))) := by
  show otherBin Mq.T .neq 87 (.agg r.cells) (.agg s.cells) = _
  have hg : eqgA Mq.T 87 = false := by kernel_rfl
  simp only [otherBin, hg, eqRx, chain_all, Option.map_some]
  congr 3
  rw [Bool.eq_iff_iff]
  simp only [bytes_beq, List.all_cons, List.all_nil, id, Bool.and_true, Bool.and_eq_true, beq_iff_eq, decide_eq_true_eq]
  constructor
  · rintro ⟨h1, h2, h3, h4, h5, h6, h7, h8, h9, h10, h11, h12⟩
    cases r; cases s; simp only at *; subst h1 h2 h3 h4 h5 h6 h7 h8 h9 h10 h11 h12; rfl
  · rintro rfl
    simp
theorem leave_tmp {fn : Func} {d n : Nat} {t : Tr AV} {σ : St} {v : AV} {Q : AV → St → Prop} (hr : fn.results.toList = [.tmp d]) (hv : getT t d = v) (q : Q v σ) : Leave Mq fn Q .ret ⟨t, [], n, none⟩ σ := by
  refine ⟨rfl, [v], ?_, q⟩
  rw [hr]
  simp only [resultsA, resultA, hv]
theorem get_some {α : Type} {l : List α} {i : Nat} (h : i < l.length) : ∃ x, l[i]? = some x := ⟨l[i], by simp [h]⟩
theorem bne_false_of {a b : Nat} (h : a = b) : (!(decide ((a : Int) = (b : Int)))) = false := by simp [h]
theorem bne_true_of {a b : Nat} (h : a ≠ b) : (!(decide ((a : Int) = (b : Int)))) = true := by
  have : ¬ (a : Int) = b := by omega
  simp [this]
theorem ReC.fit {p : Nat → Prop} {σ : St} {c : List AV} {s : Re} (h : ReC p σ c s) : c.all AV.one = true ∧ c.length = 4 := by
  obtain ⟨vq, vs, vb, rfl, hq, hst, hb⟩ := h
  exact ⟨fr4 hq.one hst.one hb.one, rfl⟩

set_option maxRecDepth 100000 in
open Classical in
theorem same_ok {σ : St} {ca cb : List AV} {a b : Re} (ha : ReC (· < σ.next) σ ca a) (hb : ReC (· < σ.next) σ cb b) (hs : a.ok) : Ca Mq 37 [.agg ca, .agg cb] σ fun r σ' => r = .bool (decide (a = b)) ∧ Gro σ σ' := by
  obtain ⟨σ2, e2⟩ : ∃ σ2, (σ.add (.arr 0 ca)).add (.arr 0 cb) = σ2 := ⟨_, rfl⟩
  have g2 : Gro σ σ2 := by rw [← e2]; exact (Gro.add _ _).trans (Gro.add _ _)
  have cA : cellsAt σ2 σ.next 0 = some ca := by rw [← e2, cellsAt_add_old (by rw [next_add]; omega), cellsAt_add_new]
  have cB : cellsAt σ2 (σ.next + 1) 0 = some cb := by
    rw [← e2]
    exact cellsAt_of (by rw [get_add, if_pos (by rw [next_add])])
  have fa := ha.fit
  have fb := hb.fit
  obtain ⟨vq, vs, vb, rfl, hq, hst, hbk⟩ := ha.gro g2
  obtain ⟨wq, ws, wb, rfl, kq, kst, kbk⟩ := hb.gro g2
  have l1 := hq.len und61
  have l2 := kq.len und61
  have l3 := hst.len und62
  have l4 := kst.len und62
  have hs1 := hs.qs
  have hs2 := hs.stack
  unfold Bd at hs1 hs2
  refine Ca.enter (fn := Tryz.f37) rfl (by kernel_rfl) rfl (by kernel_rfl) (Nat.le_of_ble_eq_true rfl) 125 _ rfl rfl ?_
  generalize hQ : Leave Mq Tryz.f37 _ = Q
  have ret : ∀ t, getT t 4 = .bool (decide (a = b)) → Q .ret ⟨t, [], 125, none⟩ σ2 := fun t ht => by
    subst hQ; exact leave_tmp (d := 4) rfl ht ⟨rfl, g2⟩
  clear hQ
  by_cases hlq : a.qs.length = b.qs.length
  case neg =>
    simp only [WW, argTmps, if_true, if_false, Nat.reduceLT, Nat.reduceEqDiff, Nat.zero_add, Nat.reduceAdd, List.getElem?_toArray, List.getElem?_cons_zero, List.getElem?_cons_succ, List.length_cons, List.length_nil, Option.map_some, reduceCtorEq, Nat.succ_ne_self, Nat.one_ne_zero, Nat.zero_ne_one, Option.some_beq_some, beq_self_eq_true, Bool.not_true, Bool.not_false, Bool.true_beq, Bool.false_beq, WT, opNew_eq fa.1, opNew_eq fb.1, AV.cells, next_add, e2, cA, cB, l1, l2, bne_true_of hlq, Option.some_beq_some]
    exact ret _ (by simp only [WW, argTmps, if_true, if_false, Nat.reduceLT, Nat.reduceEqDiff, Nat.zero_add, Nat.reduceAdd, List.getElem?_toArray, List.getElem?_cons_zero, List.getElem?_cons_succ, List.length_cons, List.length_nil, Option.map_some, reduceCtorEq, Nat.succ_ne_self, Nat.one_ne_zero, Nat.zero_ne_one, Option.some_beq_some, beq_self_eq_true, Bool.not_true, Bool.not_false, Bool.true_beq, Bool.false_beq]; rw [decide_eq_false (fun e => hlq (by rw [e]))])
  by_cases hls : a.stack.length = b.stack.length
  case neg =>
    simp only [WW, argTmps, if_true, if_false, Nat.reduceLT, Nat.reduceEqDiff, Nat.zero_add, Nat.reduceAdd, List.getElem?_toArray, List.getElem?_cons_zero, List.getElem?_cons_succ, List.length_cons, List.length_nil, Option.map_some, reduceCtorEq, Nat.succ_ne_self, Nat.one_ne_zero, Nat.zero_ne_one, Option.some_beq_some, beq_self_eq_true, Bool.not_true, Bool.not_false, Bool.true_beq, Bool.false_beq, WT, opNew_eq fa.1, opNew_eq fb.1, AV.cells, next_add, e2, cA, cB, l1, l2, l3, l4, bne_false_of hlq, bne_true_of hls, Option.some_beq_some]
    exact ret _ (by simp only [WW, argTmps, if_true, if_false, Nat.reduceLT, Nat.reduceEqDiff, Nat.zero_add, Nat.reduceAdd, List.getElem?_toArray, List.getElem?_cons_zero, List.getElem?_cons_succ, List.length_cons, List.length_nil, Option.map_some, reduceCtorEq, Nat.succ_ne_self, Nat.one_ne_zero, Nat.zero_ne_one, Option.some_beq_some, beq_self_eq_true, Bool.not_true, Bool.not_false, Bool.true_beq, Bool.false_beq]; rw [decide_eq_false (fun e => hls (by rw [e]))])
  simp only [WW, argTmps, if_true, if_false, Nat.reduceLT, Nat.reduceEqDiff, Nat.zero_add, Nat.reduceAdd, List.getElem?_toArray, List.getElem?_cons_zero, List.getElem?_cons_succ, List.length_cons, List.length_nil, Option.map_some, reduceCtorEq, Nat.succ_ne_self, Nat.one_ne_zero, Nat.zero_ne_one, Option.some_beq_some, beq_self_eq_true, Bool.not_true, Bool.not_false, Bool.true_beq, Bool.false_beq, WT, opNew_eq fa.1, opNew_eq fb.1, AV.cells, next_add, e2, cA, cB, l1, l2, l3, l4, bne_false_of hlq, bne_false_of hls, Option.some_beq_some]
  refine (ints_ok hbk kbk hs.backup).mono ?_
  rintro r σ' ⟨rfl, rfl⟩
  by_cases hbk2 : a.backup = b.backup
  case neg =>
    simp only [WW, argTmps, if_true, if_false, Nat.reduceLT, Nat.reduceEqDiff, Nat.zero_add, Nat.reduceAdd, List.getElem?_toArray, List.getElem?_cons_zero, List.getElem?_cons_succ, List.length_cons, List.length_nil, Option.map_some, reduceCtorEq, Nat.succ_ne_self, Nat.one_ne_zero, Nat.zero_ne_one, Option.some_beq_some, beq_self_eq_true, Bool.not_true, Bool.not_false, Bool.true_beq, Bool.false_beq, WT, hbk2, decide_false]
    exact ret _ (by simp only [WW, argTmps, if_true, if_false, Nat.reduceLT, Nat.reduceEqDiff, Nat.zero_add, Nat.reduceAdd, List.getElem?_toArray, List.getElem?_cons_zero, List.getElem?_cons_succ, List.length_cons, List.length_nil, Option.map_some, reduceCtorEq, Nat.succ_ne_self, Nat.one_ne_zero, Nat.zero_ne_one, Option.some_beq_some, beq_self_eq_true, Bool.not_true, Bool.not_false, Bool.true_beq, Bool.false_beq]; rw [decide_eq_false (fun e => hbk2 (by rw [e]))])
  have hbb := bin_bool_neq (P := Mq.T) (e := 4) (a := a.busy) (b := b.busy) (by kernel_rfl) (by kernel_rfl)
  by_cases hbz : a.busy = b.busy
  case neg =>
    have : (!(a.busy == b.busy)) = true := by simp [hbz]
    simp only [WW, argTmps, if_true, if_false, Nat.reduceLT, Nat.reduceEqDiff, Nat.zero_add, Nat.reduceAdd, List.getElem?_toArray, List.getElem?_cons_zero, List.getElem?_cons_succ, List.length_cons, List.length_nil, Option.map_some, reduceCtorEq, Nat.succ_ne_self, Nat.one_ne_zero, Nat.zero_ne_one, Option.some_beq_some, beq_self_eq_true, Bool.not_true, Bool.not_false, Bool.true_beq, Bool.false_beq, WT, hbk2, decide_true, cA, cB, hbb, this]
    exact ret _ (by simp only [WW, argTmps, if_true, if_false, Nat.reduceLT, Nat.reduceEqDiff, Nat.zero_add, Nat.reduceAdd, List.getElem?_toArray, List.getElem?_cons_zero, List.getElem?_cons_succ, List.length_cons, List.length_nil, Option.map_some, reduceCtorEq, Nat.succ_ne_self, Nat.one_ne_zero, Nat.zero_ne_one, Option.some_beq_some, beq_self_eq_true, Bool.not_true, Bool.not_false, Bool.true_beq, Bool.false_beq]; rw [decide_eq_false (fun e => hbz (by rw [e]))])
  have hbz2 : (!(a.busy == b.busy)) = false := by simp [hbz]
  simp only [WW, argTmps, if_true, if_false, Nat.reduceLT, Nat.reduceEqDiff, Nat.zero_add, Nat.reduceAdd, List.getElem?_toArray, List.getElem?_cons_zero, List.getElem?_cons_succ, List.length_cons, List.length_nil, Option.map_some, reduceCtorEq, Nat.succ_ne_self, Nat.one_ne_zero, Nat.zero_ne_one, Option.some_beq_some, beq_self_eq_true, Bool.not_true, Bool.not_false, Bool.true_beq, Bool.false_beq, WT, hbk2, decide_true, cA, cB, hbb, hbz2]
  refine Co_loop (fun m fr σ1 => ∃ i t, m + i = a.qs.length ∧ fr = ⟨t, [], 125, none⟩ ∧ σ2 = σ1 ∧ a.qs.take i = b.qs.take i ∧ getT t 2 = .ptr σ.next 0 0 ∧ getT t 3 = .ptr (σ.next + 1) 0 0 ∧ getT t 5 = .int .i64 (i : Nat)) a.qs.length
    ⟨0, _, rfl, rfl, rfl, rfl, by simp only [WW, argTmps, if_true, if_false, Nat.reduceLT, Nat.reduceEqDiff, Nat.zero_add, Nat.reduceAdd, List.getElem?_toArray, List.getElem?_cons_zero, List.getElem?_cons_succ, List.length_cons, List.length_nil, Option.map_some, reduceCtorEq, Nat.succ_ne_self, Nat.one_ne_zero, Nat.zero_ne_one, Option.some_beq_some, beq_self_eq_true, Bool.not_true, Bool.not_false, Bool.true_beq, Bool.false_beq], by simp only [WW, argTmps, if_true, if_false, Nat.reduceLT, Nat.reduceEqDiff, Nat.zero_add, Nat.reduceAdd, List.getElem?_toArray, List.getElem?_cons_zero, List.getElem?_cons_succ, List.length_cons, List.length_nil, Option.map_some, reduceCtorEq, Nat.succ_ne_self, Nat.one_ne_zero, Nat.zero_ne_one, Option.some_beq_some, beq_self_eq_true, Bool.not_true, Bool.not_false, Bool.true_beq, Bool.false_beq], by simp only [WW, argTmps, if_true, if_false, Nat.reduceLT, Nat.reduceEqDiff, Nat.zero_add, Nat.reduceAdd, List.getElem?_toArray, List.getElem?_cons_zero, List.getElem?_cons_succ, List.length_cons, List.length_nil, Option.map_some, reduceCtorEq, Nat.succ_ne_self, Nat.one_ne_zero, Nat.zero_ne_one, Option.some_beq_some, beq_self_eq_true, Bool.not_true, Bool.not_false, Bool.true_beq, Bool.false_beq]; rfl⟩ ?_
  rintro m fr σ1 K ⟨i, t, hm, rfl, rfl, ht, g2', g3, g5⟩ kn ke kr
  simp only [WW, argTmps, if_true, if_false, Nat.reduceLT, Nat.reduceEqDiff, Nat.zero_add, Nat.reduceAdd, List.getElem?_toArray, List.getElem?_cons_zero, List.getElem?_cons_succ, List.length_cons, List.length_nil, Option.map_some, reduceCtorEq, Nat.succ_ne_self, Nat.one_ne_zero, Nat.zero_ne_one, Option.some_beq_some, beq_self_eq_true, Bool.not_true, Bool.not_false, Bool.true_beq, Bool.false_beq, WT, g2', g3, g5, cA, l1]
  by_cases hi : i < a.qs.length
  case neg =>
    simp only [natge hi, WW, argTmps, if_true, if_false, Nat.reduceLT, Nat.reduceEqDiff, Nat.zero_add, Nat.reduceAdd, List.getElem?_toArray, List.getElem?_cons_zero, List.getElem?_cons_succ, List.length_cons, List.length_nil, Option.map_some, reduceCtorEq, Nat.succ_ne_self, Nat.one_ne_zero, Nat.zero_ne_one, Option.some_beq_some, beq_self_eq_true, Bool.not_true, Bool.not_false, Bool.true_beq, Bool.false_beq, WT, ke, kr]
    have hqs : a.qs = b.qs := take_eq hlq ht (by omega)
    refine Co_loop (fun m fr σ1 => ∃ i t, m + i = a.stack.length ∧ fr = ⟨t, [], 125, none⟩ ∧ σ2 = σ1 ∧ a.stack.take i = b.stack.take i ∧ getT t 2 = .ptr σ.next 0 0 ∧ getT t 3 = .ptr (σ.next + 1) 0 0 ∧ getT t 7 = .int .i64 (i : Nat)) a.stack.length
      ⟨0, _, rfl, rfl, rfl, rfl, by simp only [WW, argTmps, if_true, if_false, Nat.reduceLT, Nat.reduceEqDiff, Nat.zero_add, Nat.reduceAdd, List.getElem?_toArray, List.getElem?_cons_zero, List.getElem?_cons_succ, List.length_cons, List.length_nil, Option.map_some, reduceCtorEq, Nat.succ_ne_self, Nat.one_ne_zero, Nat.zero_ne_one, Option.some_beq_some, beq_self_eq_true, Bool.not_true, Bool.not_false, Bool.true_beq, Bool.false_beq]; exact g2', by simp only [WW, argTmps, if_true, if_false, Nat.reduceLT, Nat.reduceEqDiff, Nat.zero_add, Nat.reduceAdd, List.getElem?_toArray, List.getElem?_cons_zero, List.getElem?_cons_succ, List.length_cons, List.length_nil, Option.map_some, reduceCtorEq, Nat.succ_ne_self, Nat.one_ne_zero, Nat.zero_ne_one, Option.some_beq_some, beq_self_eq_true, Bool.not_true, Bool.not_false, Bool.true_beq, Bool.false_beq]; exact g3, by simp only [WW, argTmps, if_true, if_false, Nat.reduceLT, Nat.reduceEqDiff, Nat.zero_add, Nat.reduceAdd, List.getElem?_toArray, List.getElem?_cons_zero, List.getElem?_cons_succ, List.length_cons, List.length_nil, Option.map_some, reduceCtorEq, Nat.succ_ne_self, Nat.one_ne_zero, Nat.zero_ne_one, Option.some_beq_some, beq_self_eq_true, Bool.not_true, Bool.not_false, Bool.true_beq, Bool.false_beq]; rfl⟩ ?_
    clear kn ke kr
    rintro m fr σ1 K ⟨i, t, hm, rfl, rfl, ht, g2', g3, g7⟩ kn ke kr
    simp only [WW, argTmps, if_true, if_false, Nat.reduceLT, Nat.reduceEqDiff, Nat.zero_add, Nat.reduceAdd, List.getElem?_toArray, List.getElem?_cons_zero, List.getElem?_cons_succ, List.length_cons, List.length_nil, Option.map_some, reduceCtorEq, Nat.succ_ne_self, Nat.one_ne_zero, Nat.zero_ne_one, Option.some_beq_some, beq_self_eq_true, Bool.not_true, Bool.not_false, Bool.true_beq, Bool.false_beq, WT, g2', g3, g7, cA, l3]
    by_cases hi : i < a.stack.length
    case neg =>
      simp only [natge hi, WW, argTmps, if_true, if_false, Nat.reduceLT, Nat.reduceEqDiff, Nat.zero_add, Nat.reduceAdd, List.getElem?_toArray, List.getElem?_cons_zero, List.getElem?_cons_succ, List.length_cons, List.length_nil, Option.map_some, reduceCtorEq, Nat.succ_ne_self, Nat.one_ne_zero, Nat.zero_ne_one, Option.some_beq_some, beq_self_eq_true, Bool.not_true, Bool.not_false, Bool.true_beq, Bool.false_beq, WT, ke, kr]
      have : a = b := by
        cases a; cases b
        simp only at hqs hbk2 hbz ht hi hls
        rw [hqs, hbk2, hbz, take_eq hls ht (by omega)]
      exact ret _ (by simp only [WW, argTmps, if_true, if_false, Nat.reduceLT, Nat.reduceEqDiff, Nat.zero_add, Nat.reduceAdd, List.getElem?_toArray, List.getElem?_cons_zero, List.getElem?_cons_succ, List.length_cons, List.length_nil, Option.map_some, reduceCtorEq, Nat.succ_ne_self, Nat.one_ne_zero, Nat.zero_ne_one, Option.some_beq_some, beq_self_eq_true, Bool.not_true, Bool.not_false, Bool.true_beq, Bool.false_beq]; rw [decide_eq_true this])
    obtain ⟨x, hx⟩ := get_some hi
    obtain ⟨y, hy⟩ : ∃ y, b.stack[i]? = some y := get_some (by omega)
    obtain ⟨c, e1, ⟨v1, rfl, h1⟩, _⟩ := hst.elt hx
    obtain ⟨c, e3, ⟨v3, rfl, h3⟩, _⟩ := kst.elt hy
    simp only [natlt hi, WW, argTmps, if_true, if_false, Nat.reduceLT, Nat.reduceEqDiff, Nat.zero_add, Nat.reduceAdd, List.getElem?_toArray, List.getElem?_cons_zero, List.getElem?_cons_succ, List.length_cons, List.length_nil, Option.map_some, reduceCtorEq, Nat.succ_ne_self, Nat.one_ne_zero, Nat.zero_ne_one, Option.some_beq_some, beq_self_eq_true, Bool.not_true, Bool.not_false, Bool.true_beq, Bool.false_beq]
    refine Co_draw [] [0, 1, 2, 3, 4, 5, 6, 7, 8, 9, 10, 11] (by kernel_rfl) (by kernel_rfl) (by kernel_rfl) ?_
    simp only [WW, argTmps, if_true, if_false, Nat.reduceLT, Nat.reduceEqDiff, Nat.zero_add, Nat.reduceAdd, List.getElem?_toArray, List.getElem?_cons_zero, List.getElem?_cons_succ, List.length_cons, List.length_nil, Option.map_some, reduceCtorEq, Nat.succ_ne_self, Nat.one_ne_zero, Nat.zero_ne_one, Option.some_beq_some, beq_self_eq_true, Bool.not_true, Bool.not_false, Bool.true_beq, Bool.false_beq, WD, and_true, true_and, and_self, WT, g2', g3, g7, cA, cB, e1.ix und62 sz40, e3.ix und62 sz40, e1.ld0 ag40 (by omega) rfl, e3.ld0 ag40 (by omega) rfl]
    refine (ints_ok h1 h3 (hs.lists x (List.mem_of_getElem? hx))).mono ?_
    rintro r σ' ⟨rfl, rfl⟩
    by_cases hxy : x = y
    · subst hxy
      simp only [decide_true, WW, argTmps, if_true, if_false, Nat.reduceLT, Nat.reduceEqDiff, Nat.zero_add, Nat.reduceAdd, List.getElem?_toArray, List.getElem?_cons_zero, List.getElem?_cons_succ, List.length_cons, List.length_nil, Option.map_some, reduceCtorEq, Nat.succ_ne_self, Nat.one_ne_zero, Nat.zero_ne_one, Option.some_beq_some, beq_self_eq_true, Bool.not_true, Bool.not_false, Bool.true_beq, Bool.false_beq, WD, and_true, true_and, and_self, g2', g3, g7, wrapS (show i < 1000000000000 by omega)]
      exact kn (m - 1) _ _ (by omega) ⟨i + 1, _, by omega, rfl, rfl, take_step ht hx hy, by simp only [WW, argTmps, if_true, if_false, Nat.reduceLT, Nat.reduceEqDiff, Nat.zero_add, Nat.reduceAdd, List.getElem?_toArray, List.getElem?_cons_zero, List.getElem?_cons_succ, List.length_cons, List.length_nil, Option.map_some, reduceCtorEq, Nat.succ_ne_self, Nat.one_ne_zero, Nat.zero_ne_one, Option.some_beq_some, beq_self_eq_true, Bool.not_true, Bool.not_false, Bool.true_beq, Bool.false_beq]; exact g2', by simp only [WW, argTmps, if_true, if_false, Nat.reduceLT, Nat.reduceEqDiff, Nat.zero_add, Nat.reduceAdd, List.getElem?_toArray, List.getElem?_cons_zero, List.getElem?_cons_succ, List.length_cons, List.length_nil, Option.map_some, reduceCtorEq, Nat.succ_ne_self, Nat.one_ne_zero, Nat.zero_ne_one, Option.some_beq_some, beq_self_eq_true, Bool.not_true, Bool.not_false, Bool.true_beq, Bool.false_beq]; exact g3, by simp only [WW, argTmps, if_true, if_false, Nat.reduceLT, Nat.reduceEqDiff, Nat.zero_add, Nat.reduceAdd, List.getElem?_toArray, List.getElem?_cons_zero, List.getElem?_cons_succ, List.length_cons, List.length_nil, Option.map_some, reduceCtorEq, Nat.succ_ne_self, Nat.one_ne_zero, Nat.zero_ne_one, Option.some_beq_some, beq_self_eq_true, Bool.not_true, Bool.not_false, Bool.true_beq, Bool.false_beq]⟩
    · simp only [hxy, decide_false, WW, argTmps, if_true, if_false, Nat.reduceLT, Nat.reduceEqDiff, Nat.zero_add, Nat.reduceAdd, List.getElem?_toArray, List.getElem?_cons_zero, List.getElem?_cons_succ, List.length_cons, List.length_nil, Option.map_some, reduceCtorEq, Nat.succ_ne_self, Nat.one_ne_zero, Nat.zero_ne_one, Option.some_beq_some, beq_self_eq_true, Bool.not_true, Bool.not_false, Bool.true_beq, Bool.false_beq, WD, and_true, true_and, and_self, kr, ke]
      have : a ≠ b := fun e => hxy (by rw [e, hy] at hx; exact (Option.some.inj hx).symm)
      exact ret _ (by simp only [WW, argTmps, if_true, if_false, Nat.reduceLT, Nat.reduceEqDiff, Nat.zero_add, Nat.reduceAdd, List.getElem?_toArray, List.getElem?_cons_zero, List.getElem?_cons_succ, List.length_cons, List.length_nil, Option.map_some, reduceCtorEq, Nat.succ_ne_self, Nat.one_ne_zero, Nat.zero_ne_one, Option.some_beq_some, beq_self_eq_true, Bool.not_true, Bool.not_false, Bool.true_beq, Bool.false_beq]; rw [decide_eq_false this])
  obtain ⟨x, hx⟩ := get_some hi
  obtain ⟨y, hy⟩ : ∃ y, b.qs[i]? = some y := get_some (by omega)
  obtain ⟨c, e1, ⟨v1, rfl, h1⟩, _⟩ := hq.elt hx
  obtain ⟨c, e3, ⟨v3, rfl, h3⟩, _⟩ := kq.elt hy
  have l5 := h1.len und79
  have l6 := h3.len und79
  have hab : a = b → x = y := fun e => by rw [e, hy] at hx; exact (Option.some.inj hx).symm
  simp only [natlt hi, WW, argTmps, if_true, if_false, Nat.reduceLT, Nat.reduceEqDiff, Nat.zero_add, Nat.reduceAdd, List.getElem?_toArray, List.getElem?_cons_zero, List.getElem?_cons_succ, List.length_cons, List.length_nil, Option.map_some, reduceCtorEq, Nat.succ_ne_self, Nat.one_ne_zero, Nat.zero_ne_one, Option.some_beq_some, beq_self_eq_true, Bool.not_true, Bool.not_false, Bool.true_beq, Bool.false_beq]
  refine Co_draw [] [0, 1, 2, 3, 4, 5, 6, 7, 8, 9, 10, 11, 12, 13, 14, 15, 16, 17, 18, 19, 20, 21, 22, 23, 24, 25, 26, 27, 28, 29] (by kernel_rfl) (by kernel_rfl) (by kernel_rfl) ?_
  by_cases hel : x.el = y.el
  case neg =>
    simp only [WW, argTmps, if_true, if_false, Nat.reduceLT, Nat.reduceEqDiff, Nat.zero_add, Nat.reduceAdd, List.getElem?_toArray, List.getElem?_cons_zero, List.getElem?_cons_succ, List.length_cons, List.length_nil, Option.map_some, reduceCtorEq, Nat.succ_ne_self, Nat.one_ne_zero, Nat.zero_ne_one, Option.some_beq_some, beq_self_eq_true, Bool.not_true, Bool.not_false, Bool.true_beq, Bool.false_beq, WD, and_true, true_and, and_self, WT, g2', g3, g5, cA, cB, e1.ix und61 sz81, e3.ix und61 sz81, e1.fa (fun _ _ _ => fa81_0) (fun _ _ => fr81_0), e3.fa (fun _ _ _ => fa81_0) (fun _ _ => fr81_0), e1.ld ag3 (k := 0) (by omega) rfl, e3.ld ag3 (k := 0) (by omega) rfl, hel, decide_false, kr, ke]
    exact ret _ (by simp only [WW, argTmps, if_true, if_false, Nat.reduceLT, Nat.reduceEqDiff, Nat.zero_add, Nat.reduceAdd, List.getElem?_toArray, List.getElem?_cons_zero, List.getElem?_cons_succ, List.length_cons, List.length_nil, Option.map_some, reduceCtorEq, Nat.succ_ne_self, Nat.one_ne_zero, Nat.zero_ne_one, Option.some_beq_some, beq_self_eq_true, Bool.not_true, Bool.not_false, Bool.true_beq, Bool.false_beq]; rw [decide_eq_false (fun e => hel (by rw [hab e]))])
  by_cases hln : x.list.length = y.list.length
  case neg =>
    simp only [WW, argTmps, if_true, if_false, Nat.reduceLT, Nat.reduceEqDiff, Nat.zero_add, Nat.reduceAdd, List.getElem?_toArray, List.getElem?_cons_zero, List.getElem?_cons_succ, List.length_cons, List.length_nil, Option.map_some, reduceCtorEq, Nat.succ_ne_self, Nat.one_ne_zero, Nat.zero_ne_one, Option.some_beq_some, beq_self_eq_true, Bool.not_true, Bool.not_false, Bool.true_beq, Bool.false_beq, WD, and_true, true_and, and_self, WT, g2', g3, g5, cA, cB, e1.ix und61 sz81, e3.ix und61 sz81, e1.fa (fun _ _ _ => fa81_0) (fun _ _ => fr81_0), e3.fa (fun _ _ _ => fa81_0) (fun _ _ => fr81_0), e1.ld ag3 (k := 0) (by omega) rfl, e3.ld ag3 (k := 0) (by omega) rfl, hel, decide_true, kr, ke,
      e1.fa (fun _ _ _ => fa81_1) (fun _ _ => fr81_1), e3.fa (fun _ _ _ => fa81_1) (fun _ _ => fr81_1), e1.ld ag79 (k := 1) (by omega) rfl, e3.ld ag79 (k := 1) (by omega) rfl, l5, l6, bne_true_of hln]
    exact ret _ (by simp only [WW, argTmps, if_true, if_false, Nat.reduceLT, Nat.reduceEqDiff, Nat.zero_add, Nat.reduceAdd, List.getElem?_toArray, List.getElem?_cons_zero, List.getElem?_cons_succ, List.length_cons, List.length_nil, Option.map_some, reduceCtorEq, Nat.succ_ne_self, Nat.one_ne_zero, Nat.zero_ne_one, Option.some_beq_some, beq_self_eq_true, Bool.not_true, Bool.not_false, Bool.true_beq, Bool.false_beq]; rw [decide_eq_false (fun e => hln (by rw [hab e]))])
  simp only [WW, argTmps, if_true, if_false, Nat.reduceLT, Nat.reduceEqDiff, Nat.zero_add, Nat.reduceAdd, List.getElem?_toArray, List.getElem?_cons_zero, List.getElem?_cons_succ, List.length_cons, List.length_nil, Option.map_some, reduceCtorEq, Nat.succ_ne_self, Nat.one_ne_zero, Nat.zero_ne_one, Option.some_beq_some, beq_self_eq_true, Bool.not_true, Bool.not_false, Bool.true_beq, Bool.false_beq, WD, and_true, true_and, and_self, WT, g2', g3, g5, cA, cB, e1.ix und61 sz81, e3.ix und61 sz81, e1.fa (fun _ _ _ => fa81_0) (fun _ _ => fr81_0), e3.fa (fun _ _ _ => fa81_0) (fun _ _ => fr81_0), e1.ld ag3 (k := 0) (by omega) rfl, e3.ld ag3 (k := 0) (by omega) rfl, hel, decide_true,
      e1.fa (fun _ _ _ => fa81_1) (fun _ _ => fr81_1), e3.fa (fun _ _ _ => fa81_1) (fun _ _ => fr81_1), e1.ld ag79 (k := 1) (by omega) rfl, e3.ld ag79 (k := 1) (by omega) rfl, l5, l6, bne_false_of hln]
  have hxl : x.list.length ≤ 4194304 := by
    have h1 := upTo_succ hx
    have h2 := upTo_le a.qs (i + 1)
    have h3 := hs.many
    unfold Bd at h3
    omega
  refine Co_loop (fun m fr σ1 => ∃ k t, m + k = x.list.length ∧ fr = ⟨t, [], 125, none⟩ ∧ σ2 = σ1 ∧ x.list.take k = y.list.take k ∧ getT t 2 = .ptr σ.next 0 0 ∧ getT t 3 = .ptr (σ.next + 1) 0 0 ∧ getT t 5 = .int .i64 (i : Nat) ∧ getT t 6 = .int .i64 (k : Nat)) x.list.length
    ⟨0, _, rfl, rfl, rfl, rfl, by simp only [WW, argTmps, if_true, if_false, Nat.reduceLT, Nat.reduceEqDiff, Nat.zero_add, Nat.reduceAdd, List.getElem?_toArray, List.getElem?_cons_zero, List.getElem?_cons_succ, List.length_cons, List.length_nil, Option.map_some, reduceCtorEq, Nat.succ_ne_self, Nat.one_ne_zero, Nat.zero_ne_one, Option.some_beq_some, beq_self_eq_true, Bool.not_true, Bool.not_false, Bool.true_beq, Bool.false_beq]; exact g2', by simp only [WW, argTmps, if_true, if_false, Nat.reduceLT, Nat.reduceEqDiff, Nat.zero_add, Nat.reduceAdd, List.getElem?_toArray, List.getElem?_cons_zero, List.getElem?_cons_succ, List.length_cons, List.length_nil, Option.map_some, reduceCtorEq, Nat.succ_ne_self, Nat.one_ne_zero, Nat.zero_ne_one, Option.some_beq_some, beq_self_eq_true, Bool.not_true, Bool.not_false, Bool.true_beq, Bool.false_beq]; exact g3, by simp only [WW, argTmps, if_true, if_false, Nat.reduceLT, Nat.reduceEqDiff, Nat.zero_add, Nat.reduceAdd, List.getElem?_toArray, List.getElem?_cons_zero, List.getElem?_cons_succ, List.length_cons, List.length_nil, Option.map_some, reduceCtorEq, Nat.succ_ne_self, Nat.one_ne_zero, Nat.zero_ne_one, Option.some_beq_some, beq_self_eq_true, Bool.not_true, Bool.not_false, Bool.true_beq, Bool.false_beq]; exact g5, by simp only [WW, argTmps, if_true, if_false, Nat.reduceLT, Nat.reduceEqDiff, Nat.zero_add, Nat.reduceAdd, List.getElem?_toArray, List.getElem?_cons_zero, List.getElem?_cons_succ, List.length_cons, List.length_nil, Option.map_some, reduceCtorEq, Nat.succ_ne_self, Nat.one_ne_zero, Nat.zero_ne_one, Option.some_beq_some, beq_self_eq_true, Bool.not_true, Bool.not_false, Bool.true_beq, Bool.false_beq]; rfl⟩ ?_
  rintro m2 fr σ1 K2 ⟨k, t2, hm2, rfl, rfl, ht2, f2, f3, f5, f6⟩ kn2 ke2 kr2
  simp only [WW, argTmps, if_true, if_false, Nat.reduceLT, Nat.reduceEqDiff, Nat.zero_add, Nat.reduceAdd, List.getElem?_toArray, List.getElem?_cons_zero, List.getElem?_cons_succ, List.length_cons, List.length_nil, Option.map_some, reduceCtorEq, Nat.succ_ne_self, Nat.one_ne_zero, Nat.zero_ne_one, Option.some_beq_some, beq_self_eq_true, Bool.not_true, Bool.not_false, Bool.true_beq, Bool.false_beq, WT, f2, f3, f5, f6, cA, e1.ix und61 sz81, e1.fa (fun _ _ _ => fa81_1) (fun _ _ => fr81_1), e1.ld ag79 (k := 1) (by omega) rfl, l5]
  by_cases hk : k < x.list.length
  case neg =>
    simp only [natge hk, WW, argTmps, if_true, if_false, Nat.reduceLT, Nat.reduceEqDiff, Nat.zero_add, Nat.reduceAdd, List.getElem?_toArray, List.getElem?_cons_zero, List.getElem?_cons_succ, List.length_cons, List.length_nil, Option.map_some, reduceCtorEq, Nat.succ_ne_self, Nat.one_ne_zero, Nat.zero_ne_one, Option.some_beq_some, beq_self_eq_true, Bool.not_true, Bool.not_false, Bool.true_beq, Bool.false_beq, WT, ke2, kr2, f5, wrapS (show i < 1000000000000 by omega)]
    have hxy : x = y := by
      cases x; cases y
      simp only at hel hln ht2 hk
      rw [hel, take_eq hln ht2 (by omega)]
    subst hxy
    exact kn (m - 1) _ _ (by omega) ⟨i + 1, _, by omega, rfl, rfl, take_step ht hx hy, by simp only [WW, argTmps, if_true, if_false, Nat.reduceLT, Nat.reduceEqDiff, Nat.zero_add, Nat.reduceAdd, List.getElem?_toArray, List.getElem?_cons_zero, List.getElem?_cons_succ, List.length_cons, List.length_nil, Option.map_some, reduceCtorEq, Nat.succ_ne_self, Nat.one_ne_zero, Nat.zero_ne_one, Option.some_beq_some, beq_self_eq_true, Bool.not_true, Bool.not_false, Bool.true_beq, Bool.false_beq]; exact f2, by simp only [WW, argTmps, if_true, if_false, Nat.reduceLT, Nat.reduceEqDiff, Nat.zero_add, Nat.reduceAdd, List.getElem?_toArray, List.getElem?_cons_zero, List.getElem?_cons_succ, List.length_cons, List.length_nil, Option.map_some, reduceCtorEq, Nat.succ_ne_self, Nat.one_ne_zero, Nat.zero_ne_one, Option.some_beq_some, beq_self_eq_true, Bool.not_true, Bool.not_false, Bool.true_beq, Bool.false_beq]; exact f3, by simp only [WW, argTmps, if_true, if_false, Nat.reduceLT, Nat.reduceEqDiff, Nat.zero_add, Nat.reduceAdd, List.getElem?_toArray, List.getElem?_cons_zero, List.getElem?_cons_succ, List.length_cons, List.length_nil, Option.map_some, reduceCtorEq, Nat.succ_ne_self, Nat.one_ne_zero, Nat.zero_ne_one, Option.some_beq_some, beq_self_eq_true, Bool.not_true, Bool.not_false, Bool.true_beq, Bool.false_beq]⟩
  obtain ⟨rx, hrx⟩ := get_some hk
  obtain ⟨ry, hry⟩ : ∃ y', y.list[k]? = some y' := get_some (by omega)
  obtain ⟨c, u1, ⟨rfl, _⟩, _⟩ := h1.elt hrx
  obtain ⟨c, u3, ⟨rfl, _⟩, _⟩ := h3.elt hry
  simp only [natlt hk, WW, argTmps, if_true, if_false, Nat.reduceLT, Nat.reduceEqDiff, Nat.zero_add, Nat.reduceAdd, List.getElem?_toArray, List.getElem?_cons_zero, List.getElem?_cons_succ, List.length_cons, List.length_nil, Option.map_some, reduceCtorEq, Nat.succ_ne_self, Nat.one_ne_zero, Nat.zero_ne_one, Option.some_beq_some, beq_self_eq_true, Bool.not_true, Bool.not_false, Bool.true_beq, Bool.false_beq]
  refine Co_draw [] [0, 1, 2, 3, 4, 5, 6, 7, 8, 9, 10, 11, 12, 13, 14, 15, 16, 17, 18] (by kernel_rfl) (by kernel_rfl) (by kernel_rfl) ?_
  simp only [WW, argTmps, if_true, if_false, Nat.reduceLT, Nat.reduceEqDiff, Nat.zero_add, Nat.reduceAdd, List.getElem?_toArray, List.getElem?_cons_zero, List.getElem?_cons_succ, List.length_cons, List.length_nil, Option.map_some, reduceCtorEq, Nat.succ_ne_self, Nat.one_ne_zero, Nat.zero_ne_one, Option.some_beq_some, beq_self_eq_true, Bool.not_true, Bool.not_false, Bool.true_beq, Bool.false_beq, WD, and_true, true_and, and_self, WT, f2, f3, f5, f6, cA, cB, e1.ix und61 sz81, e3.ix und61 sz81, e1.fa (fun _ _ _ => fa81_1) (fun _ _ => fr81_1), e3.fa (fun _ _ _ => fa81_1) (fun _ _ => fr81_1), e1.ld ag79 (k := 1) (by omega) rfl, e3.ld ag79 (k := 1) (by omega) rfl,
    u1.ix und79 sz87, u3.ix und79 sz87, u1.lda ag87 sz87, u3.lda ag87 sz87, neqRx]
  by_cases hxy : rx = ry
  · subst hxy
    simp only [decide_true, WW, argTmps, if_true, if_false, Nat.reduceLT, Nat.reduceEqDiff, Nat.zero_add, Nat.reduceAdd, List.getElem?_toArray, List.getElem?_cons_zero, List.getElem?_cons_succ, List.length_cons, List.length_nil, Option.map_some, reduceCtorEq, Nat.succ_ne_self, Nat.one_ne_zero, Nat.zero_ne_one, Option.some_beq_some, beq_self_eq_true, Bool.not_true, Bool.not_false, Bool.true_beq, Bool.false_beq, WD, and_true, true_and, and_self, f2, f3, f5, f6, wrapS (show k < 1000000000000 by omega)]
    exact kn2 (m2 - 1) _ _ (by omega) ⟨k + 1, _, by omega, rfl, rfl, take_step ht2 hrx hry, by simp only [WW, argTmps, if_true, if_false, Nat.reduceLT, Nat.reduceEqDiff, Nat.zero_add, Nat.reduceAdd, List.getElem?_toArray, List.getElem?_cons_zero, List.getElem?_cons_succ, List.length_cons, List.length_nil, Option.map_some, reduceCtorEq, Nat.succ_ne_self, Nat.one_ne_zero, Nat.zero_ne_one, Option.some_beq_some, beq_self_eq_true, Bool.not_true, Bool.not_false, Bool.true_beq, Bool.false_beq]; exact f2, by simp only [WW, argTmps, if_true, if_false, Nat.reduceLT, Nat.reduceEqDiff, Nat.zero_add, Nat.reduceAdd, List.getElem?_toArray, List.getElem?_cons_zero, List.getElem?_cons_succ, List.length_cons, List.length_nil, Option.map_some, reduceCtorEq, Nat.succ_ne_self, Nat.one_ne_zero, Nat.zero_ne_one, Option.some_beq_some, beq_self_eq_true, Bool.not_true, Bool.not_false, Bool.true_beq, Bool.false_beq]; exact f3, by simp only [WW, argTmps, if_true, if_false, Nat.reduceLT, Nat.reduceEqDiff, Nat.zero_add, Nat.reduceAdd, List.getElem?_toArray, List.getElem?_cons_zero, List.getElem?_cons_succ, List.length_cons, List.length_nil, Option.map_some, reduceCtorEq, Nat.succ_ne_self, Nat.one_ne_zero, Nat.zero_ne_one, Option.some_beq_some, beq_self_eq_true, Bool.not_true, Bool.not_false, Bool.true_beq, Bool.false_beq]; exact f5, by simp only [WW, argTmps, if_true, if_false, Nat.reduceLT, Nat.reduceEqDiff, Nat.zero_add, Nat.reduceAdd, List.getElem?_toArray, List.getElem?_cons_zero, List.getElem?_cons_succ, List.length_cons, List.length_nil, Option.map_some, reduceCtorEq, Nat.succ_ne_self, Nat.one_ne_zero, Nat.zero_ne_one, Option.some_beq_some, beq_self_eq_true, Bool.not_true, Bool.not_false, Bool.true_beq, Bool.false_beq]⟩
  · simp only [hxy, decide_false, WW, argTmps, if_true, if_false, Nat.reduceLT, Nat.reduceEqDiff, Nat.zero_add, Nat.reduceAdd, List.getElem?_toArray, List.getElem?_cons_zero, List.getElem?_cons_succ, List.length_cons, List.length_nil, Option.map_some, reduceCtorEq, Nat.succ_ne_self, Nat.one_ne_zero, Nat.zero_ne_one, Option.some_beq_some, beq_self_eq_true, Bool.not_true, Bool.not_false, Bool.true_beq, Bool.false_beq, WD, and_true, true_and, and_self, kr2, ke2, kr, ke]
    have : a ≠ b := fun e => hxy (by
      have := hab e
      subst this
      rw [hrx] at hry
      exact Option.some.inj hry)
    exact ret _ (by simp only [WW, argTmps, if_true, if_false, Nat.reduceLT, Nat.reduceEqDiff, Nat.zero_add, Nat.reduceAdd, List.getElem?_toArray, List.getElem?_cons_zero, List.getElem?_cons_succ, List.length_cons, List.length_nil, Option.map_some, reduceCtorEq, Nat.succ_ne_self, Nat.one_ne_zero, Nat.zero_ne_one, Option.some_beq_some, beq_self_eq_true, Bool.not_true, Bool.not_false, Bool.true_beq, Bool.false_beq]; rw [decide_eq_false this])
end Go.Proofs.YtmchghdmejbblaaGreatDoor
