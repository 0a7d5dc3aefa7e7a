/- canopyref26.Right. -/
import Derived.Test.YtmchghdmejbblaaGreatDoorBj
set_option linter.unusedSimpArgs false
set_option linter.unusedVariables false
noncomputable section
namespace Go.Proofs.YtmchghdmejbblaaGreatDoor
open Go Go.Ab Go.RowKit

theorem var_ex (σ : St) (z cs : List AV) : ∃ σ', (σ.add (.arr 0 z)).put σ.next (.arr 0 cs) = σ' ∧ Gro σ σ' ∧ σ'.next = σ.next + 1 ∧ cellsAt σ' σ.next 0 = some cs :=
  ⟨_, rfl, ⟨by rw [next_put, next_add]; omega, fun id h => by rw [get_put, if_neg (Nat.ne_of_lt h), get_add, if_neg (Nat.ne_of_lt h)]⟩, rfl, cellsAt_of (by rw [get_put, if_pos rfl])⟩
theorem stC_all {id ver n : Nat} {x : AV} {σ : St} {z cs : List AV} (hc : x.cells = cs) (hl : cs.length = n) (hz : z.length = n) (ho : cs.all AV.one = true) : stC id ver 0 x σ (some z) (some n) = some (σ.put id (.arr ver cs)) := by
  rw [stC_some (by rw [hc]; exact hl) (by rw [hc]; exact ho) (by omega)]
  have : spliceAt z 0 x.cells = cs := by
    unfold spliceAt
    rw [hc, List.drop_eq_nil_of_le (by omega)]
    simp
  rw [this]
theorem al81 {σ : St} : opAlloc Mq.T 81 σ = some (.val (.ptr σ.next 0 0), σ.add (.arr 0 [.int .i64 0, .nils])) := by
  have hz : zeroA Mq.T 81 = some (.agg [.int .i64 0, .nils]) := by kernel_rfl
  unfold opAlloc
  rw [hz]
  exact opNew_eq rfl
theorem al64 {σ : St} : opAlloc Mq.T 64 σ = some (.val (.ptr σ.next 0 0), σ.add (.arr 0 [.nils, .nils, .nils, .bool false])) := by
  have hz : zeroA Mq.T 64 = some (.agg [.nils, .nils, .nils, .bool false]) := by kernel_rfl
  unfold opAlloc
  rw [hz]
  exact opNew_eq rfl
def zRx : Rx := ⟨0, 0, 0, ⟨#[]⟩, ⟨#[]⟩, ⟨#[]⟩, ⟨#[]⟩, ⟨#[]⟩, false, false, 0, 0⟩
theorem Rx.one (r : Rx) : r.cells.all AV.one = true := rfl
theorem al87 {σ : St} : opAlloc Mq.T 87 σ = some (.val (.ptr σ.next 0 0), σ.add (.arr 0 zRx.cells)) := by
  have hz : zeroA Mq.T 87 = some (.agg zRx.cells) := by kernel_rfl
  unfold opAlloc
  rw [hz]
  exact opNew_eq rfl
theorem fr2 {v : AV} {i : Int} (o1 : v.one = true) : ([.int .i64 i, v] : List AV).all AV.one = true := by
  simp only [List.all_cons, o1, one_int, List.all_nil, Bool.and_self]

theorem st81 {id : Nat} {σ : St} {i : Int} {v : AV} (o : v.one = true) : stC id 0 0 (.agg [.int .i64 i, v]) σ (some [.int .i64 0, .nils]) (some 2) = some (σ.put id (.arr 0 [.int .i64 i, v])) :=
  stC_all (cs := [.int .i64 i, v]) rfl rfl rfl (fr2 o)
theorem st64 {id : Nat} {σ : St} {c z : List AV} (o : c.all AV.one = true) (h : c.length = 4) (hz : z.length = 4) : stC id 0 0 (.agg c) σ (some z) (some 4) = some (σ.put id (.arr 0 c)) :=
  stC_all (cs := c) rfl h hz o
theorem st87 {id : Nat} {σ : St} {r r' : Rx} : stC id 0 0 (.agg r.cells) σ (some r'.cells) (some 12) = some (σ.put id (.arr 0 r.cells)) :=
  stC_all (cs := r.cells) rfl rfl rfl rfl

def okR (e : Int) (r : Rx) : Prop := r.el = e ∧ 1 ≤ r.kind ∧ r.kind < 6
structure okQ (q : Qu) : Prop where
  el : 1 ≤ q.el
  list : q.list.length ≠ 0
  rs : ∀ r ∈ q.list, okR q.el r
structure RightP (s : Re) : Prop where
  qs : ∀ q ∈ s.qs, okQ q
  apart : (s.qs.map (·.el)).Nodup
  stack : ∀ l ∈ s.stack, els l = true
  many : many s ≤ 4096
  deep : s.stack.length ≤ 1024
  backup : els s.backup = true
open Classical in
def right (s : Re) : Bool := decide (RightP s)
open Classical in
theorem right_no {s : Re} (h : ¬ RightP s) : right s = false := by
  unfold right
  exact decide_eq_false h
open Classical in
theorem right_yes {s : Re} (h : RightP s) : right s = true := by
  unfold right
  exact decide_eq_true h

theorem take_mem {α : Type} {l : List α} {i : Nat} {a x : α} (h : l[i]? = some a) : x ∈ l.take (i + 1) ↔ x ∈ l.take i ∨ x = a := by
  rw [List.take_add_one, h]
  simp
theorem list_le {s : Re} (hs : s.ok) {i : Nat} {q : Qu} (h : s.qs[i]? = some q) : q.list.length ≤ 4194304 := by
  have h1 := upTo_succ h
  have h2 := upTo_le s.qs (i + 1)
  have h3 := hs.many
  unfold Bd at h3
  omega
theorem natle {a b : Nat} (h : a ≤ b) : decide ((a : Int) ≤ (b : Int)) = true := decide_eq_true (by omega)

set_option maxRecDepth 100000 in
theorem right_ok {σ : St} {ca : List AV} {s : Re} (ha : ReC (· < σ.next) σ ca s) (hs : s.ok) : Ca Mq 39 [.agg ca] σ fun r σ' => r = .bool (right s) ∧ Gro σ σ' := by
  obtain ⟨σ2, e2⟩ : ∃ σ2, σ.add (.arr 0 ca) = σ2 := ⟨_, rfl⟩
  have g2 : Gro σ σ2 := by rw [← e2]; exact Gro.add _ _
  have n2 : σ2.next = σ.next + 1 := by rw [← e2]; rfl
  have cA : cellsAt σ2 σ.next 0 = some ca := by rw [← e2, cellsAt_add_new]
  have fa := ha.fit
  have ha2 := ha.gro g2
  have hs1 := hs.qs
  have hs2 := hs.stack
  unfold Bd at hs1 hs2
  refine Ca.enter (fn := Tryz.f39) rfl (by kernel_rfl) rfl (by kernel_rfl) (Nat.le_of_ble_eq_true rfl) 105 _ rfl rfl ?_
  generalize hQ : Leave Mq Tryz.f39 _ = Q
  have ret : ∀ t σ', Gro σ2 σ' → getT t 2 = .bool (right s) → Q .ret ⟨t, [], 105, none⟩ σ' := fun t σ' g ht => by
    subst hQ; exact leave_tmp (d := 2) rfl ht ⟨rfl, g2.trans g⟩
  clear hQ
  simp only [WW, argTmps, if_true, if_false, Nat.reduceLT, Nat.reduceEqDiff, Nat.zero_add, Nat.reduceAdd, List.getElem?_toArray, List.getElem?_cons_zero, List.getElem?_cons_succ, List.length_cons, List.length_nil, Option.map_some, reduceCtorEq, Nat.succ_ne_self, Nat.one_ne_zero, Nat.zero_ne_one, Option.some_beq_some, beq_self_eq_true, Bool.not_true, Bool.not_false, Bool.true_beq, Bool.false_beq, WT, opNew_eq fa.1, AV.cells, e2]
  refine Co_loop (fun m fr σ1 => ∃ i t, m + i = s.qs.length ∧ fr = ⟨t, [], 105, none⟩ ∧ Gro σ2 σ1 ∧ (∀ q ∈ s.qs.take i, okQ q) ∧ ((s.qs.take i).map (·.el)).Nodup ∧ getT t 1 = .ptr σ.next 0 0 ∧ getT t 3 = .int .i64 (i : Nat)) s.qs.length
    ⟨0, _, rfl, rfl, Gro.refl _, by simp, by simp, by simp only [WW, argTmps, if_true, if_false, Nat.reduceLT, Nat.reduceEqDiff, Nat.zero_add, Nat.reduceAdd, List.getElem?_toArray, List.getElem?_cons_zero, List.getElem?_cons_succ, List.length_cons, List.length_nil, Option.map_some, reduceCtorEq, Nat.succ_ne_self, Nat.one_ne_zero, Nat.zero_ne_one, Option.some_beq_some, beq_self_eq_true, Bool.not_true, Bool.not_false, Bool.true_beq, Bool.false_beq], by simp only [WW, argTmps, if_true, if_false, Nat.reduceLT, Nat.reduceEqDiff, Nat.zero_add, Nat.reduceAdd, List.getElem?_toArray, List.getElem?_cons_zero, List.getElem?_cons_succ, List.length_cons, List.length_nil, Option.map_some, reduceCtorEq, Nat.succ_ne_self, Nat.one_ne_zero, Nat.zero_ne_one, Option.some_beq_some, beq_self_eq_true, Bool.not_true, Bool.not_false, Bool.true_beq, Bool.false_beq]; rfl⟩ ?_
  rintro m fr σ1 K ⟨i, t, hm, rfl, g1, ho, hnd, f1, f3⟩ kn ke kr
  have ha1 := ha2.gro g1
  have cA1 := g1.cells (by omega) cA
  obtain ⟨vq, vs, vb, rfl, hq, hst, hbk⟩ := ha1
  have l1 := hq.len und61
  have l3 := hst.len und62
  simp only [WW, argTmps, if_true, if_false, Nat.reduceLT, Nat.reduceEqDiff, Nat.zero_add, Nat.reduceAdd, List.getElem?_toArray, List.getElem?_cons_zero, List.getElem?_cons_succ, List.length_cons, List.length_nil, Option.map_some, reduceCtorEq, Nat.succ_ne_self, Nat.one_ne_zero, Nat.zero_ne_one, Option.some_beq_some, beq_self_eq_true, Bool.not_true, Bool.not_false, Bool.true_beq, Bool.false_beq, WT, f1, f3, cA1, l1]
  by_cases hi : i < s.qs.length
  case neg =>
    simp only [natge hi, WW, argTmps, if_true, if_false, Nat.reduceLT, Nat.reduceEqDiff, Nat.zero_add, Nat.reduceAdd, List.getElem?_toArray, List.getElem?_cons_zero, List.getElem?_cons_succ, List.length_cons, List.length_nil, Option.map_some, reduceCtorEq, Nat.succ_ne_self, Nat.one_ne_zero, Nat.zero_ne_one, Option.some_beq_some, beq_self_eq_true, Bool.not_true, Bool.not_false, Bool.true_beq, Bool.false_beq, WT, ke, kr]
    rw [List.take_of_length_le (by omega)] at ho hnd
    refine Co_loop (fun m fr σ3 => ∃ i t, m + i = s.stack.length ∧ fr = ⟨t, [], 105, none⟩ ∧ σ1 = σ3 ∧ (∀ l ∈ s.stack.take i, els l = true) ∧ getT t 1 = .ptr σ.next 0 0 ∧ getT t 7 = .int .i64 (i : Nat)) s.stack.length
      ⟨0, _, rfl, rfl, rfl, by simp, by simp only [WW, argTmps, if_true, if_false, Nat.reduceLT, Nat.reduceEqDiff, Nat.zero_add, Nat.reduceAdd, List.getElem?_toArray, List.getElem?_cons_zero, List.getElem?_cons_succ, List.length_cons, List.length_nil, Option.map_some, reduceCtorEq, Nat.succ_ne_self, Nat.one_ne_zero, Nat.zero_ne_one, Option.some_beq_some, beq_self_eq_true, Bool.not_true, Bool.not_false, Bool.true_beq, Bool.false_beq]; exact f1, by simp only [WW, argTmps, if_true, if_false, Nat.reduceLT, Nat.reduceEqDiff, Nat.zero_add, Nat.reduceAdd, List.getElem?_toArray, List.getElem?_cons_zero, List.getElem?_cons_succ, List.length_cons, List.length_nil, Option.map_some, reduceCtorEq, Nat.succ_ne_self, Nat.one_ne_zero, Nat.zero_ne_one, Option.some_beq_some, beq_self_eq_true, Bool.not_true, Bool.not_false, Bool.true_beq, Bool.false_beq]; rfl⟩ ?_
    clear kn ke kr
    rintro m fr σ3 K ⟨i, t, hm, rfl, rfl, ht, f1, f7⟩ kn ke kr
    simp only [WW, argTmps, if_true, if_false, Nat.reduceLT, Nat.reduceEqDiff, Nat.zero_add, Nat.reduceAdd, List.getElem?_toArray, List.getElem?_cons_zero, List.getElem?_cons_succ, List.length_cons, List.length_nil, Option.map_some, reduceCtorEq, Nat.succ_ne_self, Nat.one_ne_zero, Nat.zero_ne_one, Option.some_beq_some, beq_self_eq_true, Bool.not_true, Bool.not_false, Bool.true_beq, Bool.false_beq, WT, f1, f7, cA1, l3]
    by_cases hi : i < s.stack.length
    case neg =>
      rw [List.take_of_length_le (by omega)] at ht
      simp only [natge hi, WW, argTmps, if_true, if_false, Nat.reduceLT, Nat.reduceEqDiff, Nat.zero_add, Nat.reduceAdd, List.getElem?_toArray, List.getElem?_cons_zero, List.getElem?_cons_succ, List.length_cons, List.length_nil, Option.map_some, reduceCtorEq, Nat.succ_ne_self, Nat.one_ne_zero, Nat.zero_ne_one, Option.some_beq_some, beq_self_eq_true, Bool.not_true, Bool.not_false, Bool.true_beq, Bool.false_beq, WT, ke, kr, f1, cA1, ldC_all (n := 4) (cells := [vq, vs, vb, .bool s.busy]) rfl]
      refine (many_ok ⟨vq, vs, vb, rfl, hq, hst, hbk⟩ hs).mono ?_
      rintro r σ4 ⟨rfl, g4⟩
      have cA4 := g4.cells (show σ.next < σ1.next by have := g1.le; omega) cA1
      have hst4 := hst.keep g4.keeps (q := fun _ => True) (fun _ _ => trivial) (E' := EL (fun _ => True) σ4) (fun c a h => h.keep g4.keeps fun _ _ => trivial)
      have hbk4 := hbk.keep g4.keeps (q := fun _ => True) (fun _ _ => trivial) (fun c a h => h)
      have l4 := hst4.len und62
      by_cases hmn : many s ≤ 4096
      case neg =>
        simp only [WW, argTmps, if_true, if_false, Nat.reduceLT, Nat.reduceEqDiff, Nat.zero_add, Nat.reduceAdd, List.getElem?_toArray, List.getElem?_cons_zero, List.getElem?_cons_succ, List.length_cons, List.length_nil, Option.map_some, reduceCtorEq, Nat.succ_ne_self, Nat.one_ne_zero, Nat.zero_ne_one, Option.some_beq_some, beq_self_eq_true, Bool.not_true, Bool.not_false, Bool.true_beq, Bool.false_beq, WT, decide_eq_false (show ¬ ((many s : Nat) : Int) ≤ 4096 by omega), f1]
        exact ret _ _ (g1.trans g4) (by simp only [WW, argTmps, if_true, if_false, Nat.reduceLT, Nat.reduceEqDiff, Nat.zero_add, Nat.reduceAdd, List.getElem?_toArray, List.getElem?_cons_zero, List.getElem?_cons_succ, List.length_cons, List.length_nil, Option.map_some, reduceCtorEq, Nat.succ_ne_self, Nat.one_ne_zero, Nat.zero_ne_one, Option.some_beq_some, beq_self_eq_true, Bool.not_true, Bool.not_false, Bool.true_beq, Bool.false_beq]; rw [right_no fun h => hmn h.many])
      by_cases hsn : s.stack.length ≤ 1024
      case neg =>
        simp only [WW, argTmps, if_true, if_false, Nat.reduceLT, Nat.reduceEqDiff, Nat.zero_add, Nat.reduceAdd, List.getElem?_toArray, List.getElem?_cons_zero, List.getElem?_cons_succ, List.length_cons, List.length_nil, Option.map_some, reduceCtorEq, Nat.succ_ne_self, Nat.one_ne_zero, Nat.zero_ne_one, Option.some_beq_some, beq_self_eq_true, Bool.not_true, Bool.not_false, Bool.true_beq, Bool.false_beq, WT, decide_eq_true (show ((many s : Nat) : Int) ≤ 4096 by omega), decide_eq_false (show ¬ ((s.stack.length : Nat) : Int) ≤ 1024 by omega), f1, cA4, l4]
        exact ret _ _ (g1.trans g4) (by simp only [WW, argTmps, if_true, if_false, Nat.reduceLT, Nat.reduceEqDiff, Nat.zero_add, Nat.reduceAdd, List.getElem?_toArray, List.getElem?_cons_zero, List.getElem?_cons_succ, List.length_cons, List.length_nil, Option.map_some, reduceCtorEq, Nat.succ_ne_self, Nat.one_ne_zero, Nat.zero_ne_one, Option.some_beq_some, beq_self_eq_true, Bool.not_true, Bool.not_false, Bool.true_beq, Bool.false_beq]; rw [right_no fun h => hsn h.deep])
      simp only [WW, argTmps, if_true, if_false, Nat.reduceLT, Nat.reduceEqDiff, Nat.zero_add, Nat.reduceAdd, List.getElem?_toArray, List.getElem?_cons_zero, List.getElem?_cons_succ, List.length_cons, List.length_nil, Option.map_some, reduceCtorEq, Nat.succ_ne_self, Nat.one_ne_zero, Nat.zero_ne_one, Option.some_beq_some, beq_self_eq_true, Bool.not_true, Bool.not_false, Bool.true_beq, Bool.false_beq, WT, decide_eq_true (show ((many s : Nat) : Int) ≤ 4096 by omega), decide_eq_true (show ((s.stack.length : Nat) : Int) ≤ 1024 by omega), f1, cA4, l4]
      refine (elements_ok hbk4 hs.backup).mono ?_
      rintro r σ5 ⟨rfl, rfl⟩
      simp only [WW, argTmps, if_true, if_false, Nat.reduceLT, Nat.reduceEqDiff, Nat.zero_add, Nat.reduceAdd, List.getElem?_toArray, List.getElem?_cons_zero, List.getElem?_cons_succ, List.length_cons, List.length_nil, Option.map_some, reduceCtorEq, Nat.succ_ne_self, Nat.one_ne_zero, Nat.zero_ne_one, Option.some_beq_some, beq_self_eq_true, Bool.not_true, Bool.not_false, Bool.true_beq, Bool.false_beq, WT]
      refine ret _ _ (g1.trans g4) ?_
      simp only [WW, argTmps, if_true, if_false, Nat.reduceLT, Nat.reduceEqDiff, Nat.zero_add, Nat.reduceAdd, List.getElem?_toArray, List.getElem?_cons_zero, List.getElem?_cons_succ, List.length_cons, List.length_nil, Option.map_some, reduceCtorEq, Nat.succ_ne_self, Nat.one_ne_zero, Nat.zero_ne_one, Option.some_beq_some, beq_self_eq_true, Bool.not_true, Bool.not_false, Bool.true_beq, Bool.false_beq]
      cases hb : els s.backup with
      | true => rw [right_yes ⟨ho, hnd, ht, hmn, hsn, hb⟩]
      | false => rw [right_no fun h => by rw [h.backup] at hb; cases hb]
    obtain ⟨x, hx⟩ := get_some hi
    obtain ⟨c, e1, ⟨v1, rfl, h1⟩, _⟩ := hst.elt hx
    simp only [natlt hi, WW, argTmps, if_true, if_false, Nat.reduceLT, Nat.reduceEqDiff, Nat.zero_add, Nat.reduceAdd, List.getElem?_toArray, List.getElem?_cons_zero, List.getElem?_cons_succ, List.length_cons, List.length_nil, Option.map_some, reduceCtorEq, Nat.succ_ne_self, Nat.one_ne_zero, Nat.zero_ne_one, Option.some_beq_some, beq_self_eq_true, Bool.not_true, Bool.not_false, Bool.true_beq, Bool.false_beq, WT, f1, f7, cA1, e1.ix und62 sz40, e1.ld0 ag40 (by omega) rfl]
    refine (elements_ok h1 (hs.lists x (List.mem_of_getElem? hx))).mono ?_
    rintro r σ5 ⟨rfl, rfl⟩
    cases hb : els x with
    | false =>
      simp only [WW, argTmps, if_true, if_false, Nat.reduceLT, Nat.reduceEqDiff, Nat.zero_add, Nat.reduceAdd, List.getElem?_toArray, List.getElem?_cons_zero, List.getElem?_cons_succ, List.length_cons, List.length_nil, Option.map_some, reduceCtorEq, Nat.succ_ne_self, Nat.one_ne_zero, Nat.zero_ne_one, Option.some_beq_some, beq_self_eq_true, Bool.not_true, Bool.not_false, Bool.true_beq, Bool.false_beq, WT, ke, kr]
      exact ret _ _ g1 (by simp only [WW, argTmps, if_true, if_false, Nat.reduceLT, Nat.reduceEqDiff, Nat.zero_add, Nat.reduceAdd, List.getElem?_toArray, List.getElem?_cons_zero, List.getElem?_cons_succ, List.length_cons, List.length_nil, Option.map_some, reduceCtorEq, Nat.succ_ne_self, Nat.one_ne_zero, Nat.zero_ne_one, Option.some_beq_some, beq_self_eq_true, Bool.not_true, Bool.not_false, Bool.true_beq, Bool.false_beq]; rw [right_no fun h => by rw [h.stack x (List.mem_of_getElem? hx)] at hb; cases hb])
    | true =>
      simp only [WW, argTmps, if_true, if_false, Nat.reduceLT, Nat.reduceEqDiff, Nat.zero_add, Nat.reduceAdd, List.getElem?_toArray, List.getElem?_cons_zero, List.getElem?_cons_succ, List.length_cons, List.length_nil, Option.map_some, reduceCtorEq, Nat.succ_ne_self, Nat.one_ne_zero, Nat.zero_ne_one, Option.some_beq_some, beq_self_eq_true, Bool.not_true, Bool.not_false, Bool.true_beq, Bool.false_beq, WT, f1, f7, wrapS (show i < 1000000000000 by omega)]
      exact kn (m - 1) _ _ (by omega) ⟨i + 1, _, by omega, rfl, rfl, fun l hl => by
        rcases (take_mem hx).1 hl with h | h
        · exact ht l h
        · rw [h]; exact hb, by simp only [WW, argTmps, if_true, if_false, Nat.reduceLT, Nat.reduceEqDiff, Nat.zero_add, Nat.reduceAdd, List.getElem?_toArray, List.getElem?_cons_zero, List.getElem?_cons_succ, List.length_cons, List.length_nil, Option.map_some, reduceCtorEq, Nat.succ_ne_self, Nat.one_ne_zero, Nat.zero_ne_one, Option.some_beq_some, beq_self_eq_true, Bool.not_true, Bool.not_false, Bool.true_beq, Bool.false_beq]; exact f1, by simp only [WW, argTmps, if_true, if_false, Nat.reduceLT, Nat.reduceEqDiff, Nat.zero_add, Nat.reduceAdd, List.getElem?_toArray, List.getElem?_cons_zero, List.getElem?_cons_succ, List.length_cons, List.length_nil, Option.map_some, reduceCtorEq, Nat.succ_ne_self, Nat.one_ne_zero, Nat.zero_ne_one, Option.some_beq_some, beq_self_eq_true, Bool.not_true, Bool.not_false, Bool.true_beq, Bool.false_beq]⟩
  obtain ⟨x, hx⟩ := get_some hi
  have hxm := List.mem_of_getElem? hx
  obtain ⟨c, e1, ⟨v1, rfl, h1⟩, _⟩ := hq.elt hx
  have o1 := h1.one
  obtain ⟨σ3, e3, g3, n3, c3⟩ := var_ex σ1 [.int .i64 0, .nils] [.int .i64 x.el, v1]
  have cA3 := g3.cells (show σ.next < σ1.next by have := g1.le; omega) cA1
  have hq3 := hq.keep g3.keeps (q := fun _ => True) (fun _ _ => trivial) (E' := EQ (fun _ => True) σ3) (fun c a h => h.keep g3.keeps fun _ _ => trivial)
  have h13 := h1.keep g3.keeps (q := fun _ => True) (fun _ _ => trivial) (fun c a h => h)
  have l13 := h13.len und79
  have hxl := list_le hs hx
  simp only [natlt hi, WW, argTmps, if_true, if_false, Nat.reduceLT, Nat.reduceEqDiff, Nat.zero_add, Nat.reduceAdd, List.getElem?_toArray, List.getElem?_cons_zero, List.getElem?_cons_succ, List.length_cons, List.length_nil, Option.map_some, reduceCtorEq, Nat.succ_ne_self, Nat.one_ne_zero, Nat.zero_ne_one, Option.some_beq_some, beq_self_eq_true, Bool.not_true, Bool.not_false, Bool.true_beq, Bool.false_beq, WT, f1, f3, cA1, e1.ix und61 sz81, e1.lda ag81 sz81, al81, st81 o1, e3, c3]
  by_cases hel : 1 ≤ x.el
  case neg =>
    simp only [decide_eq_true (show x.el < 1 by omega), WW, argTmps, if_true, if_false, Nat.reduceLT, Nat.reduceEqDiff, Nat.zero_add, Nat.reduceAdd, List.getElem?_toArray, List.getElem?_cons_zero, List.getElem?_cons_succ, List.length_cons, List.length_nil, Option.map_some, reduceCtorEq, Nat.succ_ne_self, Nat.one_ne_zero, Nat.zero_ne_one, Option.some_beq_some, beq_self_eq_true, Bool.not_true, Bool.not_false, Bool.true_beq, Bool.false_beq, WT, kr, ke]
    exact ret _ _ (g1.trans g3) (by simp only [WW, argTmps, if_true, if_false, Nat.reduceLT, Nat.reduceEqDiff, Nat.zero_add, Nat.reduceAdd, List.getElem?_toArray, List.getElem?_cons_zero, List.getElem?_cons_succ, List.length_cons, List.length_nil, Option.map_some, reduceCtorEq, Nat.succ_ne_self, Nat.one_ne_zero, Nat.zero_ne_one, Option.some_beq_some, beq_self_eq_true, Bool.not_true, Bool.not_false, Bool.true_beq, Bool.false_beq]; rw [right_no fun h => hel (h.qs x hxm).el])
  by_cases hle : x.list.length = 0
  case pos =>
    simp only [decide_eq_false (show ¬ x.el < 1 by omega), WW, argTmps, if_true, if_false, Nat.reduceLT, Nat.reduceEqDiff, Nat.zero_add, Nat.reduceAdd, List.getElem?_toArray, List.getElem?_cons_zero, List.getElem?_cons_succ, List.length_cons, List.length_nil, Option.map_some, reduceCtorEq, Nat.succ_ne_self, Nat.one_ne_zero, Nat.zero_ne_one, Option.some_beq_some, beq_self_eq_true, Bool.not_true, Bool.not_false, Bool.true_beq, Bool.false_beq, WT, c3, l13, decide_eq_true (show ((x.list.length : Nat) : Int) = 0 by omega), kr, ke]
    exact ret _ _ (g1.trans g3) (by simp only [WW, argTmps, if_true, if_false, Nat.reduceLT, Nat.reduceEqDiff, Nat.zero_add, Nat.reduceAdd, List.getElem?_toArray, List.getElem?_cons_zero, List.getElem?_cons_succ, List.length_cons, List.length_nil, Option.map_some, reduceCtorEq, Nat.succ_ne_self, Nat.one_ne_zero, Nat.zero_ne_one, Option.some_beq_some, beq_self_eq_true, Bool.not_true, Bool.not_false, Bool.true_beq, Bool.false_beq]; rw [right_no fun h => (h.qs x hxm).list hle])
  simp only [decide_eq_false (show ¬ x.el < 1 by omega), WW, argTmps, if_true, if_false, Nat.reduceLT, Nat.reduceEqDiff, Nat.zero_add, Nat.reduceAdd, List.getElem?_toArray, List.getElem?_cons_zero, List.getElem?_cons_succ, List.length_cons, List.length_nil, Option.map_some, reduceCtorEq, Nat.succ_ne_self, Nat.one_ne_zero, Nat.zero_ne_one, Option.some_beq_some, beq_self_eq_true, Bool.not_true, Bool.not_false, Bool.true_beq, Bool.false_beq, WT, c3, l13, decide_eq_false (show ¬ ((x.list.length : Nat) : Int) = 0 by omega)]
  refine Co_loop (fun m fr σ4 => ∃ k t, m + k = i ∧ fr = ⟨t, [], 105, none⟩ ∧ σ3 = σ4 ∧ x.el ∉ (s.qs.take k).map (·.el) ∧ getT t 1 = .ptr σ.next 0 0 ∧ getT t 3 = .int .i64 (i : Nat) ∧ getT t 4 = .ptr σ1.next 0 0 ∧ getT t 5 = .int .i64 (k : Nat)) i
    ⟨0, _, rfl, rfl, rfl, by simp, by simp only [WW, argTmps, if_true, if_false, Nat.reduceLT, Nat.reduceEqDiff, Nat.zero_add, Nat.reduceAdd, List.getElem?_toArray, List.getElem?_cons_zero, List.getElem?_cons_succ, List.length_cons, List.length_nil, Option.map_some, reduceCtorEq, Nat.succ_ne_self, Nat.one_ne_zero, Nat.zero_ne_one, Option.some_beq_some, beq_self_eq_true, Bool.not_true, Bool.not_false, Bool.true_beq, Bool.false_beq]; exact f1, by simp only [WW, argTmps, if_true, if_false, Nat.reduceLT, Nat.reduceEqDiff, Nat.zero_add, Nat.reduceAdd, List.getElem?_toArray, List.getElem?_cons_zero, List.getElem?_cons_succ, List.length_cons, List.length_nil, Option.map_some, reduceCtorEq, Nat.succ_ne_self, Nat.one_ne_zero, Nat.zero_ne_one, Option.some_beq_some, beq_self_eq_true, Bool.not_true, Bool.not_false, Bool.true_beq, Bool.false_beq]; exact f3, by simp only [WW, argTmps, if_true, if_false, Nat.reduceLT, Nat.reduceEqDiff, Nat.zero_add, Nat.reduceAdd, List.getElem?_toArray, List.getElem?_cons_zero, List.getElem?_cons_succ, List.length_cons, List.length_nil, Option.map_some, reduceCtorEq, Nat.succ_ne_self, Nat.one_ne_zero, Nat.zero_ne_one, Option.some_beq_some, beq_self_eq_true, Bool.not_true, Bool.not_false, Bool.true_beq, Bool.false_beq], by simp only [WW, argTmps, if_true, if_false, Nat.reduceLT, Nat.reduceEqDiff, Nat.zero_add, Nat.reduceAdd, List.getElem?_toArray, List.getElem?_cons_zero, List.getElem?_cons_succ, List.length_cons, List.length_nil, Option.map_some, reduceCtorEq, Nat.succ_ne_self, Nat.one_ne_zero, Nat.zero_ne_one, Option.some_beq_some, beq_self_eq_true, Bool.not_true, Bool.not_false, Bool.true_beq, Bool.false_beq]; rfl⟩ ?_
  clear f1 f3
  rintro m2 fr σ4 K2 ⟨k, t2, hm2, rfl, rfl, hnm, f1, f3, f4, f5⟩ kn2 ke2 kr2
  simp only [WW, argTmps, if_true, if_false, Nat.reduceLT, Nat.reduceEqDiff, Nat.zero_add, Nat.reduceAdd, List.getElem?_toArray, List.getElem?_cons_zero, List.getElem?_cons_succ, List.length_cons, List.length_nil, Option.map_some, reduceCtorEq, Nat.succ_ne_self, Nat.one_ne_zero, Nat.zero_ne_one, Option.some_beq_some, beq_self_eq_true, Bool.not_true, Bool.not_false, Bool.true_beq, Bool.false_beq, WT, f1, f3, f4, f5]
  by_cases hk : k < i
  case neg =>
    simp only [natge hk, WW, argTmps, if_true, if_false, Nat.reduceLT, Nat.reduceEqDiff, Nat.zero_add, Nat.reduceAdd, List.getElem?_toArray, List.getElem?_cons_zero, List.getElem?_cons_succ, List.length_cons, List.length_nil, Option.map_some, reduceCtorEq, Nat.succ_ne_self, Nat.one_ne_zero, Nat.zero_ne_one, Option.some_beq_some, beq_self_eq_true, Bool.not_true, Bool.not_false, Bool.true_beq, Bool.false_beq, WT, ke2, kr2]
    obtain rfl : k = i := by omega
    refine Co_loop (fun m fr σ4 => ∃ j t, m + j = x.list.length ∧ fr = ⟨t, [], 105, none⟩ ∧ σ3 = σ4 ∧ (∀ r ∈ x.list.take j, okR x.el r) ∧ getT t 1 = .ptr σ.next 0 0 ∧ getT t 3 = .int .i64 (k : Nat) ∧ getT t 4 = .ptr σ1.next 0 0 ∧ getT t 6 = .int .i64 (j : Nat)) x.list.length
      ⟨0, _, rfl, rfl, rfl, by simp, by simp only [WW, argTmps, if_true, if_false, Nat.reduceLT, Nat.reduceEqDiff, Nat.zero_add, Nat.reduceAdd, List.getElem?_toArray, List.getElem?_cons_zero, List.getElem?_cons_succ, List.length_cons, List.length_nil, Option.map_some, reduceCtorEq, Nat.succ_ne_self, Nat.one_ne_zero, Nat.zero_ne_one, Option.some_beq_some, beq_self_eq_true, Bool.not_true, Bool.not_false, Bool.true_beq, Bool.false_beq]; exact f1, by simp only [WW, argTmps, if_true, if_false, Nat.reduceLT, Nat.reduceEqDiff, Nat.zero_add, Nat.reduceAdd, List.getElem?_toArray, List.getElem?_cons_zero, List.getElem?_cons_succ, List.length_cons, List.length_nil, Option.map_some, reduceCtorEq, Nat.succ_ne_self, Nat.one_ne_zero, Nat.zero_ne_one, Option.some_beq_some, beq_self_eq_true, Bool.not_true, Bool.not_false, Bool.true_beq, Bool.false_beq]; exact f3, by simp only [WW, argTmps, if_true, if_false, Nat.reduceLT, Nat.reduceEqDiff, Nat.zero_add, Nat.reduceAdd, List.getElem?_toArray, List.getElem?_cons_zero, List.getElem?_cons_succ, List.length_cons, List.length_nil, Option.map_some, reduceCtorEq, Nat.succ_ne_self, Nat.one_ne_zero, Nat.zero_ne_one, Option.some_beq_some, beq_self_eq_true, Bool.not_true, Bool.not_false, Bool.true_beq, Bool.false_beq]; exact f4, by simp only [WW, argTmps, if_true, if_false, Nat.reduceLT, Nat.reduceEqDiff, Nat.zero_add, Nat.reduceAdd, List.getElem?_toArray, List.getElem?_cons_zero, List.getElem?_cons_succ, List.length_cons, List.length_nil, Option.map_some, reduceCtorEq, Nat.succ_ne_self, Nat.one_ne_zero, Nat.zero_ne_one, Option.some_beq_some, beq_self_eq_true, Bool.not_true, Bool.not_false, Bool.true_beq, Bool.false_beq]; rfl⟩ ?_
    clear f1 f3 f4 f5 kn2 ke2 kr2
    rintro m3 fr σ4 K3 ⟨j, t3, hm3, rfl, rfl, hrs, f1, f3, f4, f6⟩ kn3 ke3 kr3
    simp only [WW, argTmps, if_true, if_false, Nat.reduceLT, Nat.reduceEqDiff, Nat.zero_add, Nat.reduceAdd, List.getElem?_toArray, List.getElem?_cons_zero, List.getElem?_cons_succ, List.length_cons, List.length_nil, Option.map_some, reduceCtorEq, Nat.succ_ne_self, Nat.one_ne_zero, Nat.zero_ne_one, Option.some_beq_some, beq_self_eq_true, Bool.not_true, Bool.not_false, Bool.true_beq, Bool.false_beq, WT, f1, f3, f4, f6, c3, l13]
    by_cases hj : j < x.list.length
    case neg =>
      rw [List.take_of_length_le (by omega)] at hrs
      simp only [natge hj, WW, argTmps, if_true, if_false, Nat.reduceLT, Nat.reduceEqDiff, Nat.zero_add, Nat.reduceAdd, List.getElem?_toArray, List.getElem?_cons_zero, List.getElem?_cons_succ, List.length_cons, List.length_nil, Option.map_some, reduceCtorEq, Nat.succ_ne_self, Nat.one_ne_zero, Nat.zero_ne_one, Option.some_beq_some, beq_self_eq_true, Bool.not_true, Bool.not_false, Bool.true_beq, Bool.false_beq, WT, ke3, kr3, f3, wrapS (show k < 1000000000000 by omega)]
      refine kn (m - 1) _ _ (by omega) ⟨k + 1, _, by omega, rfl, g1.trans g3, fun q hq => ?_, ?_, by simp only [WW, argTmps, if_true, if_false, Nat.reduceLT, Nat.reduceEqDiff, Nat.zero_add, Nat.reduceAdd, List.getElem?_toArray, List.getElem?_cons_zero, List.getElem?_cons_succ, List.length_cons, List.length_nil, Option.map_some, reduceCtorEq, Nat.succ_ne_self, Nat.one_ne_zero, Nat.zero_ne_one, Option.some_beq_some, beq_self_eq_true, Bool.not_true, Bool.not_false, Bool.true_beq, Bool.false_beq]; exact f1, by simp only [WW, argTmps, if_true, if_false, Nat.reduceLT, Nat.reduceEqDiff, Nat.zero_add, Nat.reduceAdd, List.getElem?_toArray, List.getElem?_cons_zero, List.getElem?_cons_succ, List.length_cons, List.length_nil, Option.map_some, reduceCtorEq, Nat.succ_ne_self, Nat.one_ne_zero, Nat.zero_ne_one, Option.some_beq_some, beq_self_eq_true, Bool.not_true, Bool.not_false, Bool.true_beq, Bool.false_beq]⟩
      · rcases (take_mem hx).1 hq with h | h
        · exact ho q h
        · rw [h]; exact ⟨by omega, hle, hrs⟩
      · rw [List.take_add_one, hx, List.map_append, List.nodup_append]
        refine ⟨hnd, by simp, fun a h1 b h2 => ?_⟩
        simp at h2
        subst h2
        exact fun e => hnm (e ▸ h1)
    obtain ⟨r, hr⟩ := get_some hj
    obtain ⟨c, u1, ⟨rfl, hr0⟩, _⟩ := h13.elt hr
    have hrm := List.mem_of_getElem? hr
    simp only [natlt hj, WW, argTmps, if_true, if_false, Nat.reduceLT, Nat.reduceEqDiff, Nat.zero_add, Nat.reduceAdd, List.getElem?_toArray, List.getElem?_cons_zero, List.getElem?_cons_succ, List.length_cons, List.length_nil, Option.map_some, reduceCtorEq, Nat.succ_ne_self, Nat.one_ne_zero, Nat.zero_ne_one, Option.some_beq_some, beq_self_eq_true, Bool.not_true, Bool.not_false, Bool.true_beq, Bool.false_beq]
    refine Co_draw [] [0, 1, 2, 3, 4, 5, 6, 7, 8, 9, 10, 11, 12, 13, 14, 15, 16, 17, 18, 19, 20, 21, 22, 23, 24, 25, 26] (by kernel_rfl) (by kernel_rfl) (by kernel_rfl) ?_
    by_cases q1 : r.el = x.el
    case neg =>
      simp only [WW, argTmps, if_true, if_false, Nat.reduceLT, Nat.reduceEqDiff, Nat.zero_add, Nat.reduceAdd, List.getElem?_toArray, List.getElem?_cons_zero, List.getElem?_cons_succ, List.length_cons, List.length_nil, Option.map_some, reduceCtorEq, Nat.succ_ne_self, Nat.one_ne_zero, Nat.zero_ne_one, Option.some_beq_some, beq_self_eq_true, Bool.not_true, Bool.not_false, Bool.true_beq, Bool.false_beq, WD, and_true, true_and, and_self, WT, f1, f3, f4, f6, c3, u1.ix und79 sz87, u1.fa (fun _ _ _ => fa87_0) (fun _ _ => fr87_0), u1.ld ag3 (k := 0) (by omega) rfl, q1, decide_false, kr3, ke3, kr, ke]
      exact ret _ _ (g1.trans g3) (by simp only [WW, argTmps, if_true, if_false, Nat.reduceLT, Nat.reduceEqDiff, Nat.zero_add, Nat.reduceAdd, List.getElem?_toArray, List.getElem?_cons_zero, List.getElem?_cons_succ, List.length_cons, List.length_nil, Option.map_some, reduceCtorEq, Nat.succ_ne_self, Nat.one_ne_zero, Nat.zero_ne_one, Option.some_beq_some, beq_self_eq_true, Bool.not_true, Bool.not_false, Bool.true_beq, Bool.false_beq]; rw [right_no fun h => q1 ((h.qs x hxm).rs r hrm).1])
    by_cases q2 : r.kind = 0
    case pos =>
      simp only [WW, argTmps, if_true, if_false, Nat.reduceLT, Nat.reduceEqDiff, Nat.zero_add, Nat.reduceAdd, List.getElem?_toArray, List.getElem?_cons_zero, List.getElem?_cons_succ, List.length_cons, List.length_nil, Option.map_some, reduceCtorEq, Nat.succ_ne_self, Nat.one_ne_zero, Nat.zero_ne_one, Option.some_beq_some, beq_self_eq_true, Bool.not_true, Bool.not_false, Bool.true_beq, Bool.false_beq, WD, and_true, true_and, and_self, WT, f1, f3, f4, f6, c3, u1.ix und79 sz87, u1.fa (fun _ _ _ => fa87_0) (fun _ _ => fr87_0), u1.ld ag3 (k := 0) (by omega) rfl, q1, decide_true,
        u1.fa (fun _ _ _ => fa87_1) (fun _ _ => fr87_1), u1.ld ag85 (k := 1) (by omega) rfl, decide_eq_true q2, kr3, ke3, kr, ke]
      exact ret _ _ (g1.trans g3) (by simp only [WW, argTmps, if_true, if_false, Nat.reduceLT, Nat.reduceEqDiff, Nat.zero_add, Nat.reduceAdd, List.getElem?_toArray, List.getElem?_cons_zero, List.getElem?_cons_succ, List.length_cons, List.length_nil, Option.map_some, reduceCtorEq, Nat.succ_ne_self, Nat.one_ne_zero, Nat.zero_ne_one, Option.some_beq_some, beq_self_eq_true, Bool.not_true, Bool.not_false, Bool.true_beq, Bool.false_beq]; rw [right_no fun h => by have := ((h.qs x hxm).rs r hrm).2.1; omega])
    by_cases q3 : r.kind < 6
    case neg =>
      simp only [WW, argTmps, if_true, if_false, Nat.reduceLT, Nat.reduceEqDiff, Nat.zero_add, Nat.reduceAdd, List.getElem?_toArray, List.getElem?_cons_zero, List.getElem?_cons_succ, List.length_cons, List.length_nil, Option.map_some, reduceCtorEq, Nat.succ_ne_self, Nat.one_ne_zero, Nat.zero_ne_one, Option.some_beq_some, beq_self_eq_true, Bool.not_true, Bool.not_false, Bool.true_beq, Bool.false_beq, WD, and_true, true_and, and_self, WT, f1, f3, f4, f6, c3, u1.ix und79 sz87, u1.fa (fun _ _ _ => fa87_0) (fun _ _ => fr87_0), u1.ld ag3 (k := 0) (by omega) rfl, q1, decide_true,
        u1.fa (fun _ _ _ => fa87_1) (fun _ _ => fr87_1), u1.ld ag85 (k := 1) (by omega) rfl, decide_eq_false q2, decide_eq_true (show 6 ≤ r.kind by omega), kr3, ke3, kr, ke]
      exact ret _ _ (g1.trans g3) (by simp only [WW, argTmps, if_true, if_false, Nat.reduceLT, Nat.reduceEqDiff, Nat.zero_add, Nat.reduceAdd, List.getElem?_toArray, List.getElem?_cons_zero, List.getElem?_cons_succ, List.length_cons, List.length_nil, Option.map_some, reduceCtorEq, Nat.succ_ne_self, Nat.one_ne_zero, Nat.zero_ne_one, Option.some_beq_some, beq_self_eq_true, Bool.not_true, Bool.not_false, Bool.true_beq, Bool.false_beq]; rw [right_no fun h => q3 ((h.qs x hxm).rs r hrm).2.2])
    simp only [WW, argTmps, if_true, if_false, Nat.reduceLT, Nat.reduceEqDiff, Nat.zero_add, Nat.reduceAdd, List.getElem?_toArray, List.getElem?_cons_zero, List.getElem?_cons_succ, List.length_cons, List.length_nil, Option.map_some, reduceCtorEq, Nat.succ_ne_self, Nat.one_ne_zero, Nat.zero_ne_one, Option.some_beq_some, beq_self_eq_true, Bool.not_true, Bool.not_false, Bool.true_beq, Bool.false_beq, WD, and_true, true_and, and_self, WT, f1, f3, f4, f6, c3, u1.ix und79 sz87, u1.fa (fun _ _ _ => fa87_0) (fun _ _ => fr87_0), u1.ld ag3 (k := 0) (by omega) rfl, q1, decide_true,
        u1.fa (fun _ _ _ => fa87_1) (fun _ _ => fr87_1), u1.ld ag85 (k := 1) (by omega) rfl, decide_eq_false q2, decide_eq_false (show ¬ 6 ≤ r.kind by omega), wrapS (show j < 1000000000000 by omega)]
    exact kn3 (m3 - 1) _ _ (by omega) ⟨j + 1, _, by omega, rfl, rfl, fun y hy => by
      rcases (take_mem hr).1 hy with h | h
      · exact hrs y h
      · rw [h]; exact ⟨q1, by omega, q3⟩, by simp only [WW, argTmps, if_true, if_false, Nat.reduceLT, Nat.reduceEqDiff, Nat.zero_add, Nat.reduceAdd, List.getElem?_toArray, List.getElem?_cons_zero, List.getElem?_cons_succ, List.length_cons, List.length_nil, Option.map_some, reduceCtorEq, Nat.succ_ne_self, Nat.one_ne_zero, Nat.zero_ne_one, Option.some_beq_some, beq_self_eq_true, Bool.not_true, Bool.not_false, Bool.true_beq, Bool.false_beq]; exact f1, by simp only [WW, argTmps, if_true, if_false, Nat.reduceLT, Nat.reduceEqDiff, Nat.zero_add, Nat.reduceAdd, List.getElem?_toArray, List.getElem?_cons_zero, List.getElem?_cons_succ, List.length_cons, List.length_nil, Option.map_some, reduceCtorEq, Nat.succ_ne_self, Nat.one_ne_zero, Nat.zero_ne_one, Option.some_beq_some, beq_self_eq_true, Bool.not_true, Bool.not_false, Bool.true_beq, Bool.false_beq]; exact f3, by simp only [WW, argTmps, if_true, if_false, Nat.reduceLT, Nat.reduceEqDiff, Nat.zero_add, Nat.reduceAdd, List.getElem?_toArray, List.getElem?_cons_zero, List.getElem?_cons_succ, List.length_cons, List.length_nil, Option.map_some, reduceCtorEq, Nat.succ_ne_self, Nat.one_ne_zero, Nat.zero_ne_one, Option.some_beq_some, beq_self_eq_true, Bool.not_true, Bool.not_false, Bool.true_beq, Bool.false_beq]; exact f4, by simp only [WW, argTmps, if_true, if_false, Nat.reduceLT, Nat.reduceEqDiff, Nat.zero_add, Nat.reduceAdd, List.getElem?_toArray, List.getElem?_cons_zero, List.getElem?_cons_succ, List.length_cons, List.length_nil, Option.map_some, reduceCtorEq, Nat.succ_ne_self, Nat.one_ne_zero, Nat.zero_ne_one, Option.some_beq_some, beq_self_eq_true, Bool.not_true, Bool.not_false, Bool.true_beq, Bool.false_beq]⟩
  obtain ⟨y, hy⟩ : ∃ y, s.qs[k]? = some y := get_some (by omega)
  obtain ⟨c, u1, ⟨w1, rfl, h2⟩, _⟩ := hq3.elt hy
  simp only [natlt hk, WW, argTmps, if_true, if_false, Nat.reduceLT, Nat.reduceEqDiff, Nat.zero_add, Nat.reduceAdd, List.getElem?_toArray, List.getElem?_cons_zero, List.getElem?_cons_succ, List.length_cons, List.length_nil, Option.map_some, reduceCtorEq, Nat.succ_ne_self, Nat.one_ne_zero, Nat.zero_ne_one, Option.some_beq_some, beq_self_eq_true, Bool.not_true, Bool.not_false, Bool.true_beq, Bool.false_beq]
  refine Co_draw [] [0, 1, 2, 3, 4, 5, 6, 7, 8] (by kernel_rfl) (by kernel_rfl) (by kernel_rfl) ?_
  simp only [WW, argTmps, if_true, if_false, Nat.reduceLT, Nat.reduceEqDiff, Nat.zero_add, Nat.reduceAdd, List.getElem?_toArray, List.getElem?_cons_zero, List.getElem?_cons_succ, List.length_cons, List.length_nil, Option.map_some, reduceCtorEq, Nat.succ_ne_self, Nat.one_ne_zero, Nat.zero_ne_one, Option.some_beq_some, beq_self_eq_true, Bool.not_true, Bool.not_false, Bool.true_beq, Bool.false_beq, WD, and_true, true_and, and_self, WT, f1, f3, f4, f5, c3, cA3, u1.ix und61 sz81, u1.fa (fun _ _ _ => fa81_0) (fun _ _ => fr81_0), u1.ld ag3 (k := 0) (by omega) rfl]
  by_cases hxy : y.el = x.el
  · simp only [hxy, decide_true, WW, argTmps, if_true, if_false, Nat.reduceLT, Nat.reduceEqDiff, Nat.zero_add, Nat.reduceAdd, List.getElem?_toArray, List.getElem?_cons_zero, List.getElem?_cons_succ, List.length_cons, List.length_nil, Option.map_some, reduceCtorEq, Nat.succ_ne_self, Nat.one_ne_zero, Nat.zero_ne_one, Option.some_beq_some, beq_self_eq_true, Bool.not_true, Bool.not_false, Bool.true_beq, Bool.false_beq, WD, and_true, true_and, and_self, kr2, ke2, kr, ke]
    have hno : ¬ RightP s := fun h => by
      have hn := h.apart
      rw [List.Nodup, List.pairwise_iff_getElem] at hn
      have h1 : (s.qs.map (·.el))[k]? = some y.el := by simp [hy]
      have h2 : (s.qs.map (·.el))[i]? = some x.el := by simp [hx]
      obtain ⟨p1, r1⟩ := List.getElem?_eq_some_iff.1 h1
      obtain ⟨p2, r2⟩ := List.getElem?_eq_some_iff.1 h2
      exact hn k i p1 p2 hk (by rw [r1, r2]; exact hxy)
    exact ret _ _ (g1.trans g3) (by simp only [WW, argTmps, if_true, if_false, Nat.reduceLT, Nat.reduceEqDiff, Nat.zero_add, Nat.reduceAdd, List.getElem?_toArray, List.getElem?_cons_zero, List.getElem?_cons_succ, List.length_cons, List.length_nil, Option.map_some, reduceCtorEq, Nat.succ_ne_self, Nat.one_ne_zero, Nat.zero_ne_one, Option.some_beq_some, beq_self_eq_true, Bool.not_true, Bool.not_false, Bool.true_beq, Bool.false_beq]; rw [right_no hno])
  · simp only [hxy, decide_false, WW, argTmps, if_true, if_false, Nat.reduceLT, Nat.reduceEqDiff, Nat.zero_add, Nat.reduceAdd, List.getElem?_toArray, List.getElem?_cons_zero, List.getElem?_cons_succ, List.length_cons, List.length_nil, Option.map_some, reduceCtorEq, Nat.succ_ne_self, Nat.one_ne_zero, Nat.zero_ne_one, Option.some_beq_some, beq_self_eq_true, Bool.not_true, Bool.not_false, Bool.true_beq, Bool.false_beq, WD, and_true, true_and, and_self, f5, wrapS (show k < 1000000000000 by omega)]
    refine kn2 (m2 - 1) _ _ (by omega) ⟨k + 1, _, by omega, rfl, rfl, ?_, by simp only [WW, argTmps, if_true, if_false, Nat.reduceLT, Nat.reduceEqDiff, Nat.zero_add, Nat.reduceAdd, List.getElem?_toArray, List.getElem?_cons_zero, List.getElem?_cons_succ, List.length_cons, List.length_nil, Option.map_some, reduceCtorEq, Nat.succ_ne_self, Nat.one_ne_zero, Nat.zero_ne_one, Option.some_beq_some, beq_self_eq_true, Bool.not_true, Bool.not_false, Bool.true_beq, Bool.false_beq]; exact f1, by simp only [WW, argTmps, if_true, if_false, Nat.reduceLT, Nat.reduceEqDiff, Nat.zero_add, Nat.reduceAdd, List.getElem?_toArray, List.getElem?_cons_zero, List.getElem?_cons_succ, List.length_cons, List.length_nil, Option.map_some, reduceCtorEq, Nat.succ_ne_self, Nat.one_ne_zero, Nat.zero_ne_one, Option.some_beq_some, beq_self_eq_true, Bool.not_true, Bool.not_false, Bool.true_beq, Bool.false_beq]; exact f3, by simp only [WW, argTmps, if_true, if_false, Nat.reduceLT, Nat.reduceEqDiff, Nat.zero_add, Nat.reduceAdd, List.getElem?_toArray, List.getElem?_cons_zero, List.getElem?_cons_succ, List.length_cons, List.length_nil, Option.map_some, reduceCtorEq, Nat.succ_ne_self, Nat.one_ne_zero, Nat.zero_ne_one, Option.some_beq_some, beq_self_eq_true, Bool.not_true, Bool.not_false, Bool.true_beq, Bool.false_beq]; exact f4, by simp only [WW, argTmps, if_true, if_false, Nat.reduceLT, Nat.reduceEqDiff, Nat.zero_add, Nat.reduceAdd, List.getElem?_toArray, List.getElem?_cons_zero, List.getElem?_cons_succ, List.length_cons, List.length_nil, Option.map_some, reduceCtorEq, Nat.succ_ne_self, Nat.one_ne_zero, Nat.zero_ne_one, Option.some_beq_some, beq_self_eq_true, Bool.not_true, Bool.not_false, Bool.true_beq, Bool.false_beq]⟩
    rw [List.take_add_one, hy, List.map_append, List.mem_append]
    rintro (h | h)
    · exact hnm h
    · simp at h
      exact hxy h.symm
end Go.Proofs.YtmchghdmejbblaaGreatDoor
