/- react.many, react.elements. -/
import Derived.Test.YtmchghdmejbblaaGreatDoorBk
set_option linter.unusedSimpArgs false
set_option linter.unusedVariables false
noncomputable section
namespace Go.Proofs.YtmchghdmejbblaaGreatDoor
open Go Go.Ab Go.RowKit

theorem rd_gro {α : Type} {σ σ' : St} {n : Nat} {E : List AV → α → Prop} {v : AV} {l : List α} (h : Rd (· < σ.next) σ n E v l) (g : Gro σ σ') : Rd (· < σ'.next) σ' n E v l :=
  h.keep g.keeps (fun _ hi => Nat.lt_of_lt_of_le hi g.le) (fun _ _ h => h)
theorem rdq_gro {σ σ' : St} {v : AV} {l : List Qu} (h : Rd (· < σ.next) σ 2 (EQ (· < σ.next) σ) v l) (g : Gro σ σ') : Rd (· < σ'.next) σ' 2 (EQ (· < σ'.next) σ') v l :=
  h.keep g.keeps (fun _ hi => Nat.lt_of_lt_of_le hi g.le) (fun _ _ h => h.keep g.keeps (fun _ hi => Nat.lt_of_lt_of_le hi g.le))
theorem rdl_gro {σ σ' : St} {v : AV} {l : List (List Int)} (h : Rd (· < σ.next) σ 1 (EL (· < σ.next) σ) v l) (g : Gro σ σ') : Rd (· < σ'.next) σ' 1 (EL (· < σ'.next) σ') v l :=
  h.keep g.keeps (fun _ hi => Nat.lt_of_lt_of_le hi g.le) (fun _ _ h => h.keep g.keeps (fun _ hi => Nat.lt_of_lt_of_le hi g.le))

set_option maxRecDepth 100000 in
theorem rmany_ok {σ : St} {c : List AV} {s : Re} (h : ReC (· < σ.next) σ c s) (hs : s.ok) : Ca Mq 91 [.agg c] σ fun r σ' => r = .int .i64 (many s) ∧ Gro σ σ' := by
  obtain ⟨σ2, e2⟩ : ∃ σ2, σ.add (.arr 0 c) = σ2 := ⟨_, rfl⟩
  have g2 : Gro σ σ2 := by rw [← e2]; exact Gro.add _ _
  have n2 : σ2.next = σ.next + 1 := by rw [← e2]; rfl
  have cA : cellsAt σ2 σ.next 0 = some c := by rw [← e2, cellsAt_add_new]
  have fa := h.fit
  obtain ⟨vq, vs, vb, rfl, hq, hst, hb⟩ := h.gro g2
  have l1 := hq.len und61
  refine Ca.enter (fn := Tryz.f91) rfl (by kernel_rfl) rfl (by kernel_rfl) (Nat.le_of_ble_eq_true rfl) 20 _ rfl rfl ?_
  generalize hQ : Leave Mq Tryz.f91 _ = Q
  simp only [WW, argTmps, if_true, if_false, Nat.reduceLT, Nat.reduceEqDiff, Nat.zero_add, Nat.reduceAdd, List.getElem?_toArray, List.getElem?_cons_zero, List.getElem?_cons_succ, List.length_cons, List.length_nil, Option.map_some, reduceCtorEq, Nat.succ_ne_self, Nat.one_ne_zero, Nat.zero_ne_one, Option.some_beq_some, beq_self_eq_true, Bool.not_true, Bool.not_false, Bool.true_beq, Bool.false_beq, WT, opNew_eq fa.1, AV.cells, e2, cA, l1]
  refine Co_loop (fun m fr σ1 => ∃ i t, m + i = s.qs.length ∧ fr = ⟨t, [], 20, none⟩ ∧ Gro σ2 σ1 ∧ getT t 7 = vq ∧ getT t 8 = .int .i64 (s.qs.length : Nat) ∧ getT t 3 = .int .i64 (upTo s.qs i : Nat) ∧ getT t 9 = .int .i64 (i : Nat)) s.qs.length
    ⟨0, _, rfl, rfl, Gro.refl _, by simp only [WW, argTmps, if_true, if_false, Nat.reduceLT, Nat.reduceEqDiff, Nat.zero_add, Nat.reduceAdd, List.getElem?_toArray, List.getElem?_cons_zero, List.getElem?_cons_succ, List.length_cons, List.length_nil, Option.map_some, reduceCtorEq, Nat.succ_ne_self, Nat.one_ne_zero, Nat.zero_ne_one, Option.some_beq_some, beq_self_eq_true, Bool.not_true, Bool.not_false, Bool.true_beq, Bool.false_beq], by simp only [WW, argTmps, if_true, if_false, Nat.reduceLT, Nat.reduceEqDiff, Nat.zero_add, Nat.reduceAdd, List.getElem?_toArray, List.getElem?_cons_zero, List.getElem?_cons_succ, List.length_cons, List.length_nil, Option.map_some, reduceCtorEq, Nat.succ_ne_self, Nat.one_ne_zero, Nat.zero_ne_one, Option.some_beq_some, beq_self_eq_true, Bool.not_true, Bool.not_false, Bool.true_beq, Bool.false_beq], by simp only [WW, argTmps, if_true, if_false, Nat.reduceLT, Nat.reduceEqDiff, Nat.zero_add, Nat.reduceAdd, List.getElem?_toArray, List.getElem?_cons_zero, List.getElem?_cons_succ, List.length_cons, List.length_nil, Option.map_some, reduceCtorEq, Nat.succ_ne_self, Nat.one_ne_zero, Nat.zero_ne_one, Option.some_beq_some, beq_self_eq_true, Bool.not_true, Bool.not_false, Bool.true_beq, Bool.false_beq]; rfl, by simp only [WW, argTmps, if_true, if_false, Nat.reduceLT, Nat.reduceEqDiff, Nat.zero_add, Nat.reduceAdd, List.getElem?_toArray, List.getElem?_cons_zero, List.getElem?_cons_succ, List.length_cons, List.length_nil, Option.map_some, reduceCtorEq, Nat.succ_ne_self, Nat.one_ne_zero, Nat.zero_ne_one, Option.some_beq_some, beq_self_eq_true, Bool.not_true, Bool.not_false, Bool.true_beq, Bool.false_beq]; rfl⟩ ?_
  rintro m fr σ1 K ⟨i, t, hm, rfl, g1, f7, f8, f3, f9⟩ kn ke kr
  simp only [WW, argTmps, if_true, if_false, Nat.reduceLT, Nat.reduceEqDiff, Nat.zero_add, Nat.reduceAdd, List.getElem?_toArray, List.getElem?_cons_zero, List.getElem?_cons_succ, List.length_cons, List.length_nil, Option.map_some, reduceCtorEq, Nat.succ_ne_self, Nat.one_ne_zero, Nat.zero_ne_one, Option.some_beq_some, beq_self_eq_true, Bool.not_true, Bool.not_false, Bool.true_beq, Bool.false_beq, WT, f7, f8, f9]
  by_cases hi : i < s.qs.length
  case neg =>
    simp only [natge hi, WW, argTmps, if_true, if_false, Nat.reduceLT, Nat.reduceEqDiff, Nat.zero_add, Nat.reduceAdd, List.getElem?_toArray, List.getElem?_cons_zero, List.getElem?_cons_succ, List.length_cons, List.length_nil, Option.map_some, reduceCtorEq, Nat.succ_ne_self, Nat.one_ne_zero, Nat.zero_ne_one, Option.some_beq_some, beq_self_eq_true, Bool.not_true, Bool.not_false, Bool.true_beq, Bool.false_beq, WT, f3, ke, kr]
    subst hQ
    refine leave_tmp (d := 2) (v := .int .i64 (many s)) rfl ?_ ⟨rfl, g2.trans g1⟩
    simp only [WW, argTmps, if_true, if_false, Nat.reduceLT, Nat.reduceEqDiff, Nat.zero_add, Nat.reduceAdd, List.getElem?_toArray, List.getElem?_cons_zero, List.getElem?_cons_succ, List.length_cons, List.length_nil, Option.map_some, reduceCtorEq, Nat.succ_ne_self, Nat.one_ne_zero, Nat.zero_ne_one, Option.some_beq_some, beq_self_eq_true, Bool.not_true, Bool.not_false, Bool.true_beq, Bool.false_beq]
    rw [upTo_all (by omega)]
    rfl
  obtain ⟨x, hx⟩ := get_some hi
  obtain ⟨c, e1, ⟨v1, rfl, h1⟩, _⟩ := (rdq_gro hq g1).elt hx
  obtain ⟨σ3, e3, g3, n3, c3⟩ := var_ex σ1 [.int .i64 0, .nils] [.int .i64 x.el, v1]
  have l5 := h1.len und79
  have l6 := (rd_gro h1 g3).len und79
  have h1 := upTo_succ hx
  have h2 := upTo_le s.qs (i + 1)
  have h3 := hs.many
  have h4 := hs.qs
  unfold Bd at h3 h4
  simp only [natlt hi, WW, argTmps, if_true, if_false, Nat.reduceLT, Nat.reduceEqDiff, Nat.zero_add, Nat.reduceAdd, List.getElem?_toArray, List.getElem?_cons_zero, List.getElem?_cons_succ, List.length_cons, List.length_nil, Option.map_some, reduceCtorEq, Nat.succ_ne_self, Nat.one_ne_zero, Nat.zero_ne_one, Option.some_beq_some, beq_self_eq_true, Bool.not_true, Bool.not_false, Bool.true_beq, Bool.false_beq, WT, f7, f9, f3, e1.ix und61 sz81, e1.lda ag81 sz81, al81, st81 (Rd.one (by assumption)), e3, c3, l6, wrapS (show i < 1000000000000 by omega), wrapA (show upTo s.qs i + x.list.length < 1000000000000 by omega)]
  exact kn (m - 1) _ _ (by omega) ⟨i + 1, _, by omega, rfl, g1.trans g3, by simp only [WW, argTmps, if_true, if_false, Nat.reduceLT, Nat.reduceEqDiff, Nat.zero_add, Nat.reduceAdd, List.getElem?_toArray, List.getElem?_cons_zero, List.getElem?_cons_succ, List.length_cons, List.length_nil, Option.map_some, reduceCtorEq, Nat.succ_ne_self, Nat.one_ne_zero, Nat.zero_ne_one, Option.some_beq_some, beq_self_eq_true, Bool.not_true, Bool.not_false, Bool.true_beq, Bool.false_beq]; exact f7, by simp only [WW, argTmps, if_true, if_false, Nat.reduceLT, Nat.reduceEqDiff, Nat.zero_add, Nat.reduceAdd, List.getElem?_toArray, List.getElem?_cons_zero, List.getElem?_cons_succ, List.length_cons, List.length_nil, Option.map_some, reduceCtorEq, Nat.succ_ne_self, Nat.one_ne_zero, Nat.zero_ne_one, Option.some_beq_some, beq_self_eq_true, Bool.not_true, Bool.not_false, Bool.true_beq, Bool.false_beq]; exact f8, by simp only [WW, argTmps, if_true, if_false, Nat.reduceLT, Nat.reduceEqDiff, Nat.zero_add, Nat.reduceAdd, List.getElem?_toArray, List.getElem?_cons_zero, List.getElem?_cons_succ, List.length_cons, List.length_nil, Option.map_some, reduceCtorEq, Nat.succ_ne_self, Nat.one_ne_zero, Nat.zero_ne_one, Option.some_beq_some, beq_self_eq_true, Bool.not_true, Bool.not_false, Bool.true_beq, Bool.false_beq]; rw [h1], by simp only [WW, argTmps, if_true, if_false, Nat.reduceLT, Nat.reduceEqDiff, Nat.zero_add, Nat.reduceAdd, List.getElem?_toArray, List.getElem?_cons_zero, List.getElem?_cons_succ, List.length_cons, List.length_nil, Option.map_some, reduceCtorEq, Nat.succ_ne_self, Nat.one_ne_zero, Nat.zero_ne_one, Option.some_beq_some, beq_self_eq_true, Bool.not_true, Bool.not_false, Bool.true_beq, Bool.false_beq]⟩

/-- The first place at which a test holds; -1: none. -/
def ixOf {α : Type} (P : α → Bool) (l : List α) : Int := match l.findIdx? P with
  | some i => i
  | none => -1
theorem ixOf_none {α : Type} {P : α → Bool} {l : List α} (h : ∀ x ∈ l, P x = false) : ixOf P l = -1 := by
  unfold ixOf
  have : l.findIdx? P = none := by rw [List.findIdx?_eq_none_iff]; exact h
  rw [this]
theorem ixOf_some {α : Type} {P : α → Bool} {l : List α} {i : Nat} {x : α} (hx : l[i]? = some x) (hp : P x = true) (h : ∀ x ∈ l.take i, P x = false) : ixOf P l = i := by
  unfold ixOf
  have : l.findIdx? P = some i := by
    rw [List.findIdx?_eq_some_iff_getElem]
    obtain ⟨h1, h2⟩ := List.getElem?_eq_some_iff.1 hx
    refine ⟨h1, by rw [h2]; exact hp, fun j hj => ?_⟩
    have := h l[j] (by rw [List.mem_take_iff_getElem]; exact ⟨j, by omega, rfl⟩)
    simp [this]
  rw [this]

theorem index_ok {σ : St} {v : AV} {l : List Int} (hv : Rd (· < σ.next) σ 1 EI v l) (hl : l.length ≤ Bd) {g : FuncId} {a b : List AV} {P : Int → Bool}
    (hg : ∀ x σ', Gro σ σ' → Ca Mq g (a ++ [.int .i64 x] ++ b) σ' fun r σ'' => r = .bool (P x) ∧ Gro σ' σ'') : Ca Mq 131 [v, .fn g a b] σ fun r σ' => r = .int .i64 (ixOf P l) ∧ Gro σ σ' := by
  unfold Bd at hl
  have l1 := hv.len und40
  refine Ca.enter (fn := Tryz.f131) rfl (by kernel_rfl) rfl (by kernel_rfl) (Nat.le_of_ble_eq_true rfl) 19 _ rfl rfl ?_
  generalize hQ : Leave Mq Tryz.f131 _ = Q
  simp only [WW, argTmps, if_true, if_false, Nat.reduceLT, Nat.reduceEqDiff, Nat.zero_add, Nat.reduceAdd, List.getElem?_toArray, List.getElem?_cons_zero, List.getElem?_cons_succ, List.length_cons, List.length_nil, Option.map_some, reduceCtorEq, Nat.succ_ne_self, Nat.one_ne_zero, Nat.zero_ne_one, Option.some_beq_some, beq_self_eq_true, Bool.not_true, Bool.not_false, Bool.true_beq, Bool.false_beq, WT, l1]
  refine Co_loop (fun m fr σ1 => ∃ i t, m + i = l.length ∧ fr = ⟨t, [], 19, none⟩ ∧ Gro σ σ1 ∧ (∀ x ∈ l.take i, P x = false) ∧ getT t 0 = v ∧ getT t 1 = .fn g a b ∧ getT t 7 = .int .i64 (l.length : Nat) ∧ getT t 8 = .int .i64 (i : Nat)) l.length
    ⟨0, _, rfl, rfl, Gro.refl _, by simp, by simp only [WW, argTmps, if_true, if_false, Nat.reduceLT, Nat.reduceEqDiff, Nat.zero_add, Nat.reduceAdd, List.getElem?_toArray, List.getElem?_cons_zero, List.getElem?_cons_succ, List.length_cons, List.length_nil, Option.map_some, reduceCtorEq, Nat.succ_ne_self, Nat.one_ne_zero, Nat.zero_ne_one, Option.some_beq_some, beq_self_eq_true, Bool.not_true, Bool.not_false, Bool.true_beq, Bool.false_beq], by simp only [WW, argTmps, if_true, if_false, Nat.reduceLT, Nat.reduceEqDiff, Nat.zero_add, Nat.reduceAdd, List.getElem?_toArray, List.getElem?_cons_zero, List.getElem?_cons_succ, List.length_cons, List.length_nil, Option.map_some, reduceCtorEq, Nat.succ_ne_self, Nat.one_ne_zero, Nat.zero_ne_one, Option.some_beq_some, beq_self_eq_true, Bool.not_true, Bool.not_false, Bool.true_beq, Bool.false_beq], by simp only [WW, argTmps, if_true, if_false, Nat.reduceLT, Nat.reduceEqDiff, Nat.zero_add, Nat.reduceAdd, List.getElem?_toArray, List.getElem?_cons_zero, List.getElem?_cons_succ, List.length_cons, List.length_nil, Option.map_some, reduceCtorEq, Nat.succ_ne_self, Nat.one_ne_zero, Nat.zero_ne_one, Option.some_beq_some, beq_self_eq_true, Bool.not_true, Bool.not_false, Bool.true_beq, Bool.false_beq], by simp only [WW, argTmps, if_true, if_false, Nat.reduceLT, Nat.reduceEqDiff, Nat.zero_add, Nat.reduceAdd, List.getElem?_toArray, List.getElem?_cons_zero, List.getElem?_cons_succ, List.length_cons, List.length_nil, Option.map_some, reduceCtorEq, Nat.succ_ne_self, Nat.one_ne_zero, Nat.zero_ne_one, Option.some_beq_some, beq_self_eq_true, Bool.not_true, Bool.not_false, Bool.true_beq, Bool.false_beq]; rfl⟩ ?_
  rintro m fr σ1 K ⟨i, t, hm, rfl, g1, ht, f0, f1, f7, f8⟩ kn ke kr
  simp only [WW, argTmps, if_true, if_false, Nat.reduceLT, Nat.reduceEqDiff, Nat.zero_add, Nat.reduceAdd, List.getElem?_toArray, List.getElem?_cons_zero, List.getElem?_cons_succ, List.length_cons, List.length_nil, Option.map_some, reduceCtorEq, Nat.succ_ne_self, Nat.one_ne_zero, Nat.zero_ne_one, Option.some_beq_some, beq_self_eq_true, Bool.not_true, Bool.not_false, Bool.true_beq, Bool.false_beq, WT, f7, f8]
  by_cases hi : i < l.length
  case neg =>
    simp only [natge hi, WW, argTmps, if_true, if_false, Nat.reduceLT, Nat.reduceEqDiff, Nat.zero_add, Nat.reduceAdd, List.getElem?_toArray, List.getElem?_cons_zero, List.getElem?_cons_succ, List.length_cons, List.length_nil, Option.map_some, reduceCtorEq, Nat.succ_ne_self, Nat.one_ne_zero, Nat.zero_ne_one, Option.some_beq_some, beq_self_eq_true, Bool.not_true, Bool.not_false, Bool.true_beq, Bool.false_beq, WT, ke, kr]
    subst hQ
    rw [List.take_of_length_le (by omega)] at ht
    exact leave_tmp (d := 4) rfl (by simp only [WW, argTmps, if_true, if_false, Nat.reduceLT, Nat.reduceEqDiff, Nat.zero_add, Nat.reduceAdd, List.getElem?_toArray, List.getElem?_cons_zero, List.getElem?_cons_succ, List.length_cons, List.length_nil, Option.map_some, reduceCtorEq, Nat.succ_ne_self, Nat.one_ne_zero, Nat.zero_ne_one, Option.some_beq_some, beq_self_eq_true, Bool.not_true, Bool.not_false, Bool.true_beq, Bool.false_beq]; rw [ixOf_none ht]) ⟨rfl, g1⟩
  obtain ⟨x, hx⟩ := get_some hi
  obtain ⟨c, e1, rfl, _⟩ := (rd_gro hv g1).elt hx
  simp only [natlt hi, WW, argTmps, if_true, if_false, Nat.reduceLT, Nat.reduceEqDiff, Nat.zero_add, Nat.reduceAdd, List.getElem?_toArray, List.getElem?_cons_zero, List.getElem?_cons_succ, List.length_cons, List.length_nil, Option.map_some, reduceCtorEq, Nat.succ_ne_self, Nat.one_ne_zero, Nat.zero_ne_one, Option.some_beq_some, beq_self_eq_true, Bool.not_true, Bool.not_false, Bool.true_beq, Bool.false_beq, WT, f0, f1, f8, e1.ix und40 sz3, e1.ld0 ag3 (by omega) rfl]
  refine (hg x σ1 g1).mono ?_
  rintro r σ' ⟨rfl, g3⟩
  cases hp : P x with
  | true =>
    simp only [WW, argTmps, if_true, if_false, Nat.reduceLT, Nat.reduceEqDiff, Nat.zero_add, Nat.reduceAdd, List.getElem?_toArray, List.getElem?_cons_zero, List.getElem?_cons_succ, List.length_cons, List.length_nil, Option.map_some, reduceCtorEq, Nat.succ_ne_self, Nat.one_ne_zero, Nat.zero_ne_one, Option.some_beq_some, beq_self_eq_true, Bool.not_true, Bool.not_false, Bool.true_beq, Bool.false_beq, WT, ke, kr]
    subst hQ
    exact leave_tmp (d := 4) rfl (by simp only [WW, argTmps, if_true, if_false, Nat.reduceLT, Nat.reduceEqDiff, Nat.zero_add, Nat.reduceAdd, List.getElem?_toArray, List.getElem?_cons_zero, List.getElem?_cons_succ, List.length_cons, List.length_nil, Option.map_some, reduceCtorEq, Nat.succ_ne_self, Nat.one_ne_zero, Nat.zero_ne_one, Option.some_beq_some, beq_self_eq_true, Bool.not_true, Bool.not_false, Bool.true_beq, Bool.false_beq]; rw [ixOf_some hx hp ht]) ⟨rfl, g1.trans g3⟩
  | false =>
    simp only [WW, argTmps, if_true, if_false, Nat.reduceLT, Nat.reduceEqDiff, Nat.zero_add, Nat.reduceAdd, List.getElem?_toArray, List.getElem?_cons_zero, List.getElem?_cons_succ, List.length_cons, List.length_nil, Option.map_some, reduceCtorEq, Nat.succ_ne_self, Nat.one_ne_zero, Nat.zero_ne_one, Option.some_beq_some, beq_self_eq_true, Bool.not_true, Bool.not_false, Bool.true_beq, Bool.false_beq, WT, f8, wrapS (show i < 1000000000000 by omega)]
    exact kn (m - 1) _ _ (by omega) ⟨i + 1, _, by omega, rfl, g1.trans g3, fun y hy => by
      rcases (take_mem hx).1 hy with h | h
      · exact ht y h
      · rw [h]; exact hp, by simp only [WW, argTmps, if_true, if_false, Nat.reduceLT, Nat.reduceEqDiff, Nat.zero_add, Nat.reduceAdd, List.getElem?_toArray, List.getElem?_cons_zero, List.getElem?_cons_succ, List.length_cons, List.length_nil, Option.map_some, reduceCtorEq, Nat.succ_ne_self, Nat.one_ne_zero, Nat.zero_ne_one, Option.some_beq_some, beq_self_eq_true, Bool.not_true, Bool.not_false, Bool.true_beq, Bool.false_beq]; exact f0, by simp only [WW, argTmps, if_true, if_false, Nat.reduceLT, Nat.reduceEqDiff, Nat.zero_add, Nat.reduceAdd, List.getElem?_toArray, List.getElem?_cons_zero, List.getElem?_cons_succ, List.length_cons, List.length_nil, Option.map_some, reduceCtorEq, Nat.succ_ne_self, Nat.one_ne_zero, Nat.zero_ne_one, Option.some_beq_some, beq_self_eq_true, Bool.not_true, Bool.not_false, Bool.true_beq, Bool.false_beq]; exact f1, by simp only [WW, argTmps, if_true, if_false, Nat.reduceLT, Nat.reduceEqDiff, Nat.zero_add, Nat.reduceAdd, List.getElem?_toArray, List.getElem?_cons_zero, List.getElem?_cons_succ, List.length_cons, List.length_nil, Option.map_some, reduceCtorEq, Nat.succ_ne_self, Nat.one_ne_zero, Nat.zero_ne_one, Option.some_beq_some, beq_self_eq_true, Bool.not_true, Bool.not_false, Bool.true_beq, Bool.false_beq]; exact f7, by simp only [WW, argTmps, if_true, if_false, Nat.reduceLT, Nat.reduceEqDiff, Nat.zero_add, Nat.reduceAdd, List.getElem?_toArray, List.getElem?_cons_zero, List.getElem?_cons_succ, List.length_cons, List.length_nil, Option.map_some, reduceCtorEq, Nat.succ_ne_self, Nat.one_ne_zero, Nat.zero_ne_one, Option.some_beq_some, beq_self_eq_true, Bool.not_true, Bool.not_false, Bool.true_beq, Bool.false_beq]⟩

theorem contains_ok {σ : St} {v : AV} {l : List Int} (hv : Rd (· < σ.next) σ 1 EI v l) (hl : l.length ≤ Bd) {g : FuncId} {a b : List AV} {P : Int → Bool}
    (hg : ∀ x σ', Gro σ σ' → Ca Mq g (a ++ [.int .i64 x] ++ b) σ' fun r σ'' => r = .bool (P x) ∧ Gro σ' σ'') : Ca Mq 75 [v, .fn g a b] σ fun r σ' => r = .bool (decide (0 ≤ ixOf P l)) ∧ Gro σ σ' := by
  refine Ca.enter (fn := Tryz.f75) rfl (by kernel_rfl) rfl (by kernel_rfl) (Nat.le_of_ble_eq_true rfl) 9 _ rfl rfl ?_
  generalize hQ : Leave Mq Tryz.f75 _ = Q
  simp only [WW, argTmps, if_true, if_false, Nat.reduceLT, Nat.reduceEqDiff, Nat.zero_add, Nat.reduceAdd, List.getElem?_toArray, List.getElem?_cons_zero, List.getElem?_cons_succ, List.length_cons, List.length_nil, Option.map_some, reduceCtorEq, Nat.succ_ne_self, Nat.one_ne_zero, Nat.zero_ne_one, Option.some_beq_some, beq_self_eq_true, Bool.not_true, Bool.not_false, Bool.true_beq, Bool.false_beq, WT]
  refine (index_ok hv hl hg).mono ?_
  rintro r σ' ⟨rfl, g3⟩
  simp only [WW, argTmps, if_true, if_false, Nat.reduceLT, Nat.reduceEqDiff, Nat.zero_add, Nat.reduceAdd, List.getElem?_toArray, List.getElem?_cons_zero, List.getElem?_cons_succ, List.length_cons, List.length_nil, Option.map_some, reduceCtorEq, Nat.succ_ne_self, Nat.one_ne_zero, Nat.zero_ne_one, Option.some_beq_some, beq_self_eq_true, Bool.not_true, Bool.not_false, Bool.true_beq, Bool.false_beq, WT]
  subst hQ
  exact leave_tmp (d := 4) rfl (by simp only [WW, argTmps, if_true, if_false, Nat.reduceLT, Nat.reduceEqDiff, Nat.zero_add, Nat.reduceAdd, List.getElem?_toArray, List.getElem?_cons_zero, List.getElem?_cons_succ, List.length_cons, List.length_nil, Option.map_some, reduceCtorEq, Nat.succ_ne_self, Nat.one_ne_zero, Nat.zero_ne_one, Option.some_beq_some, beq_self_eq_true, Bool.not_true, Bool.not_false, Bool.true_beq, Bool.false_beq]) ⟨rfl, g3⟩

theorem small_ok {σ : St} {x : Int} : Ca Mq 136 [.int .i64 x] σ fun r σ' => r = .bool (decide (x < 1)) ∧ Gro σ σ' := by
  refine Ca.enter (fn := Tryz.f136) rfl (by kernel_rfl) rfl (by kernel_rfl) (Nat.le_of_ble_eq_true rfl) 5 _ rfl rfl ?_
  generalize hQ : Leave Mq Tryz.f136 _ = Q
  simp only [WW, argTmps, if_true, if_false, Nat.reduceLT, Nat.reduceEqDiff, Nat.zero_add, Nat.reduceAdd, List.getElem?_toArray, List.getElem?_cons_zero, List.getElem?_cons_succ, List.length_cons, List.length_nil, Option.map_some, reduceCtorEq, Nat.succ_ne_self, Nat.one_ne_zero, Nat.zero_ne_one, Option.some_beq_some, beq_self_eq_true, Bool.not_true, Bool.not_false, Bool.true_beq, Bool.false_beq, WT]
  subst hQ
  exact leave_tmp (d := 2) rfl (by simp only [WW, argTmps, if_true, if_false, Nat.reduceLT, Nat.reduceEqDiff, Nat.zero_add, Nat.reduceAdd, List.getElem?_toArray, List.getElem?_cons_zero, List.getElem?_cons_succ, List.length_cons, List.length_nil, Option.map_some, reduceCtorEq, Nat.succ_ne_self, Nat.one_ne_zero, Nat.zero_ne_one, Option.some_beq_some, beq_self_eq_true, Bool.not_true, Bool.not_false, Bool.true_beq, Bool.false_beq]) ⟨rfl, Gro.refl _⟩

theorem ixOf_neg {α : Type} {P : α → Bool} {l : List α} : decide (0 ≤ ixOf P l) = l.any P := by
  unfold ixOf
  cases h : l.findIdx? P with
  | none =>
    rw [List.findIdx?_eq_none_iff] at h
    have : l.any P = false := by rw [List.any_eq_false]; intro x hx; simp [h x hx]
    rw [this]; rfl
  | some i =>
    rw [List.findIdx?_eq_some_iff_getElem] at h
    obtain ⟨h1, h2, _⟩ := h
    have : l.any P = true := List.any_eq_true.2 ⟨l[i], List.getElem_mem h1, h2⟩
    rw [this]
    simp

set_option maxRecDepth 100000 in
theorem relements_ok {σ : St} {v : AV} {l : List Int} (hv : Rd (· < σ.next) σ 1 EI v l) (hl : l.length ≤ Bd) : Ca Mq 92 [v] σ fun r σ' => r = .bool (els l) ∧ Gro σ σ' := by
  have l1 := hv.len und40
  refine Ca.enter (fn := Tryz.f92) rfl (by kernel_rfl) rfl (by kernel_rfl) (Nat.le_of_ble_eq_true rfl) 11 _ rfl rfl ?_
  generalize hQ : Leave Mq Tryz.f92 _ = Q
  by_cases h : l.length ≤ 4096
  · simp only [WW, argTmps, if_true, if_false, Nat.reduceLT, Nat.reduceEqDiff, Nat.zero_add, Nat.reduceAdd, List.getElem?_toArray, List.getElem?_cons_zero, List.getElem?_cons_succ, List.length_cons, List.length_nil, Option.map_some, reduceCtorEq, Nat.succ_ne_self, Nat.one_ne_zero, Nat.zero_ne_one, Option.some_beq_some, beq_self_eq_true, Bool.not_true, Bool.not_false, Bool.true_beq, Bool.false_beq, WT, l1, decide_eq_true (show ((l.length : Nat) : Int) ≤ 4096 by omega)]
    refine (contains_ok hv hl (g := 136) (a := []) (b := []) (P := fun x => decide (x < 1)) fun x σ' g => small_ok).mono ?_
    rintro r σ' ⟨rfl, g3⟩
    simp only [WW, argTmps, if_true, if_false, Nat.reduceLT, Nat.reduceEqDiff, Nat.zero_add, Nat.reduceAdd, List.getElem?_toArray, List.getElem?_cons_zero, List.getElem?_cons_succ, List.length_cons, List.length_nil, Option.map_some, reduceCtorEq, Nat.succ_ne_self, Nat.one_ne_zero, Nat.zero_ne_one, Option.some_beq_some, beq_self_eq_true, Bool.not_true, Bool.not_false, Bool.true_beq, Bool.false_beq, WT]
    subst hQ
    refine leave_tmp (d := 2) (v := .bool (els l)) rfl ?_ ⟨rfl, g3⟩
    simp only [WW, argTmps, if_true, if_false, Nat.reduceLT, Nat.reduceEqDiff, Nat.zero_add, Nat.reduceAdd, List.getElem?_toArray, List.getElem?_cons_zero, List.getElem?_cons_succ, List.length_cons, List.length_nil, Option.map_some, reduceCtorEq, Nat.succ_ne_self, Nat.one_ne_zero, Nat.zero_ne_one, Option.some_beq_some, beq_self_eq_true, Bool.not_true, Bool.not_false, Bool.true_beq, Bool.false_beq]
    congr 1
    rw [ixOf_neg]
    unfold els
    rw [decide_eq_true h, Bool.and_true, List.not_any_eq_all_not]
    congr 2
    funext x
    rw [Bool.eq_iff_iff]
    simp
  · simp only [WW, argTmps, if_true, if_false, Nat.reduceLT, Nat.reduceEqDiff, Nat.zero_add, Nat.reduceAdd, List.getElem?_toArray, List.getElem?_cons_zero, List.getElem?_cons_succ, List.length_cons, List.length_nil, Option.map_some, reduceCtorEq, Nat.succ_ne_self, Nat.one_ne_zero, Nat.zero_ne_one, Option.some_beq_some, beq_self_eq_true, Bool.not_true, Bool.not_false, Bool.true_beq, Bool.false_beq, WT, l1, decide_eq_false (show ¬ ((l.length : Nat) : Int) ≤ 4096 by omega)]
    subst hQ
    refine leave_tmp (d := 2) (v := .bool (els l)) rfl ?_ ⟨rfl, Gro.refl _⟩
    simp only [WW, argTmps, if_true, if_false, Nat.reduceLT, Nat.reduceEqDiff, Nat.zero_add, Nat.reduceAdd, List.getElem?_toArray, List.getElem?_cons_zero, List.getElem?_cons_succ, List.length_cons, List.length_nil, Option.map_some, reduceCtorEq, Nat.succ_ne_self, Nat.one_ne_zero, Nat.zero_ne_one, Option.some_beq_some, beq_self_eq_true, Bool.not_true, Bool.not_false, Bool.true_beq, Bool.false_beq]
    unfold els
    rw [decide_eq_false h, Bool.and_false]
end Go.Proofs.YtmchghdmejbblaaGreatDoor
