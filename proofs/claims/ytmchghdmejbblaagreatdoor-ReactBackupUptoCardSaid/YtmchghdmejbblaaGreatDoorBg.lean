/- Reactions as plain data; how many wait. -/
import Derived.Test.YtmchghdmejbblaaGreatDoorBw
set_option linter.unusedSimpArgs false
set_option linter.unusedVariables false
noncomputable section
namespace Go.Proofs.YtmchghdmejbblaaGreatDoor
open Go Go.Ab Go.RowKit

structure Rx where
  el : Int
  kind : Int
  cb : Int
  dn : ByteArray
  loc : ByteArray
  space : ByteArray
  old : ByteArray
  new : ByteArray
  had : Bool
  has : Bool
  src : Int
  to : Int
structure Qu where
  el : Int
  list : List Rx
structure Re where
  qs : List Qu
  stack : List (List Int)
  backup : List Int
  busy : Bool

def EI (c : List AV) (i : Int) : Prop := c = [.int .i64 i]
def Rx.cells (r : Rx) : List AV := [.int .i64 r.el, .int .u8 r.kind, .int .i64 r.cb, .str r.dn, .str r.loc, .str r.space, .str r.old, .str r.new, .bool r.had, .bool r.has, .int .i64 r.src, .int .i64 r.to]
def ER (c : List AV) (r : Rx) : Prop := c = r.cells ∧ 0 ≤ r.kind
def EQ (p : Nat → Prop) (σ : St) (c : List AV) (q : Qu) : Prop := ∃ v, c = [.int .i64 q.el, v] ∧ Rd p σ 12 ER v q.list
def EL (p : Nat → Prop) (σ : St) (c : List AV) (l : List Int) : Prop := ∃ v, c = [v] ∧ Rd p σ 1 EI v l
def Bd : Nat := 1048576
structure Re.ok (s : Re) : Prop where
  qs : s.qs.length ≤ Bd
  many : (s.qs.map (·.list.length)).sum ≤ Bd
  stack : s.stack.length ≤ Bd
  lists : ∀ l ∈ s.stack, l.length ≤ Bd
  backup : s.backup.length ≤ Bd
/-- What the cells of a Reacts hold. -/
def ReC (p : Nat → Prop) (σ : St) (c : List AV) (s : Re) : Prop := ∃ vq vs vb, c = [vq, vs, vb, .bool s.busy] ∧ Rd p σ 2 (EQ p σ) vq s.qs ∧ Rd p σ 1 (EL p σ) vs s.stack ∧ Rd p σ 1 EI vb s.backup

theorem EQ.keep {p q : Nat → Prop} {σ σ' : St} {c : List AV} {a : Qu} (h : EQ p σ c a) (k : Keeps p σ σ') (i : ∀ id, p id → q id) : EQ q σ' c a := by
  obtain ⟨v, h1, h2⟩ := h
  exact ⟨v, h1, h2.keep k i fun _ _ h => h⟩
theorem EL.keep {p q : Nat → Prop} {σ σ' : St} {c : List AV} {a : List Int} (h : EL p σ c a) (k : Keeps p σ σ') (i : ∀ id, p id → q id) : EL q σ' c a := by
  obtain ⟨v, h1, h2⟩ := h
  exact ⟨v, h1, h2.keep k i fun _ _ h => h⟩
theorem ReC.keep {p q : Nat → Prop} {σ σ' : St} {c : List AV} {s : Re} (h : ReC p σ c s) (k : Keeps p σ σ') (i : ∀ id, p id → q id) : ReC q σ' c s := by
  obtain ⟨vq, vs, vb, h1, h2, h3, h4⟩ := h
  exact ⟨vq, vs, vb, h1, h2.keep k i fun _ _ h => h.keep k i, h3.keep k i fun _ _ h => h.keep k i, h4.keep k i fun _ _ h => h⟩
theorem ReC.gro {σ σ' : St} {c : List AV} {s : Re} (h : ReC (· < σ.next) σ c s) (g : Gro σ σ') : ReC (· < σ'.next) σ' c s := h.keep g.keeps fun _ hi => Nat.lt_of_lt_of_le hi g.le

def many (s : Re) : Nat := (s.qs.map (·.list.length)).sum
def upTo (l : List Qu) (i : Nat) : Nat := ((l.take i).map (·.list.length)).sum
theorem upTo_succ {l : List Qu} {i : Nat} {q : Qu} (h : l[i]? = some q) : upTo l (i + 1) = upTo l i + q.list.length := by
  unfold upTo
  rw [List.take_add_one, h]
  simp
theorem upTo_le (l : List Qu) (i : Nat) : upTo l i ≤ (l.map (·.list.length)).sum := by
  unfold upTo
  have := List.take_append_drop i l
  conv => rhs; rw [← this]
  simp only [List.map_append, List.sum_append]
  omega
theorem upTo_all {l : List Qu} {i : Nat} (h : l.length ≤ i) : upTo l i = (l.map (·.list.length)).sum := by
  unfold upTo
  rw [List.take_of_length_le h]

theorem fr4 {vq vs vb : AV} {b : Bool} (o1 : vq.one = true) (o2 : vs.one = true) (o3 : vb.one = true) : ([vq, vs, vb, AV.bool b] : List AV).all AV.one = true := by
  simp only [List.all_cons, o1, o2, o3, one_bool, List.all_nil, Bool.and_self]
theorem natlt {a b : Nat} (h : a < b) : decide ((a : Int) < (b : Int)) = true := by simpa using h
theorem natge {a b : Nat} (h : ¬ a < b) : decide ((a : Int) < (b : Int)) = false := by simpa using h

theorem many_ok {σ : St} {c : List AV} {s : Re} (h : ReC (· < σ.next) σ c s) (hs : s.ok) : Ca Mq 43 [.agg c] σ fun r σ' => r = .int .i64 (many s) ∧ Gro σ σ' := by
  obtain ⟨vq, vs, vb, rfl, hq, hst, hb⟩ := h
  have hall := fr4 (b := s.busy) hq.one hst.one hb.one
  have hq' := hq.keep (Gro.keeps (Gro.add σ (.arr 0 [vq, vs, vb, AV.bool s.busy]))) (fun _ h => h) (fun c a h => h.keep (Gro.keeps (Gro.add σ (.arr 0 [vq, vs, vb, AV.bool s.busy]))) fun _ h => h)
  refine Ca.enter (fn := Tryz.f43) rfl (by kernel_rfl) rfl (by kernel_rfl) (Nat.le_of_ble_eq_true rfl) 22 _ rfl rfl ?_
  generalize hQ : Leave Mq Tryz.f43 _ = Q
  simp only [WW, argTmps, if_true, if_false, Nat.reduceLT, Nat.reduceEqDiff, Nat.zero_add, Nat.reduceAdd, List.getElem?_toArray, List.getElem?_cons_zero, List.getElem?_cons_succ, List.length_cons, List.length_nil, Option.map_some, reduceCtorEq, Nat.succ_ne_self, Nat.one_ne_zero, Nat.zero_ne_one, Option.some_beq_some, beq_self_eq_true, Bool.not_true, Bool.not_false, Bool.true_beq, Bool.false_beq, opNew_eq hall, AV.cells]
  refine Co_loop (fun m fr σ1 => ∃ i t, m + i = s.qs.length ∧ fr = ⟨t, [], 22, none⟩ ∧ σ1 = σ.add (.arr 0 [vq, vs, vb, AV.bool s.busy]) ∧ getT t 1 = .ptr σ.next 0 0 ∧ getT t 3 = .int .i64 (upTo s.qs i : Nat) ∧ getT t 4 = .int .i64 (i : Nat)) s.qs.length
    ⟨0, _, rfl, rfl, rfl, by simp only [WW, argTmps, if_true, if_false, Nat.reduceLT, Nat.reduceEqDiff, Nat.zero_add, Nat.reduceAdd, List.getElem?_toArray, List.getElem?_cons_zero, List.getElem?_cons_succ, List.length_cons, List.length_nil, Option.map_some, reduceCtorEq, Nat.succ_ne_self, Nat.one_ne_zero, Nat.zero_ne_one, Option.some_beq_some, beq_self_eq_true, Bool.not_true, Bool.not_false, Bool.true_beq, Bool.false_beq], by simp only [WW, argTmps, if_true, if_false, Nat.reduceLT, Nat.reduceEqDiff, Nat.zero_add, Nat.reduceAdd, List.getElem?_toArray, List.getElem?_cons_zero, List.getElem?_cons_succ, List.length_cons, List.length_nil, Option.map_some, reduceCtorEq, Nat.succ_ne_self, Nat.one_ne_zero, Nat.zero_ne_one, Option.some_beq_some, beq_self_eq_true, Bool.not_true, Bool.not_false, Bool.true_beq, Bool.false_beq]; rfl, by simp only [WW, argTmps, if_true, if_false, Nat.reduceLT, Nat.reduceEqDiff, Nat.zero_add, Nat.reduceAdd, List.getElem?_toArray, List.getElem?_cons_zero, List.getElem?_cons_succ, List.length_cons, List.length_nil, Option.map_some, reduceCtorEq, Nat.succ_ne_self, Nat.one_ne_zero, Nat.zero_ne_one, Option.some_beq_some, beq_self_eq_true, Bool.not_true, Bool.not_false, Bool.true_beq, Bool.false_beq]; rfl⟩ ?_
  rintro m fr σ1 K ⟨i, t, hm, rfl, rfl, g1, g3, g4⟩ kn ke kr
  have hlen := hq'.len und61
  simp only [WW, argTmps, if_true, if_false, Nat.reduceLT, Nat.reduceEqDiff, Nat.zero_add, Nat.reduceAdd, List.getElem?_toArray, List.getElem?_cons_zero, List.getElem?_cons_succ, List.length_cons, List.length_nil, Option.map_some, reduceCtorEq, Nat.succ_ne_self, Nat.one_ne_zero, Nat.zero_ne_one, Option.some_beq_some, beq_self_eq_true, Bool.not_true, Bool.not_false, Bool.true_beq, Bool.false_beq, WT, g1, g3, g4, hlen]
  by_cases hi : i < s.qs.length
  · obtain ⟨q, hqi⟩ : ∃ q, s.qs[i]? = some q := ⟨s.qs[i], by simp [hi]⟩
    obtain ⟨c, he, ⟨vl, rfl, hl⟩, _⟩ := hq'.elt hqi
    have h1 := upTo_succ hqi
    have h2 := upTo_le s.qs (i + 1)
    have h3 := hs.many
    have h4 := hs.qs
    unfold Bd at h3 h4
    simp only [natlt hi, WW, argTmps, if_true, if_false, Nat.reduceLT, Nat.reduceEqDiff, Nat.zero_add, Nat.reduceAdd, List.getElem?_toArray, List.getElem?_cons_zero, List.getElem?_cons_succ, List.length_cons, List.length_nil, Option.map_some, reduceCtorEq, Nat.succ_ne_self, Nat.one_ne_zero, Nat.zero_ne_one, Option.some_beq_some, beq_self_eq_true, Bool.not_true, Bool.not_false, Bool.true_beq, Bool.false_beq, WT, g1, g3, g4, he.ix und61 sz81, he.fa (fun _ _ _ => fa81_1) (fun _ _ => fr81_1), he.ld ag79 (k := 1) (by omega) rfl, hl.len und79, wrapS (show i < 1000000000000 by omega), wrapA (show upTo s.qs i + q.list.length < 1000000000000 by omega)]
    exact kn (m - 1) _ _ (by omega) ⟨i + 1, _, by omega, rfl, rfl, by simp only [WW, argTmps, if_true, if_false, Nat.reduceLT, Nat.reduceEqDiff, Nat.zero_add, Nat.reduceAdd, List.getElem?_toArray, List.getElem?_cons_zero, List.getElem?_cons_succ, List.length_cons, List.length_nil, Option.map_some, reduceCtorEq, Nat.succ_ne_self, Nat.one_ne_zero, Nat.zero_ne_one, Option.some_beq_some, beq_self_eq_true, Bool.not_true, Bool.not_false, Bool.true_beq, Bool.false_beq]; exact g1, by simp only [WW, argTmps, if_true, if_false, Nat.reduceLT, Nat.reduceEqDiff, Nat.zero_add, Nat.reduceAdd, List.getElem?_toArray, List.getElem?_cons_zero, List.getElem?_cons_succ, List.length_cons, List.length_nil, Option.map_some, reduceCtorEq, Nat.succ_ne_self, Nat.one_ne_zero, Nat.zero_ne_one, Option.some_beq_some, beq_self_eq_true, Bool.not_true, Bool.not_false, Bool.true_beq, Bool.false_beq]; rw [h1], by simp only [WW, argTmps, if_true, if_false, Nat.reduceLT, Nat.reduceEqDiff, Nat.zero_add, Nat.reduceAdd, List.getElem?_toArray, List.getElem?_cons_zero, List.getElem?_cons_succ, List.length_cons, List.length_nil, Option.map_some, reduceCtorEq, Nat.succ_ne_self, Nat.one_ne_zero, Nat.zero_ne_one, Option.some_beq_some, beq_self_eq_true, Bool.not_true, Bool.not_false, Bool.true_beq, Bool.false_beq]⟩
  · simp only [natge hi, WW, argTmps, if_true, if_false, Nat.reduceLT, Nat.reduceEqDiff, Nat.zero_add, Nat.reduceAdd, List.getElem?_toArray, List.getElem?_cons_zero, List.getElem?_cons_succ, List.length_cons, List.length_nil, Option.map_some, reduceCtorEq, Nat.succ_ne_self, Nat.one_ne_zero, Nat.zero_ne_one, Option.some_beq_some, beq_self_eq_true, Bool.not_true, Bool.not_false, Bool.true_beq, Bool.false_beq, WT, g1, g3, g4, ke, kr]
    subst hQ
    refine ⟨rfl, [.int .i64 (many s)], ?_, rfl, Gro.add _ _⟩
    have : i = s.qs.length := by omega
    show resultsA _ _ _ [.tmp 2] = _
    simp only [resultsA, resultA, WW, argTmps, if_true, if_false, Nat.reduceLT, Nat.reduceEqDiff, Nat.zero_add, Nat.reduceAdd, List.getElem?_toArray, List.getElem?_cons_zero, List.getElem?_cons_succ, List.length_cons, List.length_nil, Option.map_some, reduceCtorEq, Nat.succ_ne_self, Nat.one_ne_zero, Nat.zero_ne_one, Option.some_beq_some, beq_self_eq_true, Bool.not_true, Bool.not_false, Bool.true_beq, Bool.false_beq, this]
    rw [upTo_all (Nat.le_refl _)]
    rfl
end Go.Proofs.YtmchghdmejbblaaGreatDoor
