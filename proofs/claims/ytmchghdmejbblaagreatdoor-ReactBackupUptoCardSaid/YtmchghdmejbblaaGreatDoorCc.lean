/- react.take. -/
import Derived.Test.YtmchghdmejbblaaGreatDoorCb
set_option linter.unusedSimpArgs false
set_option linter.unusedVariables false
noncomputable section
namespace Go.Proofs.YtmchghdmejbblaaGreatDoor
open Go Go.Ab Go.RowKit

theorem chunks_drop {α : Type} {n : Nat} {E : List AV → α → Prop} : ∀ {l : List α} {cs : List AV} (h : Nat), Chunks n E cs l → Chunks n E (cs.drop (h * n)) (l.drop h)
  | [], _, h, hc => by cases hc; simp [Chunks]
  | a :: l, _, 0, hc => by simpa using hc
  | a :: l, _, h + 1, hc => by
    obtain ⟨c, r, rfl, h2, h3, h4⟩ := hc
    have := chunks_drop h h4
    rw [Nat.succ_mul, Nat.add_comm, ← List.drop_drop, ← h2, List.drop_left]
    rw [h2]
    exact this
theorem chunks_erase {α : Type} {n : Nat} {E : List AV → α → Prop} : ∀ {l : List α} {cs : List AV} (i : Nat), i < l.length → Chunks n E cs l → Chunks n E (cs.take (i * n) ++ cs.drop ((i + 1) * n)) (l.eraseIdx i)
  | [], _, _, hi, _ => by simp at hi
  | a :: l, _, 0, _, hc => by
    obtain ⟨c, r, rfl, h2, h3, h4⟩ := hc
    have : (0 + 1) * n = c.length := by omega
    rw [this, Nat.zero_mul, List.take_zero, List.nil_append, List.drop_left]
    exact h4
  | a :: l, _, i + 1, hi, hc => by
    obtain ⟨c, r, rfl, h2, h3, h4⟩ := hc
    have := chunks_erase i (by simpa using hi) h4
    refine ⟨c, r.take (i * n) ++ r.drop ((i + 1) * n), ?_, h2, h3, this⟩
    rw [Nat.succ_mul i n, Nat.add_comm (i * n) n, ← h2, List.take_length_add_append, h2, Nat.succ_mul (i + 1) n, Nat.add_comm ((i + 1) * n) n, ← List.drop_drop]
    have : List.drop n (c ++ r) = r := by rw [← h2, List.drop_left]
    rw [this, List.append_assoc, Nat.succ_mul i n, Nat.add_comm (i * n) n]
theorem chunks_set {α : Type} {n : Nat} {E : List AV → α → Prop} : ∀ {l : List α} {cs : List AV} (i : Nat) {c : List AV} {a : α}, i < l.length → Chunks n E cs l → c.length = n → E c a → Chunks n E (cs.take (i * n) ++ c ++ cs.drop ((i + 1) * n)) (l.set i a)
  | [], _, _, _, _, hi, _, _, _ => by simp at hi
  | b :: l, _, 0, c, a, _, hc, hl, he => by
    obtain ⟨c0, r, rfl, h2, h3, h4⟩ := hc
    have : (0 + 1) * n = c0.length := by omega
    rw [this, Nat.zero_mul, List.take_zero, List.nil_append, List.drop_left]
    exact ⟨c, r, rfl, hl, he, h4⟩
  | b :: l, _, i + 1, c, a, hi, hc, hl, he => by
    obtain ⟨c0, r, rfl, h2, h3, h4⟩ := hc
    have := chunks_set i (by simpa using hi) h4 hl he
    refine ⟨c0, r.take (i * n) ++ c ++ r.drop ((i + 1) * n), ?_, h2, h3, this⟩
    rw [Nat.succ_mul i n, Nat.add_comm (i * n) n, ← h2, List.take_length_add_append, h2, Nat.succ_mul (i + 1) n, Nat.add_comm ((i + 1) * n) n, ← List.drop_drop]
    have : List.drop n (c0 ++ r) = r := by rw [← h2, List.drop_left]
    rw [this, List.append_assoc, List.append_assoc, List.append_assoc, Nat.succ_mul i n, Nat.add_comm (i * n) n]
/-- A slice's tail. -/
theorem slice_from {α : Type} {T : Tb} {t e n : Nat} {p : Nat → Prop} {σ : St} {v : AV} {l : List α} {E : List AV → α → Prop} (hu : und T t = some (.slice e)) (hn : sizeA T e = some n) (hv : Rd p σ n E v l) {h : Nat} (hh : h ≤ l.length) (h0 : 0 < l.length) :
    ∃ v', sliceA T t v (some (.int .i64 (h : Nat))) none none = some v' ∧ Rd p σ n E v' (l.drop h) ∧ v'.cells = [v'] := by
  obtain ⟨cells, h1, h2, h3⟩ := hv
  have hlen : (l.drop h).length = l.length - h := List.length_drop
  have hmul : h * n + (l.length - h) * n = l.length * n := by rw [← Nat.add_mul]; congr 1; omega
  have hc : ∀ {cs : List AV} {off : Nat}, off + l.length * n ≤ cs.length → cells = (cs.drop off).take (l.length * n) → Go.Ab.rowAt cs (off + h * n) ((l.length - h) * n) = some (cells.drop (h * n)) := fun hle hce => by
    rw [rowAt_of (by omega), hce, List.drop_take, List.drop_drop]
    congr 2
    omega
  have hck := chunks_drop h h3
  rcases elems_cases h1 with ⟨_, hz, _⟩ | ⟨_, hz, _⟩ | ⟨id, ver, off, lo, ex, cs, rfl, hl, hcs, hle, hce⟩ | ⟨id, off, cs, rfl, hcs, hle, hce⟩
  · omega
  · omega
  · have r1 := hc hle hce
    refine ⟨.sl id ver (off + h * n) (l.length - h) (lo - h) n ex, ?_, ⟨_, ?_, h2, hck⟩, rfl⟩
    · simp only [sliceA, hu, sliceSl, hn, boundA, natOf, slice2, Nat.beq_refl, Nat.ble_eq_true_of_le hh, Nat.ble_eq_true_of_le hl, Bool.and_self, mkSl_eq]
    · simp only [elemsA, hcs, elemsIn, Nat.beq_refl, Nat.ble_eq_true_of_le (show l.length - h ≤ lo - h by omega), Bool.and_self, r1, hlen]
  · have r1 := hc hle hce
    refine ⟨.rsl id (off + h * n) (l.length - h), ?_, ⟨_, ?_, h2, hck⟩, rfl⟩
    · simp only [sliceA, hu, sliceR, hn, boundA, natOf, sliceR2, Nat.ble_eq_true_of_le hh, Nat.ble_eq_true_of_le (Nat.le_refl l.length), Bool.and_self]
    · simp only [elemsA, hcs, elemsR, r1, hlen]

theorem take_leave {d n io : Nat} {t : Tr AV} {σ : St} {r : Rx} {v w : AV} {Q : AV → St → Prop} (hd : getT t 5 = .ptr io 0 0) (hc : cellsAt σ io 0 = some r.cells) (h4 : getT t 4 = v) (h6 : getT t 6 = w) (q : Q (.tup [v, .agg r.cells, w]) σ) : Leave Mq Tryz.f99 Q .ret ⟨t, [], n, none⟩ σ := by
  refine ⟨rfl, [v, .agg r.cells, w], ?_, q⟩
  show resultsA _ _ _ [.tmp 4, .cell 5 87, .tmp 6] = _
  simp only [resultsA, resultA, hd, load_ptr, sz87, ag87, hc, ldC_all (n := 12) (cells := r.cells) rfl, h4, h6]

/-- Behind react.take. -/
structure TookSt (b B io : Nat) (σ σ' : St) (vq vs vb : AV) (busy : Bool) (x : List Qu × List Int × Rx × Bool) (r : AV) : Prop where
  val : ∃ vl vq', r = .tup [vl, .agg x.2.2.1.cells, .bool x.2.2.2] ∧ cellsAt σ' io 0 = some [vq', vs, vb, .bool busy] ∧ Rd (fun id => b ≤ id ∧ id < B) σ' 2 (EQ (fun id => b ≤ id ∧ id < B) σ') vq' x.1 ∧ Rd (fun id => σ.next ≤ id ∧ id < σ'.next) σ' 1 EI vl x.2.1
  le : σ.next ≤ σ'.next
  keep : ∀ id, id < σ.next → id ≠ io → vq.own ≠ some id → σ'.get id = σ.get id

set_option maxRecDepth 100000 in
theorem take_ok {b B io : Nat} {σ : St} {vq vs vb vl : AV} {busy : Bool} {qs : List Qu} {l : List Int} {cq : List AV}
    (hio : cellsAt σ io 0 = some [vq, vs, vb, .bool busy]) (hin : io < σ.next) (hout : io < b ∨ B ≤ io) (hB : B ≤ σ.next) (ha : Apd b σ vq 2 cq) (hoB : ∀ id, vq.own = some id → id < B)
    (hc : Chunks 2 (EQ (fun id => b ≤ id ∧ id < B ∧ vq.own ≠ some id) σ) cq qs) (hones : ([vq, vs, vb, .bool busy] : List AV).all AV.one = true) (hl : Rd (· < σ.next) σ 1 EI vl l) (hll : l.length ≤ Bd) (hql : qs.length ≤ Bd) (hne : ∀ q ∈ qs, q.list.length ≠ 0) :
    Ca Mq 99 [.ptr io 0 0, vl] σ (fun r σ' => TookSt b B io σ σ' vq vs vb busy (takeP qs l) r) := by
  have hll' := hll
  have hql' := hql
  unfold Bd at hll' hql'
  have l1 := hl.len und40
  have ip : ∀ id, (b ≤ id ∧ id < B ∧ vq.own ≠ some id) → id < σ.next := fun id h => by omega
  have hrd : Rd (· < σ.next) σ 2 (EQ (· < σ.next) σ) vq qs := ha.rd (hc.mono fun c a e => e.keep (fun _ _ => rfl) ip) (by omega) (fun id _ _ h => h)
  refine Ca.enter (fn := Tryz.f99) rfl (by kernel_rfl) rfl (by kernel_rfl) (Nat.le_of_ble_eq_true rfl) 69 _ rfl rfl ?_
  generalize hQ : Leave Mq Tryz.f99 _ = Q
  obtain ⟨σ1, e1⟩ : ∃ σ1, σ.add (.arr 0 zRx.cells) = σ1 := ⟨_, rfl⟩
  have g1 : Gro σ σ1 := by rw [← e1]; exact Gro.add _ _
  have n1 : σ1.next = σ.next + 1 := by rw [← e1]; rfl
  have c1 : cellsAt σ1 σ.next 0 = some zRx.cells := by rw [← e1]; exact cellsAt_of get_new
  have l2 := (rd_gro hl g1).len und40
  simp only [WW, argTmps, if_true, if_false, Nat.reduceLT, Nat.reduceEqDiff, Nat.zero_add, Nat.reduceAdd, List.getElem?_toArray, List.getElem?_cons_zero, List.getElem?_cons_succ, List.length_cons, List.length_nil, Option.map_some, reduceCtorEq, Nat.succ_ne_self, Nat.one_ne_zero, Nat.zero_ne_one, Option.some_beq_some, beq_self_eq_true, Bool.not_true, Bool.not_false, Bool.true_beq, Bool.false_beq, WT, al87, e1, l2]
  refine Co_loop (fun m fr σ2 => ∃ i t, m + i = l.length ∧ fr = ⟨t, [], 69, none⟩ ∧ Gro σ1 σ2 ∧ takeP qs l = takeP qs (l.drop i) ∧ getT t 0 = .ptr io 0 0 ∧ getT t 1 = vl ∧ getT t 5 = .ptr σ.next 0 0 ∧ getT t 12 = vl ∧ getT t 13 = .int .i64 (l.length : Nat) ∧ getT t 14 = .int .i64 (i : Nat)) l.length
    ⟨0, _, rfl, rfl, Gro.refl _, rfl, by simp only [WW, argTmps, if_true, if_false, Nat.reduceLT, Nat.reduceEqDiff, Nat.zero_add, Nat.reduceAdd, List.getElem?_toArray, List.getElem?_cons_zero, List.getElem?_cons_succ, List.length_cons, List.length_nil, Option.map_some, reduceCtorEq, Nat.succ_ne_self, Nat.one_ne_zero, Nat.zero_ne_one, Option.some_beq_some, beq_self_eq_true, Bool.not_true, Bool.not_false, Bool.true_beq, Bool.false_beq], by simp only [WW, argTmps, if_true, if_false, Nat.reduceLT, Nat.reduceEqDiff, Nat.zero_add, Nat.reduceAdd, List.getElem?_toArray, List.getElem?_cons_zero, List.getElem?_cons_succ, List.length_cons, List.length_nil, Option.map_some, reduceCtorEq, Nat.succ_ne_self, Nat.one_ne_zero, Nat.zero_ne_one, Option.some_beq_some, beq_self_eq_true, Bool.not_true, Bool.not_false, Bool.true_beq, Bool.false_beq], by simp only [WW, argTmps, if_true, if_false, Nat.reduceLT, Nat.reduceEqDiff, Nat.zero_add, Nat.reduceAdd, List.getElem?_toArray, List.getElem?_cons_zero, List.getElem?_cons_succ, List.length_cons, List.length_nil, Option.map_some, reduceCtorEq, Nat.succ_ne_self, Nat.one_ne_zero, Nat.zero_ne_one, Option.some_beq_some, beq_self_eq_true, Bool.not_true, Bool.not_false, Bool.true_beq, Bool.false_beq], by simp only [WW, argTmps, if_true, if_false, Nat.reduceLT, Nat.reduceEqDiff, Nat.zero_add, Nat.reduceAdd, List.getElem?_toArray, List.getElem?_cons_zero, List.getElem?_cons_succ, List.length_cons, List.length_nil, Option.map_some, reduceCtorEq, Nat.succ_ne_self, Nat.one_ne_zero, Nat.zero_ne_one, Option.some_beq_some, beq_self_eq_true, Bool.not_true, Bool.not_false, Bool.true_beq, Bool.false_beq], by simp only [WW, argTmps, if_true, if_false, Nat.reduceLT, Nat.reduceEqDiff, Nat.zero_add, Nat.reduceAdd, List.getElem?_toArray, List.getElem?_cons_zero, List.getElem?_cons_succ, List.length_cons, List.length_nil, Option.map_some, reduceCtorEq, Nat.succ_ne_self, Nat.one_ne_zero, Nat.zero_ne_one, Option.some_beq_some, beq_self_eq_true, Bool.not_true, Bool.not_false, Bool.true_beq, Bool.false_beq], by simp only [WW, argTmps, if_true, if_false, Nat.reduceLT, Nat.reduceEqDiff, Nat.zero_add, Nat.reduceAdd, List.getElem?_toArray, List.getElem?_cons_zero, List.getElem?_cons_succ, List.length_cons, List.length_nil, Option.map_some, reduceCtorEq, Nat.succ_ne_self, Nat.one_ne_zero, Nat.zero_ne_one, Option.some_beq_some, beq_self_eq_true, Bool.not_true, Bool.not_false, Bool.true_beq, Bool.false_beq]; rfl⟩ ?_
  rintro m fr σ2 K ⟨i, t, hm, rfl, g2, ht, f0, f1, f5, f12, f13, f14⟩ kn ke kr
  have g02 := g1.trans g2
  have io2 := g02.cells hin hio
  simp only [WW, argTmps, if_true, if_false, Nat.reduceLT, Nat.reduceEqDiff, Nat.zero_add, Nat.reduceAdd, List.getElem?_toArray, List.getElem?_cons_zero, List.getElem?_cons_succ, List.length_cons, List.length_nil, Option.map_some, reduceCtorEq, Nat.succ_ne_self, Nat.one_ne_zero, Nat.zero_ne_one, Option.some_beq_some, beq_self_eq_true, Bool.not_true, Bool.not_false, Bool.true_beq, Bool.false_beq, WT, f13, f14]
  by_cases hi : i < l.length
  case neg =>
    have c2 := g2.cells (by omega) c1
    simp only [natge hi, WW, argTmps, if_true, if_false, Nat.reduceLT, Nat.reduceEqDiff, Nat.zero_add, Nat.reduceAdd, List.getElem?_toArray, List.getElem?_cons_zero, List.getElem?_cons_succ, List.length_cons, List.length_nil, Option.map_some, reduceCtorEq, Nat.succ_ne_self, Nat.one_ne_zero, Nat.zero_ne_one, Option.some_beq_some, beq_self_eq_true, Bool.not_true, Bool.not_false, Bool.true_beq, Bool.false_beq, WT, ke, kr, evParts_nil, bd87_0, f5, c2, st87]
    rw [List.drop_eq_nil_of_le (by omega)] at ht
    subst hQ
    refine take_leave (d := 0) (io := σ.next) (r := zRx) (v := .nils) (w := .bool false) (by simp only [WW, argTmps, if_true, if_false, Nat.reduceLT, Nat.reduceEqDiff, Nat.zero_add, Nat.reduceAdd, List.getElem?_toArray, List.getElem?_cons_zero, List.getElem?_cons_succ, List.length_cons, List.length_nil, Option.map_some, reduceCtorEq, Nat.succ_ne_self, Nat.one_ne_zero, Nat.zero_ne_one, Option.some_beq_some, beq_self_eq_true, Bool.not_true, Bool.not_false, Bool.true_beq, Bool.false_beq]; exact f5) put_cells (by simp only [WW, argTmps, if_true, if_false, Nat.reduceLT, Nat.reduceEqDiff, Nat.zero_add, Nat.reduceAdd, List.getElem?_toArray, List.getElem?_cons_zero, List.getElem?_cons_succ, List.length_cons, List.length_nil, Option.map_some, reduceCtorEq, Nat.succ_ne_self, Nat.one_ne_zero, Nat.zero_ne_one, Option.some_beq_some, beq_self_eq_true, Bool.not_true, Bool.not_false, Bool.true_beq, Bool.false_beq]) (by simp only [WW, argTmps, if_true, if_false, Nat.reduceLT, Nat.reduceEqDiff, Nat.zero_add, Nat.reduceAdd, List.getElem?_toArray, List.getElem?_cons_zero, List.getElem?_cons_succ, List.length_cons, List.length_nil, Option.map_some, reduceCtorEq, Nat.succ_ne_self, Nat.one_ne_zero, Nat.zero_ne_one, Option.some_beq_some, beq_self_eq_true, Bool.not_true, Bool.not_false, Bool.true_beq, Bool.false_beq]) ⟨?_, by rw [next_put]; exact g02.le, fun id h1 h2 h3 => ?_⟩
    · rw [ht]
      have kk : Keeps (fun id => b ≤ id ∧ id < B) σ (σ2.put σ.next (.arr 0 zRx.cells)) := fun id h => by
        have h : b ≤ id ∧ id < B := h
        rw [get_put, if_neg (by omega)]
        exact g02.get id (by omega)
      refine ⟨.nils, vq, rfl, ?_, ?_, rd_nils _ _ _ _⟩
      · rw [put_cells_ne (by omega)]; exact io2
      · exact (ha.rd (p := fun id => b ≤ id ∧ id < B) (hc.mono fun c a e => e.keep (fun _ _ => rfl) fun id h => (⟨h.1, h.2.1⟩ : b ≤ id ∧ id < B)) (by omega) (fun id e h1 _ => ⟨h1, hoB id e⟩)).keep kk (fun _ h => h) fun c a h => h.keep kk fun _ h => h
    · rw [get_put, if_neg (by omega)]
      exact g02.get id h1
  obtain ⟨h, hh⟩ := get_some hi
  have hd : l.drop i = h :: l.drop (i + 1) := by
    rw [List.drop_eq_getElem_cons hi]
    congr 1
    exact (List.getElem?_eq_some_iff.1 hh).2
  have hl2 := rd_gro hl g02
  obtain ⟨c, u1, rfl, _⟩ := hl2.elt hh
  simp only [natlt hi, WW, argTmps, if_true, if_false, Nat.reduceLT, Nat.reduceEqDiff, Nat.zero_add, Nat.reduceAdd, List.getElem?_toArray, List.getElem?_cons_zero, List.getElem?_cons_succ, List.length_cons, List.length_nil, Option.map_some, reduceCtorEq, Nat.succ_ne_self, Nat.one_ne_zero, Nat.zero_ne_one, Option.some_beq_some, beq_self_eq_true, Bool.not_true, Bool.not_false, Bool.true_beq, Bool.false_beq, WT, f0, f12, f14, u1.ix und40 sz3, u1.ld0 ag3 (by omega) rfl, opNil, io2, ldC_all (n := 4) (cells := [vq, vs, vb, .bool busy]) rfl]
  refine (place_ok (h := h) (rdq_gro hrd g02) hones hql).mono ?_
  rintro r σ3 ⟨rfl, g3⟩
  have g03 := g02.trans g3
  by_cases hp : placeOf qs h < 0
  case pos =>
    simp only [decide_eq_true hp, WW, argTmps, if_true, if_false, Nat.reduceLT, Nat.reduceEqDiff, Nat.zero_add, Nat.reduceAdd, List.getElem?_toArray, List.getElem?_cons_zero, List.getElem?_cons_succ, List.length_cons, List.length_nil, Option.map_some, reduceCtorEq, Nat.succ_ne_self, Nat.one_ne_zero, Nat.zero_ne_one, Option.some_beq_some, beq_self_eq_true, Bool.not_true, Bool.not_false, Bool.true_beq, Bool.false_beq, WT, f14, wrapS (show i < 1000000000000 by omega)]
    exact kn (m - 1) _ _ (by omega) ⟨i + 1, _, by omega, rfl, g2.trans g3, by rw [ht, hd, takeP_skip hp], by simp only [WW, argTmps, if_true, if_false, Nat.reduceLT, Nat.reduceEqDiff, Nat.zero_add, Nat.reduceAdd, List.getElem?_toArray, List.getElem?_cons_zero, List.getElem?_cons_succ, List.length_cons, List.length_nil, Option.map_some, reduceCtorEq, Nat.succ_ne_self, Nat.one_ne_zero, Nat.zero_ne_one, Option.some_beq_some, beq_self_eq_true, Bool.not_true, Bool.not_false, Bool.true_beq, Bool.false_beq]; exact f0, by simp only [WW, argTmps, if_true, if_false, Nat.reduceLT, Nat.reduceEqDiff, Nat.zero_add, Nat.reduceAdd, List.getElem?_toArray, List.getElem?_cons_zero, List.getElem?_cons_succ, List.length_cons, List.length_nil, Option.map_some, reduceCtorEq, Nat.succ_ne_self, Nat.one_ne_zero, Nat.zero_ne_one, Option.some_beq_some, beq_self_eq_true, Bool.not_true, Bool.not_false, Bool.true_beq, Bool.false_beq]; exact f1, by simp only [WW, argTmps, if_true, if_false, Nat.reduceLT, Nat.reduceEqDiff, Nat.zero_add, Nat.reduceAdd, List.getElem?_toArray, List.getElem?_cons_zero, List.getElem?_cons_succ, List.length_cons, List.length_nil, Option.map_some, reduceCtorEq, Nat.succ_ne_self, Nat.one_ne_zero, Nat.zero_ne_one, Option.some_beq_some, beq_self_eq_true, Bool.not_true, Bool.not_false, Bool.true_beq, Bool.false_beq]; exact f5, by simp only [WW, argTmps, if_true, if_false, Nat.reduceLT, Nat.reduceEqDiff, Nat.zero_add, Nat.reduceAdd, List.getElem?_toArray, List.getElem?_cons_zero, List.getElem?_cons_succ, List.length_cons, List.length_nil, Option.map_some, reduceCtorEq, Nat.succ_ne_self, Nat.one_ne_zero, Nat.zero_ne_one, Option.some_beq_some, beq_self_eq_true, Bool.not_true, Bool.not_false, Bool.true_beq, Bool.false_beq]; exact f12, by simp only [WW, argTmps, if_true, if_false, Nat.reduceLT, Nat.reduceEqDiff, Nat.zero_add, Nat.reduceAdd, List.getElem?_toArray, List.getElem?_cons_zero, List.getElem?_cons_succ, List.length_cons, List.length_nil, Option.map_some, reduceCtorEq, Nat.succ_ne_self, Nat.one_ne_zero, Nat.zero_ne_one, Option.some_beq_some, beq_self_eq_true, Bool.not_true, Bool.not_false, Bool.true_beq, Bool.false_beq]; exact f13, by simp only [WW, argTmps, if_true, if_false, Nat.reduceLT, Nat.reduceEqDiff, Nat.zero_add, Nat.reduceAdd, List.getElem?_toArray, List.getElem?_cons_zero, List.getElem?_cons_succ, List.length_cons, List.length_nil, Option.map_some, reduceCtorEq, Nat.succ_ne_self, Nat.one_ne_zero, Nat.zero_ne_one, Option.some_beq_some, beq_self_eq_true, Bool.not_true, Bool.not_false, Bool.true_beq, Bool.false_beq]⟩
  obtain ⟨at', q, hpl, hfi, hq, hqe⟩ := placeOf_at hp
  have io3 := g03.cells hin hio
  have hrd3 := rdq_gro hrd g03
  obtain ⟨c, u2, ⟨wl, rfl, hwl⟩, _⟩ := hrd3.elt hq
  have hq1 : at' < qs.length := (List.getElem?_eq_some_iff.1 hq).1
  obtain ⟨wi, s1, s2, s3⟩ := slice_from (T := Mq.T) und40 sz3 (rd_gro hl g03) (h := i) (by omega) (by omega)
  rw [hpl] at hp ⊢
  have hqn := hne q (List.mem_of_getElem? hq)
  obtain ⟨qe, ql⟩ := q
  cases ql with
  | nil => simp at hqn
  | cons r rest =>
  simp only [decide_eq_false hp, WW, argTmps, if_true, if_false, Nat.reduceLT, Nat.reduceEqDiff, Nat.zero_add, Nat.reduceAdd, List.getElem?_toArray, List.getElem?_cons_zero, List.getElem?_cons_succ, List.length_cons, List.length_nil, Option.map_some, reduceCtorEq, Nat.succ_ne_self, Nat.one_ne_zero, Nat.zero_ne_one, Option.some_beq_some, beq_self_eq_true, Bool.not_true, Bool.not_false, Bool.true_beq, Bool.false_beq, WT, f0, f1, opNil, io3, u2.ix und61 sz81, u2.fa (fun _ _ _ => fa81_1) (fun _ _ => fr81_1), u2.ld ag79 (k := 1) (by omega) rfl, s1]
  refine (clone79_ok s2 (by rw [List.length_drop]; unfold Bd; omega)).mono ?_
  rintro left σ4 ⟨⟨cl, a4, k4⟩, g4⟩
  have g04 := g03.trans g4
  have io4 := g04.cells hin hio
  have hleft : Rd (fun id => σ.next < id ∧ id < σ4.next) σ4 1 EI left (l.drop i) := a4.rd k4 (by omega) fun id _ h1 h2 => ⟨by have := g2.le; have := g3.le; omega, h2⟩
  have hwl4 := rd_gro hwl g4
  have lw := hwl4.len und79
  obtain ⟨nq, hnq⟩ : ∃ nq, (r :: rest).length = nq := ⟨_, rfl⟩
  have hnq' : nq = rest.length + 1 := by rw [← hnq]; rfl
  rw [hnq] at lw
  have c4 := ((g2.trans g3).trans g4).cells (by omega) c1
  -- the row of the queues
  have ha4 : Apd b σ4 vq 2 cq := ha.keep g04.le fun id e => g04.get id (by have := hoB id e; omega)
  have hqlen := hc.length
  rcases ha4 with ⟨rfl, rfl⟩ | ⟨id, ver, len, lo, ex, rfl, hbi, hidl, hg, hcl, hlo, hex, hpos⟩
  · simp at hqlen
    omega
  have hidB := hoB id rfl
  obtain rfl : len = qs.length := by omega
  have hio_id : io ≠ id := by omega
  -- the list of the queue, wherever the queues' own row is not
  have hwlP : ∀ τ, (∀ k, k < σ.next → k ≠ io → k ≠ id → τ.get k = σ.get k) → Rd (fun k => b ≤ k ∧ k < B) τ 12 ER wl (r :: rest) := fun τ hτ => by
    obtain ⟨c', w1, ⟨w2, hw2, hw3⟩, _⟩ := (ha.rd (p := fun _ => True) hc (by omega) (fun _ _ _ _ => trivial)).elt hq
    have hsame : w2 = wl := by
      have w1' := elt_keep (τ := σ3) (p := (· < σ.next)) w1 (by show id < σ.next; omega) (fun k hk => g03.get k hk)
      obtain ⟨n1', cs1, b1, b2, b3⟩ := w1'
      obtain ⟨n2', cs2, d1, d2, d3⟩ := u2
      rw [b1] at d1
      cases d1
      rw [← b3, d3] at hw2
      simpa using hw2.symm
    subst hsame
    exact hw3.keep (fun k hk => hτ k (by omega) (by omega) (fun e => hk.2.2 (by rw [e]; rfl))) (fun k hk => ⟨hk.1, hk.2.1⟩) fun _ _ h => h
  have hone : cq.all AV.one = true := chunks_ones eq_one hc
  have hcP : ∀ τ, (∀ k, k < σ.next → k ≠ io → k ≠ id → τ.get k = σ.get k) → Chunks 2 (EQ (fun k => b ≤ k ∧ k < B) τ) cq qs := fun τ hτ =>
    hc.mono fun c a e => e.keep (fun k hk => hτ k (by omega) (by omega) (fun e => hk.2.2 (by rw [e]; rfl))) fun k hk => (⟨hk.1, hk.2.1⟩ : b ≤ k ∧ k < B)
  by_cases hone1 : rest.length = 0
  case pos =>
    have hnq1 : nq = 1 := by omega
    obtain rfl : rest = [] := List.eq_nil_of_length_eq_zero hone1
    have htake : takeP qs l = (qs.eraseIdx at', l.drop (i + 1), r, true) := by
      rw [ht, hd]
      simp only [takeP, hfi, hq]
      rfl
    obtain ⟨wi1, t1, t2, t3⟩ := slice_from (T := Mq.T) und40 sz3 hleft (h := 1) (by rw [List.length_drop]; omega) (by rw [List.length_drop]; omega)
    have hdd : (l.drop i).drop 1 = l.drop (i + 1) := by rw [List.drop_drop]
    rw [hdd] at t2
    have t1 : sliceA Mq.T 40 left (some (.int .i64 1)) none none = some wi1 := t1
    simp only [WW, argTmps, if_true, if_false, Nat.reduceLT, Nat.reduceEqDiff, Nat.zero_add, Nat.reduceAdd, List.getElem?_toArray, List.getElem?_cons_zero, List.getElem?_cons_succ, List.length_cons, List.length_nil, Option.map_some, reduceCtorEq, Nat.succ_ne_self, Nat.one_ne_zero, Nat.zero_ne_one, Option.some_beq_some, beq_self_eq_true, Bool.not_true, Bool.not_false, Bool.true_beq, Bool.false_beq, WT, lw, decide_eq_true (show ((nq : Nat) : Int) = 1 by omega), f0, opNil, io4, wrapS (show at' < 1000000000000 by omega)]
    refine (delete_ok hg hcl hlo hq1 hql hone).mono ?_
    rintro rr σ5 ⟨rfl, n5, k5, x5⟩
    have io5 : cellsAt σ5 io 0 = some [.sl id ver 0 qs.length lo 2 ex, vs, vb, .bool busy] := cells_same (k5 io hio_id) io4
    obtain ⟨σ6, e6⟩ : ∃ σ6, σ5.put io (.arr 0 [.sl id ver 0 (qs.length - 1) lo 2 ex, vs, vb, .bool busy]) = σ6 := ⟨_, rfl⟩
    have n6 : σ6.next = σ4.next := by rw [← e6, next_put, n5]
    have get6 : ∀ k, k ≠ io → k ≠ id → σ6.get k = σ4.get k := fun k h1 h2 => by rw [← e6, get_put, if_neg h1, k5 k h2]
    have keep6 : ∀ k, k < σ.next → k ≠ io → k ≠ id → σ6.get k = σ.get k := fun k h0 h1 h2 => (get6 k h1 h2).trans (g04.get k h0)
    obtain ⟨c', w1, ⟨rfl, _⟩, _⟩ := (hwlP σ6 keep6).elt (i := 0) (a := r) rfl
    have c6 : cellsAt σ6 σ.next 0 = some zRx.cells := cells_same (get6 _ (by omega) (by omega)) c4
    have hidx := w1.ix (T := Mq.T) (k := .i64) und79 sz87
    simp only [WW, argTmps, if_true, if_false, Nat.reduceLT, Nat.reduceEqDiff, Nat.zero_add, Nat.reduceAdd, List.getElem?_toArray, List.getElem?_cons_zero, List.getElem?_cons_succ, List.length_cons, List.length_nil, Option.map_some, reduceCtorEq, Nat.succ_ne_self, Nat.one_ne_zero, Nat.zero_ne_one, Option.some_beq_some, beq_self_eq_true, Bool.not_true, Bool.not_false, Bool.true_beq, Bool.false_beq, WT, opNil, st4_0 (v := .sl id ver 0 (qs.length - 1) lo 2 ex) rfl rfl, io5, e6, t1]
    refine Co_draw [] [0, 1, 2, 3, 4, 5, 6] (by kernel_rfl) (by kernel_rfl) (by kernel_rfl) ?_
    have hidx0 : indexAddrA Mq.T 79 wl (.int .i64 0) σ6 = some (idxP wl 0 12) := hidx
    simp only [WW, argTmps, if_true, if_false, Nat.reduceLT, Nat.reduceEqDiff, Nat.zero_add, Nat.reduceAdd, List.getElem?_toArray, List.getElem?_cons_zero, List.getElem?_cons_succ, List.length_cons, List.length_nil, Option.map_some, reduceCtorEq, Nat.succ_ne_self, Nat.one_ne_zero, Nat.zero_ne_one, Option.some_beq_some, beq_self_eq_true, Bool.not_true, Bool.not_false, Bool.true_beq, Bool.false_beq, WD, and_true, true_and, and_self, WT, hidx0, w1.lda ag87 sz87, f5, c6, st87, kr]
    subst hQ
    have hput : ∀ k, k ≠ σ.next → (σ6.put σ.next (.arr 0 r.cells)).get k = σ6.get k := fun k hk => by rw [get_put, if_neg hk]
    refine take_leave (d := 0) (io := σ.next) (r := r) (v := wi1) (w := .bool true) (by simp only [WW, argTmps, if_true, if_false, Nat.reduceLT, Nat.reduceEqDiff, Nat.zero_add, Nat.reduceAdd, List.getElem?_toArray, List.getElem?_cons_zero, List.getElem?_cons_succ, List.length_cons, List.length_nil, Option.map_some, reduceCtorEq, Nat.succ_ne_self, Nat.one_ne_zero, Nat.zero_ne_one, Option.some_beq_some, beq_self_eq_true, Bool.not_true, Bool.not_false, Bool.true_beq, Bool.false_beq]; exact f5) put_cells (by simp only [WW, argTmps, if_true, if_false, Nat.reduceLT, Nat.reduceEqDiff, Nat.zero_add, Nat.reduceAdd, List.getElem?_toArray, List.getElem?_cons_zero, List.getElem?_cons_succ, List.length_cons, List.length_nil, Option.map_some, reduceCtorEq, Nat.succ_ne_self, Nat.one_ne_zero, Nat.zero_ne_one, Option.some_beq_some, beq_self_eq_true, Bool.not_true, Bool.not_false, Bool.true_beq, Bool.false_beq]) (by simp only [WW, argTmps, if_true, if_false, Nat.reduceLT, Nat.reduceEqDiff, Nat.zero_add, Nat.reduceAdd, List.getElem?_toArray, List.getElem?_cons_zero, List.getElem?_cons_succ, List.length_cons, List.length_nil, Option.map_some, reduceCtorEq, Nat.succ_ne_self, Nat.one_ne_zero, Nat.zero_ne_one, Option.some_beq_some, beq_self_eq_true, Bool.not_true, Bool.not_false, Bool.true_beq, Bool.false_beq]) ⟨?_, by rw [next_put, n6]; exact g04.le, fun k h1 h2 h3 => ?_⟩
    · rw [htake]
      have keep7 : ∀ k, k < σ.next → k ≠ io → k ≠ id → (σ6.put σ.next (.arr 0 r.cells)).get k = σ.get k := fun k h0 h1 h2 => (hput k (by omega)).trans (keep6 k h0 h1 h2)
      refine ⟨wi1, .sl id ver 0 (qs.length - 1) lo 2 ex, rfl, ?_, ⟨_, ?_, ⟨hbi, hidB⟩, chunks_erase at' hq1 (hcP _ keep7)⟩, ?_⟩
      · rw [put_cells_ne (by omega), ← e6]; exact put_cells
      · rw [List.length_eraseIdx_of_lt hq1]
        have : elemsA (.sl id ver 0 (qs.length - 1) lo 2 ex) 2 (σ6.put σ.next (.arr 0 r.cells)) = elemsA (.sl id ver 0 (qs.length - 1) lo 2 ex) 2 σ5 := by
          simp only [elemsA, cellsAt]
          rw [hput id (by omega), ← e6, get_put, if_neg (fun e => hio_id e.symm)]
        rw [this]
        exact x5
      · exact t2.keep (fun k hk => by
          have hk : σ.next < k ∧ k < σ4.next := hk
          rw [hput k (by omega), get6 k (by omega) (by omega)]) (fun k hk => ⟨Nat.le_of_lt hk.1, by rw [next_put, n6]; exact hk.2⟩) fun _ _ h => h
    · exact (hput k (by omega)).trans (keep6 k h1 h2 (fun e => h3 (by rw [e]; rfl)))
  have htake : takeP qs l = (qs.set at' ⟨qe, rest⟩, l.drop i, r, true) := by
    rw [ht, hd]
    simp only [takeP, hfi, hq]
    rw [if_neg hone1]
  obtain ⟨wl1, t1, t2, t3⟩ := slice_from (T := Mq.T) und79 sz87 hwl4 (h := 1) (by simp) (by simp)
  have t1 : sliceA Mq.T 79 wl (some (.int .i64 1)) none none = some wl1 := t1
  have hrow : (cq.drop (at' * 2)).take 2 = [.int .i64 qe, wl] := by
    obtain ⟨n2', cs2, d1, d2, d3⟩ := u2
    have hx : elemsA (.sl id ver 0 qs.length lo 2 ex) 2 σ3 = some (qs.length, cq) := by
      have hg3 : σ3.get id = some (.arr ver cq) := by rw [← g4.get id (by have := g03.le; omega)]; exact hg
      simp only [elemsA, cellsAt_of hg3, elemsIn, Nat.beq_refl, Nat.ble_eq_true_of_le hlo, Bool.and_self]
      rw [rowAt_of (by omega), List.drop_zero, List.take_of_length_le (by omega)]
    rw [hx] at d1
    cases d1
    exact d3
  have hspl : spliceAt cq (0 + at' * 2 + 1) [wl1] = cq.take (at' * 2) ++ [.int .i64 qe, wl1] ++ cq.drop ((at' + 1) * 2) := by
    have h1 : cq.take (at' * 2 + 1) = cq.take (at' * 2) ++ [.int .i64 qe] := by
      rw [List.take_add]
      congr 1
      have : (cq.drop (at' * 2)).take 1 = ((cq.drop (at' * 2)).take 2).take 1 := by rw [List.take_take]; rfl
      rw [this, hrow]
      rfl
    unfold spliceAt
    rw [Nat.zero_add, h1]
    have h2 : at' * 2 + 1 + [wl1].length = (at' + 1) * 2 := by simp only [List.length_cons, List.length_nil]; omega
    rw [h2]
    simp
  obtain ⟨σ5, e5⟩ : ∃ σ5, σ4.put id (.arr ver (cq.take (at' * 2) ++ [.int .i64 qe, wl1] ++ cq.drop ((at' + 1) * 2))) = σ5 := ⟨_, rfl⟩
  have hst : storeA Mq.T 79 (addP (idxP (.sl id ver 0 qs.length lo 2 ex) at' 2) 1) wl1 σ4 = some σ5 := by
    show storeA Mq.T 79 (.ptr id ver (0 + at' * 2 + 1)) wl1 σ4 = some σ5
    rw [store_ptr, cellsAt_of hg, sz79, stC_some (by rw [t3]; rfl) (by rw [t3]; simp [t2.one]) (by omega), t3, hspl, e5]
  have u4 := elt_keep (τ := σ4) (p := (· < σ3.next)) u2 (by show id < σ3.next; have := g03.le; omega) (fun k hk => g4.get k hk)
  have n5 : σ5.next = σ4.next := by rw [← e5, next_put]
  have get5 : ∀ k, k ≠ id → σ5.get k = σ4.get k := fun k h1 => by rw [← e5, get_put, if_neg h1]
  have keep5 : ∀ k, k < σ.next → k ≠ io → k ≠ id → σ5.get k = σ.get k := fun k h0 h1 h2 => (get5 k h2).trans (g04.get k h0)
  obtain ⟨c', w1, ⟨rfl, _⟩, _⟩ := (hwlP σ5 keep5).elt (i := 0) (a := r) rfl
  have c6 : cellsAt σ5 σ.next 0 = some zRx.cells := cells_same (get5 _ (by omega)) c4
  have hidx0 : indexAddrA Mq.T 79 wl (.int .i64 0) σ5 = some (idxP wl 0 12) := w1.ix (T := Mq.T) (k := .i64) und79 sz87
  simp only [WW, argTmps, if_true, if_false, Nat.reduceLT, Nat.reduceEqDiff, Nat.zero_add, Nat.reduceAdd, List.getElem?_toArray, List.getElem?_cons_zero, List.getElem?_cons_succ, List.length_cons, List.length_nil, Option.map_some, reduceCtorEq, Nat.succ_ne_self, Nat.one_ne_zero, Nat.zero_ne_one, Option.some_beq_some, beq_self_eq_true, Bool.not_true, Bool.not_false, Bool.true_beq, Bool.false_beq, WT, lw, decide_eq_false (show ¬ ((nq : Nat) : Int) = 1 by omega)]
  refine Co_draw [] [0, 1, 2, 3, 4, 5, 6, 7, 8, 9] (by kernel_rfl) (by kernel_rfl) (by kernel_rfl) ?_
  simp only [WW, argTmps, if_true, if_false, Nat.reduceLT, Nat.reduceEqDiff, Nat.zero_add, Nat.reduceAdd, List.getElem?_toArray, List.getElem?_cons_zero, List.getElem?_cons_succ, List.length_cons, List.length_nil, Option.map_some, reduceCtorEq, Nat.succ_ne_self, Nat.one_ne_zero, Nat.zero_ne_one, Option.some_beq_some, beq_self_eq_true, Bool.not_true, Bool.not_false, Bool.true_beq, Bool.false_beq, WD, and_true, true_and, and_self, WT, f0, opNil, io4, t1, u4.ix und61 sz81, u4.fa (fun _ _ _ => fa81_1) (fun _ _ => fr81_1), hst]
  refine Co_draw [] [0, 1, 2, 3, 4, 5, 6] (by kernel_rfl) (by kernel_rfl) (by kernel_rfl) ?_
  simp only [WW, argTmps, if_true, if_false, Nat.reduceLT, Nat.reduceEqDiff, Nat.zero_add, Nat.reduceAdd, List.getElem?_toArray, List.getElem?_cons_zero, List.getElem?_cons_succ, List.length_cons, List.length_nil, Option.map_some, reduceCtorEq, Nat.succ_ne_self, Nat.one_ne_zero, Nat.zero_ne_one, Option.some_beq_some, beq_self_eq_true, Bool.not_true, Bool.not_false, Bool.true_beq, Bool.false_beq, WD, and_true, true_and, and_self, WT, hidx0, w1.lda ag87 sz87, f5, c6, st87, kr]
  subst hQ
  have hput : ∀ k, k ≠ σ.next → (σ5.put σ.next (.arr 0 r.cells)).get k = σ5.get k := fun k hk => by rw [get_put, if_neg hk]
  refine take_leave (d := 0) (io := σ.next) (r := r) (v := left) (w := .bool true) (by simp only [WW, argTmps, if_true, if_false, Nat.reduceLT, Nat.reduceEqDiff, Nat.zero_add, Nat.reduceAdd, List.getElem?_toArray, List.getElem?_cons_zero, List.getElem?_cons_succ, List.length_cons, List.length_nil, Option.map_some, reduceCtorEq, Nat.succ_ne_self, Nat.one_ne_zero, Nat.zero_ne_one, Option.some_beq_some, beq_self_eq_true, Bool.not_true, Bool.not_false, Bool.true_beq, Bool.false_beq]; exact f5) put_cells (by simp only [WW, argTmps, if_true, if_false, Nat.reduceLT, Nat.reduceEqDiff, Nat.zero_add, Nat.reduceAdd, List.getElem?_toArray, List.getElem?_cons_zero, List.getElem?_cons_succ, List.length_cons, List.length_nil, Option.map_some, reduceCtorEq, Nat.succ_ne_self, Nat.one_ne_zero, Nat.zero_ne_one, Option.some_beq_some, beq_self_eq_true, Bool.not_true, Bool.not_false, Bool.true_beq, Bool.false_beq]) (by simp only [WW, argTmps, if_true, if_false, Nat.reduceLT, Nat.reduceEqDiff, Nat.zero_add, Nat.reduceAdd, List.getElem?_toArray, List.getElem?_cons_zero, List.getElem?_cons_succ, List.length_cons, List.length_nil, Option.map_some, reduceCtorEq, Nat.succ_ne_self, Nat.one_ne_zero, Nat.zero_ne_one, Option.some_beq_some, beq_self_eq_true, Bool.not_true, Bool.not_false, Bool.true_beq, Bool.false_beq]) ⟨?_, by rw [next_put, n5]; exact g04.le, fun k h1 h2 h3 => ?_⟩
  · rw [htake]
    have keep7 : ∀ k, k < σ.next → k ≠ io → k ≠ id → (σ5.put σ.next (.arr 0 r.cells)).get k = σ.get k := fun k h0 h1 h2 => (hput k (by omega)).trans (keep5 k h0 h1 h2)
    have hg7 : (σ5.put σ.next (.arr 0 r.cells)).get id = some (.arr ver (cq.take (at' * 2) ++ [.int .i64 qe, wl1] ++ cq.drop ((at' + 1) * 2))) := by rw [hput id (by omega), ← e5, get_put, if_pos rfl]
    have hlen7 : (cq.take (at' * 2) ++ [.int .i64 qe, wl1] ++ cq.drop ((at' + 1) * 2)).length = qs.length * 2 := by
      simp only [List.length_append, List.length_take, List.length_drop, List.length_cons, List.length_nil]
      omega
    obtain ⟨wl2, y1, y2, y3⟩ := slice_from (T := Mq.T) und79 sz87 (hwlP _ keep7) (h := 1) (by simp) (by simp)
    have y1 : sliceA Mq.T 79 wl (some (.int .i64 1)) none none = some wl2 := y1
    obtain rfl : wl1 = wl2 := Option.some.inj (t1.symm.trans y1)
    refine ⟨left, .sl id ver 0 qs.length lo 2 ex, rfl, ?_, ⟨_, ?_, ⟨hbi, hidB⟩, chunks_set at' hq1 (hcP _ keep7) rfl ⟨wl1, rfl, y2⟩⟩, ?_⟩
    · exact cells_same ((hput io (by omega)).trans (get5 io hio_id)) io4
    · rw [List.length_set]
      simp only [elemsA, cellsAt_of hg7, elemsIn, Nat.beq_refl, Nat.ble_eq_true_of_le hlo, Bool.and_self]
      rw [rowAt_of (by omega), List.drop_zero, List.take_of_length_le (by omega)]
    · exact hleft.keep (fun k hk => by
        have hk : σ.next < k ∧ k < σ4.next := hk
        rw [hput k (by omega), get5 k (by omega)]) (fun k hk => ⟨Nat.le_of_lt hk.1, by rw [next_put, n5]; exact hk.2⟩) fun _ _ h => h
  · exact (hput k (by omega)).trans (keep5 k h1 h2 (fun e => h3 (by rw [e]; rfl)))
end Go.Proofs.YtmchghdmejbblaaGreatDoor
