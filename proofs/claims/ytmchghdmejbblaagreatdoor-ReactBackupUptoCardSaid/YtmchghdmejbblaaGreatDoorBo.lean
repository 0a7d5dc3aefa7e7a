/- Reactions in memory of their own: what is kept, and what is appended to. -/
import Derived.Test.YtmchghdmejbblaaGreatDoorBm
import Derived.Test.YtmchghdmejbblaaGreatDoorBn
set_option linter.unusedSimpArgs false
set_option linter.unusedVariables false
noncomputable section
namespace Go.Proofs.YtmchghdmejbblaaGreatDoor
open Go Go.Ab Go.RowKit

theorem chunks_ones {α : Type} {n : Nat} {E : List AV → α → Prop} (i : ∀ c a, E c a → c.all AV.one = true) : ∀ {l : List α} {cs : List AV}, Chunks n E cs l → cs.all AV.one = true
  | [], _, h => by cases h; rfl
  | _ :: _, _, h => by
    obtain ⟨c, r, rfl, h2, h3, h4⟩ := h
    rw [List.all_append, i _ _ h3, chunks_ones i h4]; rfl
theorem ei_one (c : List AV) (a : Int) (h : EI c a) : c.all AV.one = true := by cases h; rfl
theorem er_one (c : List AV) (a : Rx) (h : ER c a) : c.all AV.one = true := by cases h.1; rfl
theorem eq_one {p : Nat → Prop} {σ : St} (c : List AV) (a : Qu) (h : EQ p σ c a) : c.all AV.one = true := by
  obtain ⟨v, rfl, h⟩ := h
  exact fr2 h.one
theorem el_one {p : Nat → Prop} {σ : St} (c : List AV) (a : List Int) (h : EL p σ c a) : c.all AV.one = true := by
  obtain ⟨v, rfl, h⟩ := h
  simp only [List.all_cons, h.one, List.all_nil, Bool.and_self]

theorem build0 {T : Tb} {t e n : Nat} {z : AV} {σ : St} (hu : und T t = some (.slice e)) (hn : sizeA T e = some n) (hz : zeroA T e = some z) (hzl : z.cells.length = n) (h0 : 0 < n) :
    opBuildSlice T t 0 σ (some []) = some (.val (.sl σ.next 0 0 0 0 n true), σ.add (.arr 0 [])) := by
  have hf : (List.all ([] : List AV) AV.one) = true := rfl
  simp only [opBuildSlice, buildSliceA, hu, hn, hz, hzl, Nat.beq_refl, nat_blt h0, Nat.zero_mul, Nat.ble_eq_true_of_le (Nat.zero_le 1048576), Bool.and_self, repeatA, fillA, freshSl, newArr_eq hf, slOf, val2_some]
theorem build1 {T : Tb} {t e n : Nat} {z x : AV} {σ : St} (hu : und T t = some (.slice e)) (hn : sizeA T e = some n) (hz : zeroA T e = some z) (hzl : z.cells.length = n) (h0 : 0 < n) (h1 : n ≤ 1048576) (hx : x.cells.length = n) (ho : x.cells.all AV.one = true) :
    opBuildSlice T t 1 σ (some [(0, x)]) = some (.val (.sl σ.next 0 0 1 1 n true), σ.add (.arr 0 x.cells)) := by
  have hs : spliceAt z.cells 0 x.cells = x.cells := by
    unfold spliceAt
    rw [List.drop_eq_nil_of_le (by omega)]
    simp
  simp only [opBuildSlice, buildSliceA, hu, hn, hz, hzl, Nat.beq_refl, nat_blt h0, Nat.one_mul, Nat.ble_eq_true_of_le h1, Bool.and_self, repeatA, List.append_nil, fillA, Nat.zero_mul, hx, Nat.zero_add, Nat.ble_eq_true_of_le (Nat.le_refl n), hs, freshSl, newArr_eq ho, slOf, val2_some]
theorem eq_nils {T : Tb} {t e n len : Nat} {v : AV} {σ : St} {cells : List AV} (hg : eqgA T t = false) (hu : und T t = some (.slice e)) (h : elemsA v n σ = some (len, cells)) :
    (v = .nils ∧ binA T .eql t v .nils = some (.bool true)) ∨ (v ≠ .nils ∧ binA T .eql t v .nils = some (.bool false)) := by
  rcases elems_cases h with ⟨rfl, _⟩ | ⟨rfl, _⟩ | ⟨_, _, _, _, _, _, rfl, _⟩ | ⟨_, _, _, rfl, _⟩
  · exact .inl ⟨rfl, by show otherBin T .eql t _ _ = _; simp [otherBin, hg, eqA, hu, eqLeaf]⟩
  · exact .inr ⟨by simp, by show otherBin T .eql t _ _ = _; simp [otherBin, hg, eqA, hu, eqLeaf]⟩
  · exact .inr ⟨by simp, by show otherBin T .eql t _ _ = _; simp [otherBin, hg, eqA, hu, eqLeaf]⟩
  · exact .inr ⟨by simp, by show otherBin T .eql t _ _ = _; simp [otherBin, hg, eqA, hu, eqLeaf]⟩

theorem zr3 : zeroA Mq.T 3 = some (.int .i64 0) := by kernel_rfl
theorem zr87 : zeroA Mq.T 87 = some (.agg zRx.cells) := by kernel_rfl
theorem zr81 : zeroA Mq.T 81 = some (.agg [.int .i64 0, .nils]) := by kernel_rfl
theorem zr40 : zeroA Mq.T 40 = some .nils := by kernel_rfl
theorem by3 : bytesA Mq.T 3 = some 8 := by kernel_rfl
theorem by40 : bytesA Mq.T 40 = some 24 := by kernel_rfl
theorem by81 : bytesA Mq.T 81 = some 32 := by kernel_rfl
theorem by87 : bytesA Mq.T 87 = some 128 := by kernel_rfl
theorem b0_40 {σ : St} : opBuildSlice Mq.T 40 0 σ (some []) = some (.val (.sl σ.next 0 0 0 0 1 true), σ.add (.arr 0 [])) := build0 und40 sz3 zr3 rfl (by omega)
theorem b0_79 {σ : St} : opBuildSlice Mq.T 79 0 σ (some []) = some (.val (.sl σ.next 0 0 0 0 12 true), σ.add (.arr 0 [])) := build0 und79 sz87 zr87 rfl (by omega)
theorem b1_61 {σ : St} {i : Int} {v : AV} (o : v.one = true) : opBuildSlice Mq.T 61 1 σ (some [(0, .agg [.int .i64 i, v])]) = some (.val (.sl σ.next 0 0 1 1 2 true), σ.add (.arr 0 [.int .i64 i, v])) := build1 und61 sz81 zr81 rfl (by omega) (by omega) rfl (fr2 o)
theorem b1_62 {σ : St} {v : AV} (o : v.one = true) (c : v.cells = [v]) : opBuildSlice Mq.T 62 1 σ (some [(0, v)]) = some (.val (.sl σ.next 0 0 1 1 1 true), σ.add (.arr 0 [v])) := by
  have h := build1 (T := Mq.T) (t := 62) (x := v) (σ := σ) und62 sz40 zr40 rfl (by omega) (by omega) (by rw [c]; rfl) (by rw [c]; simp [o])
  rw [c] at h
  exact h

theorem fresh_apd {σ : St} {n b : Nat} (hb : b ≤ σ.next) : Apd b (σ.add (.arr 0 [])) (.sl σ.next 0 0 0 0 n true) n [] :=
  .inr ⟨σ.next, 0, 0, 0, true, rfl, hb, by rw [next_add]; omega, get_new, by simp, Nat.le_refl _, fun _ => rfl, fun h => (by cases h)⟩
/-- append([]T{}, s...). -/
theorem clone_app {α : Type} {T : Tb} {t e n by' : Nat} {z x : AV} {σ : St} {E : List AV → α → Prop} {l : List α} (hu : und T t = some (.slice e)) (hn : sizeA T e = some n) (hb : bytesA T e = some by') (hz : zeroA T e = some z) (hzl : z.cells.length = n) (h0 : 0 < n) (hb0 : 0 < by') (hb1 : by' ≤ 65536)
    (hx : Rd (· < σ.next) σ n E x l) (ho : ∀ c a, E c a → c.all AV.one = true) (hl : l.length * n ≤ 16777216) :
    ∃ v' σ', appendA T [t, t] [.sl σ.next 0 0 0 0 n true, x] (σ.add (.arr 0 [])) = some (v', σ') ∧ (∃ cells, Apd σ.next σ' v' n cells ∧ Chunks n E cells l) ∧ Gro σ σ' := by
  obtain ⟨new, h1, h2, h3⟩ := hx.keep (Gro.keeps (Gro.add σ (.arr 0 []))) (q := fun _ => True) (fun _ _ => trivial) (fun _ _ h => h)
  obtain ⟨v', σ', e1, e2, e3, e4, e5, e6⟩ := apd_append hu hn hb hz hzl h0 hb0 hb1 (fresh_apd (n := n) (Nat.le_refl σ.next)) h1 (chunks_ones ho h3) rfl (by rw [h3.length]; simpa using hl) (by rw [next_add]; omega)
  refine ⟨v', σ', e1, ⟨new, by simpa using e2, h3⟩, ⟨by rw [next_add] at e3; omega, fun id hi => ?_⟩⟩
  rw [e5 id (by rw [next_add]; omega) (by simp [AV.own]; omega), get_add, if_neg (Nat.ne_of_lt hi)]

def evP? (i : Nat) (a : Option AV) (b : Option (List (Nat × AV))) : Option (List (Nat × AV)) := match a with | some v => (match b with | some vs => some ((i, v) :: vs) | none => none) | none => none
theorem evParts_nil {fr : Fr} : evParts fr [] = some [] := rfl
theorem evParts_cons {fr : Fr} {i : Nat} {x : Operand} {l : List (Nat × Operand)} : evParts fr ((i, x) :: l) = evP? i (evO fr x) (evParts fr l) := rfl
theorem evP?_some {i : Nat} {v : AV} {l : List (Nat × AV)} : evP? i (some v) (some l) = some ((i, v) :: l) := rfl

theorem fillA_cons {place : Nat → Option (Nat × Nat)} {cells cs : List AV} {i o n : Nat} {v : AV} {rest : List (Nat × AV)} (hp : place i = some (o, n)) (hc : v.cells = cs) (hl : cs.length = n) (hb : o + n ≤ cells.length) :
    fillA place cells ((i, v) :: rest) = fillA place (spliceAt cells o cs) rest := by
  simp only [fillA, hp, hc, hl, Nat.beq_refl, Nat.ble_eq_true_of_le hb, Bool.and_self]
theorem opBuild_some {T : Tb} {t : TypeId} {σ : St} {l : List (Nat × AV)} : opBuild T t σ (some l) = val1 σ (buildA T t l) := rfl
theorem build81_eq (l : List (Nat × AV)) : buildA Mq.T 81 l = aggOf (fillA (fun i => ([(0, 1), (1, 1)] : List (Nat × Nat))[i]?) [.int .i64 0, .nils] l) := by kernel_rfl
theorem bd81 {σ : St} {i : Int} {v : AV} (c : v.cells = [v]) : opBuild Mq.T 81 σ (some [(0, .int .i64 i), (1, v)]) = some (.val (.agg [.int .i64 i, v]), σ) := by
  rw [opBuild_some, build81_eq, fillA_cons (o := 0) (n := 1) rfl rfl rfl (by decide), fillA_cons (o := 1) (n := 1) rfl c rfl (by simp [spliceAt, AV.cells])]
  rfl
theorem build64_eq (l : List (Nat × AV)) : buildA Mq.T 64 l = aggOf (fillA (fun i => ([(0, 1), (1, 1), (2, 1), (3, 1)] : List (Nat × Nat))[i]?) [.nils, .nils, .nils, .bool false] l) := by kernel_rfl
theorem bd64_32 {σ : St} {b : Bool} {v : AV} (c : v.cells = [v]) : opBuild Mq.T 64 σ (some [(3, .bool b), (2, v)]) = some (.val (.agg [.nils, .nils, v, .bool b]), σ) := by
  rw [opBuild_some, build64_eq, fillA_cons (o := 3) (n := 1) rfl rfl rfl (by decide), fillA_cons (o := 2) (n := 1) rfl c rfl (by simp [spliceAt, AV.cells])]
  rfl
theorem bd64_23 {σ : St} {b : Bool} {v : AV} (c : v.cells = [v]) : opBuild Mq.T 64 σ (some [(2, v), (3, .bool b)]) = some (.val (.agg [.nils, .nils, v, .bool b]), σ) := by
  rw [opBuild_some, build64_eq, fillA_cons (o := 2) (n := 1) rfl c rfl (by decide), fillA_cons (o := 3) (n := 1) rfl rfl rfl (by simp [spliceAt])]
  rfl
theorem bd64_0 {σ : St} : opBuild Mq.T 64 σ (some []) = some (.val (.agg [.nils, .nils, .nils, .bool false]), σ) := by
  rw [opBuild_some, build64_eq]
  rfl
theorem bd87_0 {σ : St} : opBuild Mq.T 87 σ (some []) = some (.val (.agg zRx.cells), σ) := by
  have h : buildA Mq.T 87 [] = some (.agg zRx.cells) := by kernel_rfl
  rw [opBuild_some, h]
  rfl
section
variable {id : Nat} {σ : St} {v a b c d : AV}
theorem st4_0 (k : v.cells = [v]) (o : v.one = true) : stC id 0 0 v σ (some [a, b, c, d]) (some 1) = some (σ.put id (.arr 0 [v, b, c, d])) := by
  rw [stC_some (by rw [k]; rfl) (by rw [k]; simp [o]) (by simp)]
  simp [spliceAt, k]
theorem st4_1 (k : v.cells = [v]) (o : v.one = true) : stC id 0 1 v σ (some [a, b, c, d]) (some 1) = some (σ.put id (.arr 0 [a, v, c, d])) := by
  rw [stC_some (by rw [k]; rfl) (by rw [k]; simp [o]) (by simp)]
  simp [spliceAt, k]
theorem st4_2 (k : v.cells = [v]) (o : v.one = true) : stC id 0 2 v σ (some [a, b, c, d]) (some 1) = some (σ.put id (.arr 0 [a, b, v, d])) := by
  rw [stC_some (by rw [k]; rfl) (by rw [k]; simp [o]) (by simp)]
  simp [spliceAt, k]
theorem st4_3 (k : v.cells = [v]) (o : v.one = true) : stC id 0 3 v σ (some [a, b, c, d]) (some 1) = some (σ.put id (.arr 0 [a, b, c, v])) := by
  rw [stC_some (by rw [k]; rfl) (by rw [k]; simp [o]) (by simp)]
  simp [spliceAt, k]
end

/-! ### What lies in memory of its own -/
def Pown (b : Nat) (σ : St) (vq vs : AV) (id : Nat) : Prop := b ≤ id ∧ id < σ.next ∧ vq.own ≠ some id ∧ vs.own ≠ some id
structure OutP (b : Nat) (σ : St) (vq vs vb : AV) (qs : List Qu) (st : List (List Int)) (bk : List Int) : Prop where
  fq : ∃ cq, Apd b σ vq 2 cq ∧ Chunks 2 (EQ (Pown b σ vq vs) σ) cq qs
  fs : ∃ cs, Apd b σ vs 1 cs ∧ Chunks 1 (EL (Pown b σ vq vs) σ) cs st
  fb : ∃ cb, Apd b σ vb 1 cb ∧ Chunks 1 EI cb bk
  bown : ∀ id, vb.own = some id → Pown b σ vq vs id
  ne : ∀ id, vq.own = some id → vs.own ≠ some id
section
variable {b : Nat} {σ σ' : St} {vq vs vb : AV} {qs : List Qu} {st : List (List Int)} {bk : List Int}
theorem OutP.grow (h : OutP b σ vq vs vb qs st bk) (hn : σ.next ≤ σ'.next) (k : ∀ id, b ≤ id → id < σ.next → σ'.get id = σ.get id) : OutP b σ' vq vs vb qs st bk := by
  obtain ⟨⟨cq, q1, q2⟩, ⟨cs, s1, s2⟩, ⟨cb, b1, b2⟩, bo, ne⟩ := h
  have kp : Keeps (Pown b σ vq vs) σ σ' := fun id hi => k id hi.1 hi.2.1
  have ip : ∀ id, Pown b σ vq vs id → Pown b σ' vq vs id := fun id hi => ⟨hi.1, by have := hi.2.1; omega, hi.2.2⟩
  exact ⟨⟨cq, q1.keep hn (fun id e => k id (q1.own_lt e).1 (q1.own_lt e).2), q2.mono fun c a e => e.keep kp ip⟩, ⟨cs, s1.keep hn (fun id e => k id (s1.own_lt e).1 (s1.own_lt e).2), s2.mono fun c a e => e.keep kp ip⟩,
    ⟨cb, b1.keep hn (fun id e => k id (b1.own_lt e).1 (b1.own_lt e).2), b2⟩, fun id e => ip id (bo id e), ne⟩
theorem OutP.gro (h : OutP b σ vq vs vb qs st bk) (g : Gro σ σ') : OutP b σ' vq vs vb qs st bk := h.grow g.le fun id _ hi => g.get id hi
theorem OutP.put (h : OutP b σ vq vs vb qs st bk) {id : Nat} {o : AObj} (hi : id < b) : OutP b (σ.put id o) vq vs vb qs st bk := h.grow (by rw [next_put]; omega) fun i hb _ => by rw [get_put, if_neg (by omega)]
theorem OutP.reads (h : OutP b σ vq vs vb qs st bk) (busy : Bool) : ReC (fun id => b ≤ id ∧ id < σ.next) σ [vq, vs, vb, .bool busy] ⟨qs, st, bk, busy⟩ := by
  obtain ⟨⟨cq, q1, q2⟩, ⟨cs, s1, s2⟩, ⟨cb, b1, b2⟩, bo, ne⟩ := h
  have ip : ∀ id, Pown b σ vq vs id → b ≤ id ∧ id < σ.next := fun id hi => ⟨hi.1, hi.2.1⟩
  have kp : Keeps (Pown b σ vq vs) σ σ := fun _ _ => rfl
  exact ⟨vq, vs, vb, rfl, q1.rd (q2.mono fun c a e => e.keep kp ip) (by omega) (fun id _ h1 h2 => ⟨h1, h2⟩), s1.rd (s2.mono fun c a e => e.keep kp ip) (by omega) (fun id _ h1 h2 => ⟨h1, h2⟩), b1.rd b2 (by omega) (fun id _ h1 h2 => ⟨h1, h2⟩)⟩
theorem OutP.push_q (h : OutP b σ vq vs vb qs st bk) (hbs : b ≤ σ.next) {q : Qu} {x vl : AV} (hx : elemsA x 2 σ = some (1, [.int .i64 q.el, vl])) (hvl : Rd (Pown b σ vq vs) σ 12 ER vl q.list) (hl : qs.length < Bd) :
    ∃ vq' σ', appendA Mq.T [61, 61] [vq, x] σ = some (vq', σ') ∧ OutP b σ' vq' vs vb (qs ++ [q]) st bk ∧ (∀ id, id < b → σ'.get id = σ.get id) ∧ σ.next ≤ σ'.next ∧ vq'.one = true ∧ vq'.cells = [vq'] := by
  obtain ⟨⟨cq, q1, q2⟩, ⟨cs, s1, s2⟩, ⟨cb, b1, b2⟩, bo, ne⟩ := h
  unfold Bd at hl
  obtain ⟨vq', σ', e1, e2, e3, e4, e5, e6⟩ := apd_append und61 sz81 by81 zr81 rfl (by omega) (by omega) (by omega) q1 hx (fr2 hvl.one) (chunks_ones eq_one q2) (by rw [q2.length]; simp; omega) hbs
  have kp : Keeps (Pown b σ vq vs) σ σ' := fun id hi => e5 id hi.2.1 hi.2.2.1
  have ip : ∀ id, Pown b σ vq vs id → Pown b σ' vq' vs id := fun id hi => ⟨hi.1, by have := hi.2.1; omega, by
    rcases e6 with e | e <;> rw [e]
    · exact hi.2.2.1
    · intro e; cases e; exact Nat.lt_irrefl _ hi.2.1, hi.2.2.2⟩
  refine ⟨vq', σ', e1, ⟨⟨_, e2, (q2.mono fun c a e => e.keep kp ip).append (Chunks.one rfl ⟨vl, rfl, hvl.keep kp ip fun _ _ h => h⟩)⟩,
    ⟨cs, s1.keep e3 (fun id e => e5 id (s1.own_lt e).2 (fun e' => ne id e' e)), s2.mono fun c a e => e.keep kp ip⟩, ⟨cb, b1.keep e3 (fun id e => kp id (bo id e)), b2⟩, fun id e => ip id (bo id e), fun id e => ?_⟩, fun id hi => ?_, e3, e2.one.1, e2.one.2⟩
  · rcases e6 with e' | e' <;> rw [e'] at e
    · exact ne id e
    · cases e
      intro hs
      exact Nat.lt_irrefl _ (s1.own_lt hs).2
  · exact e5 id (by omega) (fun e => by have := (q1.own_lt e).1; omega)
theorem OutP.push_s (h : OutP b σ vq vs vb qs st bk) (hbs : b ≤ σ.next) {l : List Int} {x vl : AV} (hx : elemsA x 1 σ = some (1, [vl])) (hvl : Rd (Pown b σ vq vs) σ 1 EI vl l) (hl : st.length ≤ Bd) :
    ∃ vs' σ', appendA Mq.T [62, 62] [vs, x] σ = some (vs', σ') ∧ OutP b σ' vq vs' vb qs (st ++ [l]) bk ∧ (∀ id, id < b → σ'.get id = σ.get id) ∧ σ.next ≤ σ'.next ∧ vs'.one = true ∧ vs'.cells = [vs'] := by
  obtain ⟨⟨cq, q1, q2⟩, ⟨cs, s1, s2⟩, ⟨cb, b1, b2⟩, bo, ne⟩ := h
  unfold Bd at hl
  obtain ⟨vs', σ', e1, e2, e3, e4, e5, e6⟩ := apd_append und62 sz40 by40 zr40 rfl (by omega) (by omega) (by omega) s1 hx (by simp only [List.all_cons, hvl.one, List.all_nil, Bool.and_self]) (chunks_ones el_one s2) (by rw [s2.length]; simp; omega) hbs
  have kp : Keeps (Pown b σ vq vs) σ σ' := fun id hi => e5 id hi.2.1 hi.2.2.2
  have ip : ∀ id, Pown b σ vq vs id → Pown b σ' vq vs' id := fun id hi => ⟨hi.1, by have := hi.2.1; omega, hi.2.2.1, by
    rcases e6 with e | e <;> rw [e]
    · exact hi.2.2.2
    · intro e; cases e; exact Nat.lt_irrefl _ hi.2.1⟩
  refine ⟨vs', σ', e1, ⟨⟨cq, q1.keep e3 (fun id e => e5 id (q1.own_lt e).2 (ne id e)), q2.mono fun c a e => e.keep kp ip⟩,
    ⟨_, e2, (s2.mono fun c a e => e.keep kp ip).append (Chunks.one rfl ⟨vl, rfl, hvl.keep kp ip fun _ _ h => h⟩)⟩, ⟨cb, b1.keep e3 (fun id e => kp id (bo id e)), b2⟩, fun id e => ip id (bo id e), fun id e => ?_⟩, fun id hi => ?_, e3, e2.one.1, e2.one.2⟩
  · rcases e6 with e' | e' <;> rw [e']
    · exact ne id e
    · intro hs
      cases hs
      exact Nat.lt_irrefl _ (q1.own_lt e).2
  · exact e5 id (by omega) (fun e => by have := (s1.own_lt e).1; omega)
end
end Go.Proofs.YtmchghdmejbblaaGreatDoor
